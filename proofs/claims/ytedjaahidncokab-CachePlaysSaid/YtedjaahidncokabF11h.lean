/- law11: does, Through, not there, and there is none. -/
import Derived.Test.YtedjaahidncokabF11g
import Derived.Deep.QuietTactic
import Derived.BigQuiet
namespace Go.Proofs.Ytedjaahidncokab
open Go.RowKit

set_option maxHeartbeats 8000000 in
set_option maxRecDepth 100000 in
theorem does_miss (gr base g bm : Nat) (ob : Option Nat) (size : Nat) (items : Items) (hits misses kind i : Int) (s : ByteArray) (iv : Value) (w : World) (h : Pair w gr base g bm ob size items hits misses iv) (hgr : gr < w.heap.size) (hsm : Small hits misses) (hk : kind ≠ 1 ∧ kind ≠ 2 ∧ kind ≠ 3) (ht : look items i = none) :
    Calls Try.prog 12 #[.pointer (some ⟨g, 0, none⟩), .agg #[.int .i64 size, iv, .int .i64 hits, .int .i64 misses], .agg #[.int .i64 kind, .int .i64 i, .int .i64 0, .string s]] w (DoesPost w gr base g bm ob size hits misses) := by
  obtain ⟨hC, A, c, rfl, hc, hm, hr⟩ := h
  have hfoot := Lib.hid hC.lt
  obtain ⟨hl0, hl1, hl2⟩ := hC.len
  have HSM := Lib.hid hsm
  obtain ⟨s0, s1, s2, s3⟩ := hsm
  have HR := Lib.hid hr
  have HT := Lib.hid ht
  have hD := Lib.hid (dw_is (foot g bm ob) w size A items.length c hits misses kind i 0 s)
  have HCx : Hid (CacheAt (dw w size A items.length c hits misses kind i 0 s) base g bm ob size items hits misses) := hC.kp (S := fun _ => False) (((Kp.refl _ w).alloc _ |>.alloc _).alloc _) (fun b hb => hb.elim)
  unfold dw at hD HCx
  have b1 : (kind == 1) = false := by simpa using hk.1
  have b2 : (kind == 2) = false := by simpa using hk.2.1
  have b3 : (kind == 3) = false := by simpa using hk.2.2
  have HW : Hid (TWay size items hits misses i 0 s (putIn size items i s) hits (misses + 1) s 0 1) := .inr (.inl ⟨ht, rfl, rfl, rfl, rfl, rfl, rfl, rfl⟩)
  clear hC hr hk ht
  go_enter Try.func12, Try.ntmps12
  go_wp2_with fail
  generalize (((w.alloc (.cells #[.int .i64 size, .slice A items.length c, .int .i64 hits, .int .i64 misses] 38)).alloc (.cells #[.int .i64 kind, .int .i64 i, .int .i64 0, .string s] 40)).alloc (.cells #[.int .i64 0, .slice none 0 0, .int .i64 0, .int .i64 0] 38)) = wx at hD HCx ⊢
  have hzx := hD.out.size
  have hIx : ItemsAt wx (fun b => b < w.heap.size ∧ ¬ foot g bm ob b ∧ b ≠ gr) (.slice A items.length c) items := ⟨A, c, rfl, hc, hm, HR.out.kp hD.out.low (fun b hb => ⟨hb.1, hb.2.1⟩)⟩
  refine (rget_any size _ items hits misses i wx _ hIx (fun b hb => by omega) hl0 hl1 hl2 s0 s1 s2 s3).mono ?_
  clear hIx
  intro e w1 hrg0
  have hrg : RGetPost wx (fun b => b < w.heap.size ∧ ¬ foot g bm ob b ∧ b ≠ gr) size items hits (misses + 1) ByteArray.empty false e w1 := by
    rcases hrg0 with ⟨t', ht', h⟩ | ⟨ht', h⟩
    · rw [HT.out] at ht'; cases ht'
    · exact h
  clear hrg0
  obtain ⟨iv1, rfl, ⟨A1, c1, rfl, hI1⟩, hB1⟩ := hrg
  have hz1 := hB1.size
  have HI1 := Lib.hid hI1
  have hD1 := Lib.hid (hD.out.on (S' := fun b => wx.heap.size ≤ b) ⟨hB1.os, hB1.tape, hB1.output, hB1.size, fun i hi _ => hB1.block i hi⟩ (fun b hb => .inr (by omega)))
  have HC1 := Lib.hid (HCx.out.kp (S := fun _ => False) ⟨hB1.os, hB1.tape, hB1.output, hB1.size, fun i hi _ => hB1.block i hi⟩ (fun b hb => hb.elim))
  have a1 : w1.cell? ⟨w.heap.size + 1, 1, none⟩ = some (.int .i64 i) := by rw [hD1.out.b2.cell]; rfl
  have a2 : w1.cell? ⟨w.heap.size + 1, 2, none⟩ = some (.int .i64 0) := by rw [hD1.out.b2.cell]; rfl
  have a3 : w1.cell? ⟨w.heap.size + 1, 3, none⟩ = some (.string s) := by rw [hD1.out.b2.cell]; rfl
  have z1 : w.heap.size + 1 < w1.heap.size := by omega
  clear hI1 hB1
  have z0 : w.heap.size < w1.heap.size := by omega
  have hbd : Hid (hits ≤ hits ∧ hits ≤ hits + 1 ∧ misses ≤ misses + 1 ∧ misses + 1 ≤ misses + 1) := by unfold Hid; omega
  go_wp2_with fail
  go_quiet (fail)
  rename_i nq
  go_wp2_with fail
  have hQ2 : Hid (Blk ((w1.alloc (.cells #[.int .i64 size, .slice A1 items.length c1, .int .i64 hits, .int .i64 (misses + 1)] 38)).drewN nq) w1.heap.size 38 [.int .i64 size, .slice A1 items.length c1, .int .i64 hits, .int .i64 (misses + 1)]) := (Blk.new w1 38 [.int .i64 size, .slice A1 items.length c1, .int .i64 hits, .int .i64 (misses + 1)])
  have k12 : Hid (Kp (fun _ => False) w1 ((w1.alloc (.cells #[.int .i64 size, .slice A1 items.length c1, .int .i64 hits, .int .i64 (misses + 1)] 38)).drewN nq)) := ((Kp.refl _ w1).alloc _).drewN nq
  generalize ((w1.alloc (.cells #[.int .i64 size, .slice A1 items.length c1, .int .i64 hits, .int .i64 (misses + 1)] 38)).drewN nq) = w2 at hQ2 k12 ⊢
  have hz2 : w1.heap.size < w2.heap.size := hQ2.out.lt
  have hI2 : ItemsAt w2 (fun b => (b < w.heap.size ∧ ¬ foot g bm ob b ∧ b ≠ gr) ∨ (wx.heap.size ≤ b ∧ b < w1.heap.size)) (.slice A1 items.length c1) items := (ItemsAt.kp (⟨A1, c1, rfl, HI1.out⟩ : ItemsAt w1 _ (.slice A1 items.length c1) items) k12.out (fun b hb => ⟨by omega, fun h => h⟩))
  refine (rput_any size _ items hits (misses + 1) i s w2 _ hI2 (fun b hb => by omega) (by omega) hl1 hl2).mono ?_
  clear hI2
  rintro e w4 ⟨iv4, rfl, ⟨A4, c4, rfl, hI4⟩, hB4⟩
  have HI4 := Lib.hid hI4
  have hz4 := hB4.size
  have k14 : Hid (Kp (fun _ => False) w1 w4) := k12.out.trans (Kp.of_below hB4) (fun b _ hb => hb)
  have hQ4 := Lib.hid (hQ2.out.below hB4 hz2)
  have hD4 := Lib.hid (hD1.out.on k14.out (fun b hb => hb.elim))
  have a4 : w4.cell? ⟨w.heap.size + 1, 1, none⟩ = some (.int .i64 i) := by rw [hD4.out.b2.cell]; rfl
  have l0 : w4.cell? ⟨w1.heap.size, 0, none⟩ = some (.int .i64 size) := by rw [hQ4.out.cell]; rfl
  have l1 : w4.cell? ⟨w1.heap.size, 1, none⟩ = some (.slice A1 items.length c1) := by rw [hQ4.out.cell]; rfl
  have l2 : w4.cell? ⟨w1.heap.size, 2, none⟩ = some (.int .i64 hits) := by rw [hQ4.out.cell]; rfl
  have l3 : w4.cell? ⟨w1.heap.size, 3, none⟩ = some (.int .i64 (misses + 1)) := by rw [hQ4.out.cell]; rfl
  have f0 : w4.frozen? ⟨w1.heap.size, 0, none⟩ = false := hQ4.out.frozen 0
  have f1 : w4.frozen? ⟨w1.heap.size, 1, none⟩ = false := hQ4.out.frozen 1
  have f2 : w4.frozen? ⟨w1.heap.size, 2, none⟩ = false := hQ4.out.frozen 2
  have f3 : w4.frozen? ⟨w1.heap.size, 3, none⟩ = false := hQ4.out.frozen 3
  have z3 : w.heap.size + 1 < w4.heap.size := by omega
  have z4 : w.heap.size < w4.heap.size := by omega
  have z5 : w1.heap.size ≠ w.heap.size + 1 := by omega
  clear hI4 hB4
  generalize hit' : putIn size items i s = items' at *
  clear hit'
  go_wp2_with fail
  have hQ : Hid (Blk ((set4 w4 w1.heap.size (.int .i64 size) (.slice A4 items'.length c4) (.int .i64 hits) (.int .i64 (misses + 1))).alloc (.cells #[.int .i64 0] 3)) w1.heap.size 38 [.int .i64 size, .slice A4 items'.length c4, .int .i64 hits, .int .i64 (misses + 1)]) := (blk_set4 hQ4.out _ _ _ _).alloc _
  have hN : Hid (Blk ((set4 w4 w1.heap.size (.int .i64 size) (.slice A4 items'.length c4) (.int .i64 hits) (.int .i64 (misses + 1))).alloc (.cells #[.int .i64 0] 3)) w4.heap.size 3 [.int .i64 0]) := by
    have := Blk.new (set4 w4 w1.heap.size (.int .i64 size) (.slice A4 items'.length c4) (.int .i64 hits) (.int .i64 (misses + 1))) 3 [.int .i64 0]
    have hsz : (set4 w4 w1.heap.size (.int .i64 size) (.slice A4 items'.length c4) (.int .i64 hits) (.int .i64 (misses + 1))).heap.size = w4.heap.size := by unfold set4; simp
    rw [hsz] at this
    exact this
  have k43 : Hid (Kp (fun b => b = w1.heap.size) w4 ((set4 w4 w1.heap.size (.int .i64 size) (.slice A4 items'.length c4) (.int .i64 hits) (.int .i64 (misses + 1))).alloc (.cells #[.int .i64 0] 3))) := (kp_set4 _ _ _ _ _ _).alloc _
  unfold set4 at hQ hN k43
  generalize (((((w4.setCell ⟨w1.heap.size, 0, none⟩ (.int .i64 size)).setCell ⟨w1.heap.size, 1, none⟩ (.slice A4 items'.length c4)).setCell ⟨w1.heap.size, 2, none⟩ (.int .i64 hits)).setCell ⟨w1.heap.size, 3, none⟩ (.int .i64 (misses + 1))).alloc (.cells #[.int .i64 0] 3)) = w3 at hQ hN k43 ⊢
  have hD3 := Lib.hid (hD4.out.on k43.out (fun b hb => .inr (by omega)))
  have HC3 := Lib.hid ((HC1.out.kp k14.out (fun b hb => hb.elim)).kp k43.out (fun b hb hf => by have := hfoot.out _ hf; omega))
  obtain ⟨gq, hgq⟩ : ∃ gq, gq = w1.heap.size := ⟨_, rfl⟩
  obtain ⟨gn, hgn⟩ : ∃ gn, gn = w4.heap.size := ⟨_, rfl⟩
  have hI3 : Hid (ItemsAt w3 (fun b => w2.heap.size ≤ b ∧ b < w4.heap.size) (.slice A4 items'.length c4) items') := (ItemsAt.kp (⟨A4, c4, rfl, HI4.out⟩ : ItemsAt w4 _ (.slice A4 items'.length c4) items') k43.out (fun b hb => ⟨by omega, fun h => by omega⟩))
  have hlt3 : w4.heap.size < w3.heap.size := hN.out.lt
  have hZ : Hid (∀ b, (w2.heap.size ≤ b ∧ b < w4.heap.size) → b < w3.heap.size ∧ ¬ foot g bm ob b ∧ b ≠ w.heap.size + 1 + 1 ∧ b ≠ gn ∧ b ≠ gr) := by
    intro b hb
    exact ⟨by omega, fun hf => by have := hfoot.out _ hf; omega, by omega, by omega, by omega⟩
  rw [← hgn] at hN ⊢
  rw [← hgq] at hQ ⊢
  have hq1 : w.heap.size + 3 ≤ gq := by omega
  have hq2 : w.heap.size + 3 ≤ gn := by omega
  have hq3 : gq ≠ gn := by omega
  have hq4 : gn < w3.heap.size := by omega
  clear hgq hgn
  have HEND := Lib.hid (thr_end (base := base) (size := size) hI3.out hZ.out hD3.out.low hfoot.out hq2 (by omega) hbd.out)
  have hfn : Hid (¬ foot g bm ob gn) := by intro hf; have := hfoot.out _ hf; omega
  have hfa : Hid (¬ foot g bm ob (w.heap.size + 1)) := by intro hf; have := hfoot.out _ hf; omega
  refine (thr_any base g bm size ob items hits misses kind i 0 s gn (w.heap.size + 1) w3 HC3.out hN.out hD3.out.b2 hfn.out hfa.out HSM.out items' hits (misses + 1) s 0 1 HW.out).mono ?_
  rintro e w5 ⟨ob', rfl, hc5, hk5, ho5, hn5⟩
  have HC5 := Lib.hid hc5
  have HK5 := Lib.hid hk5
  have HO5 := Lib.hid ho5
  have k1 := hQ.out.kp hk5 (fun hf => by rcases hf with hf | hf; (have := hfoot.out _ hf; omega); omega)
  have k2 := hD3.out.b3.kp hk5 (fun hf => by rcases hf with hf | hf; (have := hfoot.out _ hf; omega); omega)
  have p0 : w5.cell? ⟨gn, 0, none⟩ = some (.int .i64 1) := by rw [hn5.cell]; rfl
  have n0 : w5.cell? ⟨gq, 0, none⟩ = some (.int .i64 size) := by rw [k1.cell]; rfl
  have n1 : w5.cell? ⟨gq, 1, none⟩ = some (.slice A4 items'.length c4) := by rw [k1.cell]; rfl
  have n2 : w5.cell? ⟨gq, 2, none⟩ = some (.int .i64 hits) := by rw [k1.cell]; rfl
  have n3 : w5.cell? ⟨gq, 3, none⟩ = some (.int .i64 (misses + 1)) := by rw [k1.cell]; rfl
  have m0 : w5.cell? ⟨w.heap.size + 1 + 1, 0, none⟩ = some (.int .i64 0) := by rw [k2.cell]; rfl
  have m1 : w5.cell? ⟨w.heap.size + 1 + 1, 1, none⟩ = some (.slice none 0 0) := by rw [k2.cell]; rfl
  have m2 : w5.cell? ⟨w.heap.size + 1 + 1, 2, none⟩ = some (.int .i64 0) := by rw [k2.cell]; rfl
  have m3 : w5.cell? ⟨w.heap.size + 1 + 1, 3, none⟩ = some (.int .i64 0) := by rw [k2.cell]; rfl
  have e0 : w5.frozen? ⟨w.heap.size + 1 + 1, 0, none⟩ = false := k2.frozen 0
  have e1 : w5.frozen? ⟨w.heap.size + 1 + 1, 1, none⟩ = false := k2.frozen 1
  have e2 : w5.frozen? ⟨w.heap.size + 1 + 1, 2, none⟩ = false := k2.frozen 2
  have e3 : w5.frozen? ⟨w.heap.size + 1 + 1, 3, none⟩ = false := k2.frozen 3
  have y1 : w.heap.size + 1 + 1 ≠ gq := by omega
  have y2 : w.heap.size + 1 + 1 ≠ gn := by omega
  clear hc5 hk5 ho5 hn5 k1 k2
  go_wp2_with fail
  go_region_held3 (fun w' => w'.cell? ⟨gq, 0, none⟩ = some (.int .i64 size) ∧ w'.cell? ⟨gq, 1, none⟩ = some (.slice A4 items'.length c4) ∧ w'.cell? ⟨gq, 2, none⟩ = some (.int .i64 hits) ∧ w'.cell? ⟨gq, 3, none⟩ = some (.int .i64 (misses + 1)) ∧ w'.cell? ⟨gn, 0, none⟩ = some (.int .i64 1)) (go_keep) (fail)
  all_goals (
    rename_i hHeld
    clear hHeld
    go_wp2
    refine bodyPost_ret (v := .tuple #[.agg #[.int .i64 size, .slice A4 items'.length c4, .int .i64 hits, .int .i64 (misses + 1)], .bool true]) (by simp [results, Try.results12, go_sem, m0, m1, m2, m3]) rfl ?_
    exact HEND.out w5 ob' HC5.out HK5.out HO5.out 1)
end Go.Proofs.Ytedjaahidncokab
