/- law11: does, further. -/
import Derived.Test.YtedjaahidncokabF11c
namespace Go.Proofs.Ytedjaahidncokab
open Go.RowKit

set_option maxHeartbeats 4000000 in
set_option maxRecDepth 100000 in
theorem does_put (gr base g bm : Nat) (ob : Option Nat) (size : Nat) (items : Items) (hits misses i n : Int) (s : ByteArray) (iv : Value) (w : World) (h : Pair w gr base g bm ob size items hits misses iv) (hgr : gr < w.heap.size) :
    Calls Try.prog 12 #[.pointer (some ⟨g, 0, none⟩), .agg #[.int .i64 size, iv, .int .i64 hits, .int .i64 misses], .agg #[.int .i64 2, .int .i64 i, .int .i64 n, .string s]] w (DoesPost w gr base g bm ob size hits misses) := by
  obtain ⟨hC, A, c, rfl, hc, hm, hr⟩ := h
  have hfoot := Lib.hid hC.lt
  obtain ⟨hl0, hl1, hl2⟩ := hC.len
  have HC := Lib.hid hC
  have HR := Lib.hid hr
  have hD := Lib.hid (dw_is (foot g bm ob) w size A items.length c hits misses 2 i n s)
  have HCx : Hid (CacheAt (dw w size A items.length c hits misses 2 i n s) base g bm ob size items hits misses) := hC.kp (S := fun _ => False) (((Kp.refl _ w).alloc _ |>.alloc _).alloc _) (fun b hb => hb.elim)
  unfold dw at hD HCx
  clear hC hr
  go_enter Try.func12, Try.ntmps12
  go_wp2_with fail
  generalize (((w.alloc (.cells #[.int .i64 size, .slice A items.length c, .int .i64 hits, .int .i64 misses] 38)).alloc (.cells #[.int .i64 2, .int .i64 i, .int .i64 n, .string s] 40)).alloc (.cells #[.int .i64 0, .slice none 0 0, .int .i64 0, .int .i64 0] 38)) = wx at hD HCx ⊢
  have hzx := hD.out.size
  refine (put_any base g bm size ob items hits misses i s wx HCx.out).mono ?_
  rintro e w1 ⟨ob1, rfl, hc1, hk1, ho1⟩
  have hz1 := hk1.size
  have hD1 := Lib.hid (hD.out.on hk1 (fun b hb => .inl ⟨hfoot.out b hb, hb⟩))
  have hIx : Hid (ItemsAt w1 (fun b => b < w.heap.size ∧ ¬ foot g bm ob b ∧ b ≠ gr) (.slice A items.length c) items) := ⟨A, c, rfl, hc, hm, HR.out.kp hD1.out.low (fun b hb => ⟨hb.1, hb.2.1⟩)⟩
  have HC1 := Lib.hid hc1
  have HO1 := Lib.hid ho1
  have r0 : w1.cell? ⟨w.heap.size, 0, none⟩ = some (.int .i64 size) := by rw [hD1.out.b1.cell]; rfl
  have r1 : w1.cell? ⟨w.heap.size, 1, none⟩ = some (.slice A items.length c) := by rw [hD1.out.b1.cell]; rfl
  have r2 : w1.cell? ⟨w.heap.size, 2, none⟩ = some (.int .i64 hits) := by rw [hD1.out.b1.cell]; rfl
  have r3 : w1.cell? ⟨w.heap.size, 3, none⟩ = some (.int .i64 misses) := by rw [hD1.out.b1.cell]; rfl
  have a1 : w1.cell? ⟨w.heap.size + 1, 1, none⟩ = some (.int .i64 i) := by rw [hD1.out.b2.cell]; rfl
  have a3 : w1.cell? ⟨w.heap.size + 1, 3, none⟩ = some (.string s) := by rw [hD1.out.b2.cell]; rfl
  clear hc1 hk1 ho1
  go_wp2_with fail
  refine (rput_any size _ items hits misses i s w1 _ hIx.out (fun b hb => by omega) (by omega) hl1 hl2).mono ?_
  rintro e w2 ⟨iv2, rfl, ⟨A2, c2, rfl, hI2⟩, hB2⟩
  have HI2 := Lib.hid hI2
  have hz2 := hB2.size
  have hD2 := Lib.hid (hD1.out.on (S' := fun _ => False) ⟨hB2.os, hB2.tape, hB2.output, hB2.size, fun i hi _ => hB2.block i hi⟩ (fun b hb => hb.elim))
  have HC2 := Lib.hid (HC1.out.kp (S := fun _ => False) ⟨hB2.os, hB2.tape, hB2.output, hB2.size, fun i hi _ => hB2.block i hi⟩ (fun b hb => hb.elim))
  have m0 : w2.cell? ⟨w.heap.size + 1 + 1, 0, none⟩ = some (.int .i64 0) := by rw [hD2.out.b3.cell]; rfl
  have m1 : w2.cell? ⟨w.heap.size + 1 + 1, 1, none⟩ = some (.slice none 0 0) := by rw [hD2.out.b3.cell]; rfl
  have m2 : w2.cell? ⟨w.heap.size + 1 + 1, 2, none⟩ = some (.int .i64 0) := by rw [hD2.out.b3.cell]; rfl
  have m3 : w2.cell? ⟨w.heap.size + 1 + 1, 3, none⟩ = some (.int .i64 0) := by rw [hD2.out.b3.cell]; rfl
  have e0 : w2.frozen? ⟨w.heap.size + 1 + 1, 0, none⟩ = false := hD2.out.b3.frozen 0
  have e1 : w2.frozen? ⟨w.heap.size + 1 + 1, 1, none⟩ = false := hD2.out.b3.frozen 1
  have e2 : w2.frozen? ⟨w.heap.size + 1 + 1, 2, none⟩ = false := hD2.out.b3.frozen 2
  have e3 : w2.frozen? ⟨w.heap.size + 1 + 1, 3, none⟩ = false := hD2.out.b3.frozen 3
  clear hI2 hB2
  generalize putIn size items i s = items' at *
  go_wp2
  refine bodyPost_ret (v := .tuple #[.agg #[.int .i64 size, .slice A2 items'.length c2, .int .i64 hits, .int .i64 misses], .bool true]) (by simp [results, Try.results12, go_sem, m0, m1, m2, m3]) rfl ?_
  have ho : ob1 = ob ∨ ∃ b, ob1 = some b ∧ wx.heap.size ≤ b := HO1.out
  have hS : ∀ b, b = w.heap.size + 1 + 1 → ¬ foot g bm ob1 b := by
    intro b hb hf
    have := foot_ob hfoot.out ho hf
    omega
  have kC := kp_set4 w2 (w.heap.size + 1 + 1) (.int .i64 size) (.slice A2 items'.length c2) (.int .i64 hits) (.int .i64 misses)
  refine ⟨_, ob1, items', hits, misses, rfl, endPair (W := w2) (W3 := w2) (ob := ob1) (S := fun b => b = w.heap.size + 1 + 1) ⟨A2, c2, rfl, HI2.out⟩ ?_ HC2.out (kC.weak (fun b hb => .inr hb)) kC hS (.inl rfl), hD2.out.low.trans kC (fun b hb hs => by omega), ?_, by omega, by omega, by omega, by omega⟩
  · rintro b hb
    exact ⟨hb.2, fun hf => by have := HC1.out.lt _ hf; omega, by omega, by omega⟩
  · exact ob_fresh ho (by omega)

set_option maxHeartbeats 4000000 in
set_option maxRecDepth 100000 in
theorem does_clear (gr base g bm : Nat) (ob : Option Nat) (size : Nat) (items : Items) (hits misses i n : Int) (s : ByteArray) (iv : Value) (w : World) (h : Pair w gr base g bm ob size items hits misses iv) (hgr : gr < w.heap.size) :
    Calls Try.prog 12 #[.pointer (some ⟨g, 0, none⟩), .agg #[.int .i64 size, iv, .int .i64 hits, .int .i64 misses], .agg #[.int .i64 3, .int .i64 i, .int .i64 n, .string s]] w (DoesPost w gr base g bm ob size hits misses) := by
  obtain ⟨hC, A, c, rfl, hc, hm, hr⟩ := h
  have hfoot := Lib.hid hC.lt
  have hD := Lib.hid (dw_is (foot g bm ob) w size A items.length c hits misses 3 i n s)
  have HCx : Hid (CacheAt (dw w size A items.length c hits misses 3 i n s) base g bm ob size items hits misses) := hC.kp (S := fun _ => False) (((Kp.refl _ w).alloc _ |>.alloc _).alloc _) (fun b hb => hb.elim)
  unfold dw at hD HCx
  clear hC hr
  go_enter Try.func12, Try.ntmps12
  go_wp2_with fail
  generalize (((w.alloc (.cells #[.int .i64 size, .slice A items.length c, .int .i64 hits, .int .i64 misses] 38)).alloc (.cells #[.int .i64 3, .int .i64 i, .int .i64 n, .string s] 40)).alloc (.cells #[.int .i64 0, .slice none 0 0, .int .i64 0, .int .i64 0] 38)) = wx at hD HCx ⊢
  have hzx := hD.out.size
  refine (clear_any base g bm size ob items hits misses wx HCx.out).mono ?_
  rintro e w1 ⟨rfl, hc1, hk1⟩
  have hz1 := hk1.size
  have hD1 := Lib.hid (hD.out.on hk1 (fun b hb => .inl ⟨hfoot.out b hb, hb⟩))
  have HC1 := Lib.hid hc1
  have r0 : w1.cell? ⟨w.heap.size, 0, none⟩ = some (.int .i64 size) := by rw [hD1.out.b1.cell]; rfl
  have r1 : w1.cell? ⟨w.heap.size, 1, none⟩ = some (.slice A items.length c) := by rw [hD1.out.b1.cell]; rfl
  have r2 : w1.cell? ⟨w.heap.size, 2, none⟩ = some (.int .i64 hits) := by rw [hD1.out.b1.cell]; rfl
  have r3 : w1.cell? ⟨w.heap.size, 3, none⟩ = some (.int .i64 misses) := by rw [hD1.out.b1.cell]; rfl
  have f1 : w1.frozen? ⟨w.heap.size, 1, none⟩ = false := hD1.out.b1.frozen 1
  have m0 : w1.cell? ⟨w.heap.size + 1 + 1, 0, none⟩ = some (.int .i64 0) := by rw [hD1.out.b3.cell]; rfl
  have m1 : w1.cell? ⟨w.heap.size + 1 + 1, 1, none⟩ = some (.slice none 0 0) := by rw [hD1.out.b3.cell]; rfl
  have m2 : w1.cell? ⟨w.heap.size + 1 + 1, 2, none⟩ = some (.int .i64 0) := by rw [hD1.out.b3.cell]; rfl
  have m3 : w1.cell? ⟨w.heap.size + 1 + 1, 3, none⟩ = some (.int .i64 0) := by rw [hD1.out.b3.cell]; rfl
  have e0 : w1.frozen? ⟨w.heap.size + 1 + 1, 0, none⟩ = false := hD1.out.b3.frozen 0
  have e1 : w1.frozen? ⟨w.heap.size + 1 + 1, 1, none⟩ = false := hD1.out.b3.frozen 1
  have e2 : w1.frozen? ⟨w.heap.size + 1 + 1, 2, none⟩ = false := hD1.out.b3.frozen 2
  have e3 : w1.frozen? ⟨w.heap.size + 1 + 1, 3, none⟩ = false := hD1.out.b3.frozen 3
  have z0 : w.heap.size ≠ w.heap.size + 1 + 1 := by omega
  clear hc1 hk1
  go_wp2
  refine bodyPost_ret (v := .tuple #[.agg #[.int .i64 size, .slice none 0 0, .int .i64 hits, .int .i64 misses], .bool true]) (by simp [results, Try.results12, go_sem, m0, m1, m2, m3]) rfl ?_
  have kS : Kp (fun b => b = w.heap.size ∨ b = w.heap.size + 1 + 1) w1 (set4 (w1.setCell ⟨w.heap.size, 1, none⟩ (.slice none 0 0)) (w.heap.size + 1 + 1) (.int .i64 size) (.slice none 0 0) (.int .i64 hits) (.int .i64 misses)) :=
    ((Kp.refl (fun b => b = w.heap.size ∨ b = w.heap.size + 1 + 1) w1).setCell (p := ⟨w.heap.size, 1, none⟩) (.inl (.inl rfl)) _).trans (kp_set4 _ _ _ _ _ _) (fun b _ hb => .inr hb)
  refine ⟨_, none, [], hits, misses, rfl, ⟨HC1.out.kp kS ?_, ItemsAt.nil⟩, hD1.out.low.trans kS (fun b hb hs => by omega), ?_, by omega, by omega, by omega, by omega⟩
  · rintro b hb (hf | hf | hf)
    · have := hfoot.out b (.inl hf); omega
    · have := hfoot.out b (.inr (.inl hf)); omega
    · cases hf
  · intro b hb; cases hb
end Go.Proofs.Ytedjaahidncokab
