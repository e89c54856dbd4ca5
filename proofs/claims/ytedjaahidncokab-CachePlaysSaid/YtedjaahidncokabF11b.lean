/- The document's answer of layer 11: Get. -/
import Derived.Test.YtedjaahidncokabF11
namespace Go.Proofs.Ytedjaahidncokab
open Go.RowKit

/-- what the document's Get gives: the cache, the text, whether it was there -/
def RGetPost (w : World) (F : Nat → Prop) (size : Nat) (items : Items) (hits misses : Int) (s : ByteArray) (b : Bool) (e : Ending) (w' : World) : Prop :=
  ∃ iv, e = .returned (.tuple #[.agg #[.int .i64 size, iv, .int .i64 hits, .int .i64 misses], .string s, .bool b]) ∧ ItemsAt w' (fun b => F b ∨ (w.heap.size ≤ b ∧ b < w'.heap.size)) iv items ∧ Below w.heap.size w w'

theorem look_at {l : Items} {i : Int} {k : Nat} (hk : k < l.length) (h : l[k].1 = i) (hno : look (l.take k) i = none) : look l i = some l[k].2 := by
  induction l generalizing k with
  | nil => simp at hk
  | cons x r ih =>
    cases k with
    | zero => simp at h; simp [look, h]
    | succ k =>
      simp only [List.take_succ_cons, look] at hno
      by_cases hx : x.1 = i
      · simp [hx] at hno
      · simp only [hx, if_false] at hno
        simp only [look, hx, if_false, List.getElem_cons_succ]
        exact ih (by simpa using hk) (by simpa using h) hno
theorem look_snoc {l : Items} {i : Int} {k : Nat} (hk : k < l.length) (h : ¬ l[k].1 = i) (hno : look (l.take k) i = none) : look (l.take (k + 1)) i = none := by
  apply look_none'
  intro hm
  have := look_none hno
  unfold keys at hm this
  rw [List.take_succ_eq_append_getElem hk, List.map_append, List.mem_append] at hm
  rcases hm with hm | hm
  · exact this hm
  · simp at hm; exact h hm.symm

set_option maxHeartbeats 4000000 in
theorem rget_any (size : Nat) (iv : Value) (items : Items) (hits misses i : Int) (w : World) (F : Nat → Prop) (h : ItemsAt w F iv items) (hF : ∀ b, F b → b < w.heap.size) (hlen : items.length ≤ size) (hs0 : 1 ≤ size) (hs1 : size ≤ 64) (hh0 : 0 ≤ hits) (hh1 : hits ≤ 1000000) (hm0 : 0 ≤ misses) (hm1 : misses ≤ 1000000) :
    Calls Try.prog 20 #[.agg #[.int .i64 size, iv, .int .i64 hits, .int .i64 misses], .int .i64 i] w (fun e w' => (∃ t, look items i = some t ∧ RGetPost w F size (putIn size items i t) (hits + 1) misses t true e w') ∨ (look items i = none ∧ RGetPost w F size items hits (misses + 1) ByteArray.empty false e w')) := by
  obtain ⟨A, c, rfl, hc, hm, hr⟩ := h
  have HR := Lib.hid hr
  have HF := Lib.hid hF
  clear hr hF
  have hB1 : Hid (Blk ((w.alloc (.cells #[.int .i64 size, .slice A items.length c, .int .i64 hits, .int .i64 misses] 38)).alloc (.cells #[.int .i64 0, .slice none 0 0, .int .i64 0, .int .i64 0] 38)) w.heap.size 38 [.int .i64 size, .slice A items.length c, .int .i64 hits, .int .i64 misses]) := (Blk.new w 38 [.int .i64 size, .slice A items.length c, .int .i64 hits, .int .i64 misses]).alloc _
  have hB2 : Hid (Blk ((w.alloc (.cells #[.int .i64 size, .slice A items.length c, .int .i64 hits, .int .i64 misses] 38)).alloc (.cells #[.int .i64 0, .slice none 0 0, .int .i64 0, .int .i64 0] 38)) (w.heap.size + 1) 38 [.int .i64 0, .slice none 0 0, .int .i64 0, .int .i64 0]) := by
    have := Blk.new (w.alloc (.cells #[.int .i64 size, .slice A items.length c, .int .i64 hits, .int .i64 misses] 38)) 38 [.int .i64 0, .slice none 0 0, .int .i64 0, .int .i64 0]
    rw [World.size_alloc] at this
    exact this
  have hBW : Hid (Below w.heap.size w ((w.alloc (.cells #[.int .i64 size, .slice A items.length c, .int .i64 hits, .int .i64 misses] 38)).alloc (.cells #[.int .i64 0, .slice none 0 0, .int .i64 0, .int .i64 0] 38))) := ((Below.refl _ _).alloc (Nat.le_refl _) _).alloc (by simp) _
  have hsz : ((w.alloc (.cells #[.int .i64 size, .slice A items.length c, .int .i64 hits, .int .i64 misses] 38)).alloc (.cells #[.int .i64 0, .slice none 0 0, .int .i64 0, .int .i64 0] 38)).heap.size = w.heap.size + 2 := by simp
  go_enter Try.func20, Try.ntmps20
  go_wp2
  go_loopw [12] (fun n wr => ∃ k : Nat, k ≤ items.length ∧ n = .int .i64 k ∧ Hid (look (items.take k) i = none) ∧ Hid (Below (w.heap.size + 2) ((w.alloc (.cells #[.int .i64 size, .slice A items.length c, .int .i64 hits, .int .i64 misses] 38)).alloc (.cells #[.int .i64 0, .slice none 0 0, .int .i64 0, .int .i64 0] 38)) wr)) (fun n _ => items.length - (intOf n).toNat)
  case atStart => exact ⟨0, Nat.zero_le _, rfl, by unfold Hid; rfl, Below.refl _ _⟩
  case round =>
    obtain ⟨k, hk, rfl, hno, hb⟩ := hrel
    have hz := hb.out.size
    rw [hsz] at hz
    have hbw : Hid (Below w.heap.size w wr) := hBW.out.trans (hb.out.mono (by omega))
    have hC1 := hB1.out.below hb.out (by omega)
    have hC2 := hB2.out.below hb.out (by omega)
    have r0 : wr.cell? ⟨w.heap.size, 0, none⟩ = some (.int .i64 size) := by rw [hC1.cell]; rfl
    have r1 : wr.cell? ⟨w.heap.size, 1, none⟩ = some (.slice A items.length c) := by rw [hC1.cell]; rfl
    have r2 : wr.cell? ⟨w.heap.size, 2, none⟩ = some (.int .i64 hits) := by rw [hC1.cell]; rfl
    have r3 : wr.cell? ⟨w.heap.size, 3, none⟩ = some (.int .i64 misses) := by rw [hC1.cell]; rfl
    have s0 : wr.cell? ⟨w.heap.size + 1, 0, none⟩ = some (.int .i64 0) := by rw [hC2.cell]; rfl
    have s1 : wr.cell? ⟨w.heap.size + 1, 1, none⟩ = some (.slice none 0 0) := by rw [hC2.cell]; rfl
    have s2 : wr.cell? ⟨w.heap.size + 1, 2, none⟩ = some (.int .i64 0) := by rw [hC2.cell]; rfl
    have s3 : wr.cell? ⟨w.heap.size + 1, 3, none⟩ = some (.int .i64 0) := by rw [hC2.cell]; rfl
    have f2 := hC1.frozen 2
    have f3 := hC1.frozen 3
    have g0 := hC2.frozen 0
    have g1 := hC2.frozen 1
    have g2 := hC2.frozen 2
    have g3 := hC2.frozen 3
    have HC1 := Lib.hid hC1
    have HC2 := Lib.hid hC2
    clear hC1 hC2
    by_cases hlt : k < items.length
    · obtain ⟨b, o, rfl, _, hc1, hc2⟩ := (HR.out.below hbw.out HF.out).item hlt
      by_cases hat : items[k].1 = i
      · have hbe : (items[k].1 == i) = true := by simpa using hat
        have hlk := Lib.hid (look_at hlt hat hno.out)
        clear hat
        generalize items[k] = x at *
        have z1 : w.heap.size < wr.heap.size := by omega
        have z2 : w.heap.size + 1 < wr.heap.size := by omega
        have z3 : w.heap.size + 1 ≠ wr.heap.size := by omega
        have hD1 := HC1.out.alloc (.cells #[.int .i64 x.1, .string x.2] 44)
        have t2 : (wr.alloc (.cells #[.int .i64 x.1, .string x.2] 44)).cell? ⟨w.heap.size, 2, none⟩ = some (.int .i64 hits) := by rw [hD1.cell]; rfl
        clear hD1
        have q1 : Hid (Blk ((wr.setCell ⟨w.heap.size, 2, none⟩ (.int .i64 (hits + 1))).alloc (.cells #[.int .i64 x.1, .string x.2] 44)) w.heap.size 38 [.int .i64 size, .slice (some ⟨b, o, none⟩) items.length c, .int .i64 (hits + 1), .int .i64 misses]) := (HC1.out.set 2 _).alloc _
        have q2 : Hid (Blk ((wr.setCell ⟨w.heap.size, 2, none⟩ (.int .i64 (hits + 1))).alloc (.cells #[.int .i64 x.1, .string x.2] 44)) (w.heap.size + 1) 38 [.int .i64 0, .slice none 0 0, .int .i64 0, .int .i64 0]) := (HC2.out.far (by simp) _).alloc _
        have q3 : Hid (Blk ((wr.setCell ⟨w.heap.size, 2, none⟩ (.int .i64 (hits + 1))).alloc (.cells #[.int .i64 x.1, .string x.2] 44)) wr.heap.size 44 [.int .i64 x.1, .string x.2]) := by
          have := Blk.new (wr.setCell ⟨w.heap.size, 2, none⟩ (.int .i64 (hits + 1))) 44 [.int .i64 x.1, .string x.2]
          rw [World.size_setCell] at this
          exact this
        have q4 : Hid (Below w.heap.size w ((wr.setCell ⟨w.heap.size, 2, none⟩ (.int .i64 (hits + 1))).alloc (.cells #[.int .i64 x.1, .string x.2] 44))) := (hbw.out.setCell (Nat.le_refl _) _).alloc (by simp; omega) _
        clear HC1 HC2 hB1 hB2 hBW hb s0 s1 s2 s3 f3 g0 g1 g2 g3
        go_wp2_with fail
        generalize hwx : ((wr.setCell ⟨w.heap.size, 2, none⟩ (.int .i64 (hits + 1))).alloc (.cells #[.int .i64 x.1, .string x.2] 44)) = wx at *
        have hxs : wx.heap.size = wr.heap.size + 1 := by rw [← hwx]; simp
        clear hwx t2
        have HP : Hid (∀ W, Below wx.heap.size wx W → Calls Try.prog 21 #[.agg #[.int .i64 size, .slice (some ⟨b, o, none⟩) items.length c, .int .i64 (hits + 1), .int .i64 misses], .int .i64 i, .string x.2] W (RPutPost W size (putIn size items i x.2) (hits + 1) misses)) := by
          intro W hW
          have hI : ItemsAt W F (.slice (some ⟨b, o, none⟩) items.length c) items := ⟨_, _, rfl, hc, hm, HR.out.below (q4.out.trans (hW.mono (by omega))) HF.out⟩
          exact rput_any size _ items (hits + 1) misses i x.2 W F hI (fun b hb => by have := HF.out b hb; have := hW.size; omega) (by omega) hs0 hs1
        have r0 : wx.cell? ⟨w.heap.size, 0, none⟩ = some (.int .i64 size) := by rw [q1.out.cell]; rfl
        have r1 : wx.cell? ⟨w.heap.size, 1, none⟩ = some (.slice (some ⟨b, o, none⟩) items.length c) := by rw [q1.out.cell]; rfl
        have r2 : wx.cell? ⟨w.heap.size, 2, none⟩ = some (.int .i64 (hits + 1)) := by rw [q1.out.cell]; rfl
        have r3 : wx.cell? ⟨w.heap.size, 3, none⟩ = some (.int .i64 misses) := by rw [q1.out.cell]; rfl
        have r4 : wx.cell? ⟨wr.heap.size, 1, none⟩ = some (.string x.2) := by rw [q3.out.cell]; rfl
        go_region_held3 (fun w' => w'.cell? ⟨w.heap.size, 0, none⟩ = some (.int .i64 size) ∧ w'.cell? ⟨w.heap.size, 1, none⟩ = some (.slice (some ⟨b, o, none⟩) items.length c) ∧ w'.cell? ⟨w.heap.size, 2, none⟩ = some (.int .i64 (hits + 1)) ∧ w'.cell? ⟨w.heap.size, 3, none⟩ = some (.int .i64 misses) ∧ w'.cell? ⟨wr.heap.size, 1, none⟩ = some (.string x.2))
          (first | go_keep | exact ⟨n0, n1, n2, n3, n4⟩)
          (first | (go_at_call 21; refine (HP.out _ ?_).mono ?_; (first | exact Below.refl _ _ | exact (Below.refl _ _).drew); rintro e w' ⟨iv, rfl, hI, hB0⟩
                    have hB : Below wx.heap.size wx w' := ⟨hB0.os, hB0.tape, hB0.output, hB0.size, hB0.block⟩
                    clear hB0
                    have k1 := q1.out.below hB (by omega)
                    have k2 := q2.out.below hB (by omega)
                    have k3 := q3.out.below hB (by omega)
                    have n0 : w'.cell? ⟨w.heap.size, 0, none⟩ = some (.int .i64 size) := by rw [k1.cell]; rfl
                    have n1 : w'.cell? ⟨w.heap.size, 1, none⟩ = some (.slice (some ⟨b, o, none⟩) items.length c) := by rw [k1.cell]; rfl
                    have n2 : w'.cell? ⟨w.heap.size, 2, none⟩ = some (.int .i64 (hits + 1)) := by rw [k1.cell]; rfl
                    have n3 : w'.cell? ⟨w.heap.size, 3, none⟩ = some (.int .i64 misses) := by rw [k1.cell]; rfl
                    have n4 : w'.cell? ⟨wr.heap.size, 1, none⟩ = some (.string x.2) := by rw [k3.cell]; rfl
                    have m0 : w'.cell? ⟨w.heap.size + 1, 0, none⟩ = some (.int .i64 0) := by rw [k2.cell]; rfl
                    have m1 : w'.cell? ⟨w.heap.size + 1, 1, none⟩ = some (.slice none 0 0) := by rw [k2.cell]; rfl
                    have m2 : w'.cell? ⟨w.heap.size + 1, 2, none⟩ = some (.int .i64 0) := by rw [k2.cell]; rfl
                    have m3 : w'.cell? ⟨w.heap.size + 1, 3, none⟩ = some (.int .i64 0) := by rw [k2.cell]; rfl
                    have e0 := k2.frozen 0
                    have e1 := k2.frozen 1
                    have e2 := k2.frozen 2
                    have e3 := k2.frozen 3
                    obtain ⟨A', c', rfl, hI⟩ := hI
                    have HI := Lib.hid hI
                    have HB := Lib.hid hB
                    clear hI hB k1 k2 k3))
        rename_i hHeld
        clear hHeld
        go_wp2
        refine bodyPost_ret (v := .tuple #[.agg #[.int .i64 size, .slice A' (putIn size items i x.2).length c', .int .i64 (hits + 1), .int .i64 misses], .string x.2, .bool true]) (by simp [results, Try.results20, go_sem, m0, m1, m2, m3]) rfl ?_
        have hIw : ItemsAt w' (fun b => wx.heap.size ≤ b ∧ b < w'.heap.size) (.slice A' (putIn size items i x.2).length c') (putIn size items i x.2) := ⟨A', c', rfl, HI.out⟩
        have hq := HB.out.size
        refine .inl ⟨x.2, hlk.out, _, rfl, (hIw.kp (((((Kp.refl (· = w.heap.size + 1) w').setCell (.inl rfl) _).setCell (.inl rfl) _).setCell (.inl rfl) _).setCell (.inl rfl) _) (fun b hb => ⟨hb.2, by omega⟩)).more (fun b hb => .inr ⟨by omega, by simpa using hb.2⟩), ?_⟩
        exact ((((q4.out.trans (HB.out.mono (by omega))).setCell (by simp) _).setCell (by simp) _).setCell (by simp) _).setCell (by simp) _
      · have hbe : (items[k].1 == i) = false := by simpa using hat
        have hno2 := Lib.hid (look_snoc hlt hat hno.out)
        clear hat
        go_wp2
        go_roundw
        case rel => exact ⟨k + 1, by omega, by go_num, hno2, hb.out.alloc (by omega) _⟩
        case measure => simp [intOf]; omega
    · have hlk : Hid (look items i = none) := by unfold Hid; have := hno.out; rwa [List.take_of_length_le (by omega)] at this
      go_wp2
      refine bodyPost_ret (v := .tuple #[.agg #[.int .i64 size, .slice A items.length c, .int .i64 hits, .int .i64 (misses + 1)], .string ByteArray.empty, .bool false]) (by simp [results, Try.results20, go_sem, s0, s1, s2, s3]; rfl) rfl ?_
      refine .inr ⟨hlk.out, _, rfl, ?_, ?_⟩
      · have hI : ItemsAt wr F (.slice A items.length c) items := ⟨A, c, rfl, hc, hm, HR.out.below hbw.out HF.out⟩
        exact (hI.kp ((((((Kp.refl (fun b => b = w.heap.size ∨ b = w.heap.size + 1) wr).setCell (.inl (.inl rfl)) _).setCell (.inl (.inr rfl)) _).setCell (.inl (.inr rfl)) _).setCell (.inl (.inr rfl)) _).setCell (.inl (.inr rfl)) _) (fun b hb => by have := HF.out b hb; omega)).more (fun b hb => .inl hb)
      · exact ((((hbw.out.setCell (Nat.le_refl _) _).setCell (by simp) _).setCell (by simp) _).setCell (by simp) _).setCell (by simp) _
end Go.Proofs.Ytedjaahidncokab
