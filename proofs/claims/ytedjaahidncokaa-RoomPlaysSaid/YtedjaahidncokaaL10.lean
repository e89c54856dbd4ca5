/- The laws of layer 10: few, awake; calls as they came in. -/
import Derived.Test.YtedjaahidncokaaF10b
namespace Go.Proofs.Ytedjaahidncokaa
open Go.RowKit

structure ActV where
  kind : Int
  n : Int
  pv : Value
  pages : List Int
def ActV.cells (a : ActV) : List Value := [.int .i64 a.kind, .int .i64 a.n, a.pv]
def actCells (l : List ActV) : List Value := l.flatMap ActV.cells
theorem actCells_len (l : List ActV) : (actCells l).length = l.length * 3 := by
  unfold actCells
  induction l with
  | nil => rfl
  | cons x r ih => simp only [List.flatMap_cons, List.length_append, ih, ActV.cells, List.length_cons, List.length_nil]; omega
theorem actCells_get (l : List ActV) (k j : Nat) (hk : k < l.length) (hj : j < 3) : (actCells l)[k * 3 + j]? = (l[k].cells)[j]? := by
  unfold actCells
  induction l generalizing k with
  | nil => simp at hk
  | cons x r ih =>
    cases k with
    | zero =>
      simp only [List.flatMap_cons, List.getElem_cons_zero]
      rw [List.getElem?_append_left (by simp [ActV.cells]; omega)]; simp
    | succ k =>
      simp only [List.flatMap_cons, List.getElem_cons_succ]
      rw [List.getElem?_append_right (by simp [ActV.cells]; omega)]
      rw [← ih k (by simpa using hk)]
      congr 1
      simp [ActV.cells]; omega
/-- a slice of acts that reads as l -/
def ActsAt (w : World) (F : Nat → Prop) (A : Option Addr) (n : Nat) (l : List ActV) : Prop := Rd w F 3 A n (actCells l) ∧ ∀ a ∈ l, IntsAt w F a.pv a.pages
theorem ActsAt.len {w : World} {F : Nat → Prop} {A : Option Addr} {n : Nat} {l : List ActV} (h : ActsAt w F A n l) : n = l.length := by
  have := h.1.1; rw [actCells_len] at this; omega
theorem ActsAt.get {w : World} {F : Nat → Prop} {A : Option Addr} {n k : Nat} {l : List ActV} (h : ActsAt w F A n l) (hk : k < l.length) :
    ∃ b o, A = some ⟨b, o, none⟩ ∧ F b ∧ w.cell? ⟨b, o + k * 3, none⟩ = some (.int .i64 l[k].kind) ∧ w.cell? ⟨b, o + k * 3 + 1, none⟩ = some (.int .i64 l[k].n) ∧ w.cell? ⟨b, o + k * 3 + 2, none⟩ = some l[k].pv := by
  have hn := h.len
  obtain ⟨b, o, e, hF, hc⟩ := h.1.lit (by omega) (by omega)
  refine ⟨b, o, e, hF, ?_, ?_, ?_⟩
  · have := hc (k * 3 + 0) (.int .i64 l[k].kind) (by rw [actCells_get l k 0 hk (by omega)]; rfl)
    simpa using this
  · exact hc (k * 3 + 1) _ (by rw [actCells_get l k 1 hk (by omega)]; rfl)
  · exact hc (k * 3 + 2) _ (by rw [actCells_get l k 2 hk (by omega)]; rfl)
theorem ActsAt.kp {S F : Nat → Prop} {w w' : World} {A : Option Addr} {n : Nat} {l : List ActV} (h : ActsAt w F A n l) (k : Kp S w w') (hF : ∀ b, F b → b < w.heap.size ∧ ¬ S b) : ActsAt w' F A n l :=
  ⟨h.1.kp k hF, fun a ha => (h.2 a ha).kp k hF⟩

def sumMin (l : List ActV) : Nat := (l.map fun a => min a.pages.length 10000).sum
theorem sumMin_take (l : List ActV) (k : Nat) (hk : k < l.length) : sumMin (l.take (k + 1)) = sumMin (l.take k) + min l[k].pages.length 10000 := by
  unfold sumMin
  rw [List.take_succ_eq_append_getElem hk, List.map_append, List.sum_append]; simp
theorem sumMin_le (l : List ActV) : sumMin l ≤ 10000 * l.length := by
  unfold sumMin
  induction l with
  | nil => simp
  | cons x r ih => simp only [List.map_cons, List.sum_cons, List.length_cons]; omega
def fewB (l : List ActV) : Bool := decide (l.length ≤ 30) && decide (sumMin (l.take 31) ≤ 1000)

set_option maxHeartbeats 1000000 in
theorem few_any (A : Option Addr) (c : Nat) (l : List ActV) (w : World) (F : Nat → Prop) (h : ActsAt w F A l.length l) (hm : l.length ≤ maxLen) :
    Calls Try.prog 6 #[.slice A l.length c] w fun e w' => e = .returned (.bool (fewB l)) ∧ w = w' := by
  have H := Lib.hid h
  clear h
  unfold maxLen at hm
  go_enter Try.func6, Try.ntmps6
  go_wp2
  go_loop [3, 4] (fun s i => ∃ k : Nat, k ≤ l.length ∧ k ≤ 31 ∧ i = .int .i64 k ∧ s = .int .i64 (sumMin (l.take k) : Int)) (fun _ i => l.length - (intOf i).toNat)
  case atStart => exact ⟨0, Nat.zero_le _, by omega, rfl, by simp [sumMin]⟩
  case round =>
    obtain ⟨k, hk, hk31, rfl, rfl⟩ := hrel
    have hb := sumMin_le (l.take k)
    have hb2 : (l.take k).length ≤ k := List.length_take_le _ _
    by_cases hlt : k < l.length
    · by_cases h30 : k ≤ 30
      · obtain ⟨b, o, rfl, _, _, _, hc⟩ := H.out.get hlt
        obtain ⟨PA, pc, hpv, _, hpm, _⟩ := H.out.2 _ (List.getElem_mem hlt)
        rw [hpv] at hc
        have ht := Lib.hid (sumMin_take l k hlt)
        have HP := Lib.hid hpv
        clear hpv
        go_wp2
        refine ⟨⟨k + 1, by omega, by omega, by go_num, ?_⟩, by simp [intOf]; omega⟩
        rw [ht.out]
        congr 1
        split <;> omega
      · have hfin : Hid (fewB l = false) := by unfold Hid fewB; rw [decide_eq_false (by omega)]; rfl
        go_wp2
        go_ret
        exact ⟨by rw [hfin.out]; rfl, rfl⟩
    · have hkl : k = l.length := by omega
      have hfin : Hid (fewB l = (decide (l.length ≤ 30) && decide (sumMin (l.take k) ≤ 1000))) := by
        unfold Hid fewB
        rw [List.take_of_length_le (show l.length ≤ 31 by omega), List.take_of_length_le (show l.length ≤ k by omega)]
      clear hkl
      by_cases h1 : l.length ≤ 30
      · by_cases h2 : sumMin (l.take k) ≤ 1000
        · have HF : Hid (fewB l = true) := by unfold Hid; rw [hfin.out, decide_eq_true h1, decide_eq_true h2]; rfl
          go_wp2
          go_ret
          refine ⟨?_, rfl⟩
          rw [HF.out]
          simp
          omega
        · have HF : Hid (fewB l = false) := by unfold Hid; rw [hfin.out, decide_eq_false h2]; simp
          go_wp2
          go_ret
          refine ⟨?_, rfl⟩
          rw [HF.out]
          simp
          omega
      · have HF : Hid (fewB l = false) := by unfold Hid; rw [hfin.out, decide_eq_false h1]; rfl
        go_wp2
        go_ret
        exact ⟨by rw [HF.out]; rfl, rfl⟩

theorem few_of {l : List ActV} (h : fewB l = true) : l.length ≤ 30 ∧ ∀ a ∈ l, a.pages.length ≤ 1000 := by
  unfold fewB at h
  rw [Bool.and_eq_true] at h
  have h1 : l.length ≤ 30 := of_decide_eq_true h.1
  have h2 : sumMin (l.take 31) ≤ 1000 := of_decide_eq_true h.2
  refine ⟨h1, fun a ha => ?_⟩
  rw [List.take_of_length_le (by omega)] at h2
  have : min a.pages.length 10000 ≤ sumMin l := by
    unfold sumMin
    clear h h1 h2
    induction l with
    | nil => cases ha
    | cons x r ih =>
      simp only [List.map_cons, List.sum_cons]
      rcases List.mem_cons.1 ha with rfl | ha
      · omega
      · have := ih ha; omega
  omega

theorem tidy_awake : Tidy (flips (List.replicate ((4 + 63) / 64) 0) [1]) 4 := by
  intro i hi
  have e : flips (List.replicate ((4 + 63) / 64) 0) [1] = flip [0] 1 := rfl
  rw [e, bit_flip _ _ _ (by decide)]
  have h0 := bit_zero 1 i
  have h1 : ¬ 1 = i := by omega
  have e2 : List.replicate 1 0 = [0] := rfl
  rw [e2] at h0
  rw [h0]
  simp [h1]

set_option maxHeartbeats 1000000 in
theorem awake_any (w : World) : Calls Try.prog 7 #[] w fun e w' => e = .returned (.bool true) ∧ Below w.heap.size w w' := by
  go_enter Try.func7, Try.ntmps7
  go_wp2_with fail
  refine (new_yes 4 w (by omega) (by omega)).mono ?_
  rintro e w1 ⟨g, gw, rfl, hg, hgw, hroom, hb1⟩
  have H1 := Lib.hid hroom
  have HB1 := Lib.hid hb1
  have hz1 := hb1.size
  have hgl := hroom.1.lt
  have hgwl := hroom.2.1.lt
  clear hroom hb1
  go_wp2_with fail
  have hone : Rd (w1.alloc (.cells #[.int .i64 1] 3)) (fun b => b = w1.heap.size) 1 (some ⟨w1.heap.size, 0, none⟩) [(1 : Int)].length (ints [1]) := Rd.of_blk (Blk.new w1 3 [.int .i64 1]) rfl rfl
  have hroom1 : RoomAt (w1.alloc (.cells #[.int .i64 1] 3)) g gw 4 (List.replicate ((4 + 63) / 64) 0) := H1.out.kp ((Kp.refl (fun _ => False) w1).alloc _) (fun h => h) (fun h => h)
  refine (use_any g gw 4 _ _ 1 [1] _ _ hroom1 hone (fun b hb => by rw [hb]; simp; omega) (by unfold maxLen; decide)).mono ?_
  clear hone hroom1
  rintro e w2 ⟨rfl, hr2, hk2⟩
  have e0 : wrg (usedB (List.replicate ((4 + 63) / 64) 0) 4) 4 false [] [1] = 0 := by decide
  rw [e0] at hr2 ⊢
  have H2 : Hid (RoomAt w2 g gw 4 (flips (List.replicate ((4 + 63) / 64) 0) [1])) := hr2
  have HB2 : Hid (Below w.heap.size w w2) := HB1.out.trans ((((Below.refl w.heap.size w1).alloc hz1 _)).trans (hk2.to_below (by simp; omega) (fun i hi => by omega)))
  clear hr2 hk2
  go_wp2_with fail
  refine (lowest_any g gw 4 _ 2 _ H2.out tidy_awake).mono ?_
  rintro e w3 ⟨v, l, code, rfl, hown, hb3, hcase⟩
  have e1 : (l, code) = ([0, 2], 0) := by rw [hcase]; decide
  obtain ⟨rfl, rfl⟩ := Prod.mk.inj e1
  have HO := Lib.hid hown
  have HB3 : Hid (Below w.heap.size w w3) := HB2.out.trans (hb3.mono HB2.out.size)
  have hz3 := HB3.out.size
  clear hcase e1 hown hb3 e0
  go_wp2_with fail
  have hi1 : IntsAt (w3.alloc (.cells #[.int .i64 0, .int .i64 2] 3)) (fun _ => True) v [0, 2] := (((IntsAt.of_own HO.out).more (F' := fun b => b < w3.heap.size) (fun b hb => hb.2)).kp ((Kp.refl (fun _ => False) w3).alloc _) (fun b hb => ⟨hb, fun h => h⟩)).more (fun _ _ => trivial)
  have hi2 : IntsAt (w3.alloc (.cells #[.int .i64 0, .int .i64 2] 3)) (fun _ => True) (.slice (some ⟨w3.heap.size, 0, none⟩) 2 2) [0, 2] := ⟨_, _, rfl, by decide, by unfold maxLen; omega, Rd.of_blk (Blk.new w3 3 [.int .i64 0, .int .i64 2]) trivial rfl⟩
  refine (ints_any _ _ _ _ _ _ hi1 hi2).mono ?_
  clear hi1 hi2
  rintro e w4 ⟨rfl, q, hw4⟩
  have HB4 : Hid (Below w.heap.size w w4) := by rw [hw4]; exact below_drewN (HB3.out.alloc hz3 _) q
  have e2 : sameI [0, 2] [0, 2] = true := by decide
  rw [e2]
  clear e2 hw4
  go_wp2_with fail
  go_ret
  exact ⟨rfl, HB4.out⟩
end Go.Proofs.Ytedjaahidncokaa
