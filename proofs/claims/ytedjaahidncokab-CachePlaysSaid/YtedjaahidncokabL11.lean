/- The laws of layer 11: awake. -/
import Derived.Test.YtedjaahidncokabR11c
import Derived.Test.YtedjaahidncokabPlain
namespace Go.Proofs.Ytedjaahidncokab
open Go.RowKit

set_option maxHeartbeats 2000000 in
theorem awake_any (w : World) : Calls Try.prog 7 #[] w fun e w' => e = .returned (.bool true) ∧ Below w.heap.size w w' := by
  go_enter Try.func7, Try.ntmps7
  go_wp2_with fail
  refine (cnew_yes 1 w (by omega) (by omega)).mono ?_
  rintro e w1 ⟨g, bm, rfl, hg, hbm, hc1, hb1⟩
  have HC1 := Lib.hid hc1
  have HB1 := Lib.hid hb1
  clear hc1 hb1
  go_wp2_with fail
  refine (put_any _ g bm 1 none [] 0 0 1 _ w1 HC1.out).mono ?_
  rintro e w2 ⟨ob2, rfl, hc2, hk2, ho2⟩
  have hge2 : ∀ b, ob2 = some b → w.heap.size ≤ b := hc2.ge
  have HC2 := Lib.hid hc2
  have HB2 : Hid (Below w.heap.size w w2) := HB1.out.trans (hk2.to_below HB1.out.size (fun i hi h => by
    rcases h with h | h | h
    · omega
    · omega
    · cases h))
  have HG2 := Lib.hid hge2
  clear hc2 hk2 ho2 hge2
  go_wp2_with fail
  refine (put_any _ g bm 1 ob2 _ 0 0 2 _ w2 HC2.out).mono ?_
  rintro e w3 ⟨ob3, rfl, hc3, hk3, ho3⟩
  have hge3 : ∀ b, ob3 = some b → w.heap.size ≤ b := hc3.ge
  have HC3 := Lib.hid hc3
  have HB3 : Hid (Below w.heap.size w w3) := HB2.out.trans (hk3.to_below HB2.out.size (fun i hi h => by
    rcases h with h | h | h
    · omega
    · omega
    · have := HG2.out _ h; omega))
  have HG3 := Lib.hid hge3
  clear hc3 hk3 ho3 hge3
  go_wp2_with fail
  have hlk : look (putIn 1 (putIn 1 [] 1 ⟨#[97]⟩) 2 ⟨#[98]⟩) 2 = some ⟨#[98]⟩ := by decide
  refine (get_hit _ g bm 1 ob3 _ 0 0 2 ⟨#[98]⟩ w3 HC3.out hlk (by omega) (by omega)).mono ?_
  rintro e w4 ⟨ob4, rfl, hc4, hk4, ho4⟩
  have HC4 := Lib.hid hc4
  have HB4 : Hid (Below w.heap.size w w4) := HB3.out.trans (hk4.to_below HB3.out.size (fun i hi h => by
    rcases h with h | h | h
    · omega
    · omega
    · have := HG3.out _ h; omega))
  clear hc4 hk4 ho4 hlk
  go_wp2_with fail
  refine (places_any _ g bm 1 ob4 _ _ 0 w4 HC4.out).mono ?_
  rintro e w5 ⟨v5, rfl, hown5, hb5⟩
  have HO5 := Lib.hid hown5
  have HB5 : Hid (Below w.heap.size w w5) := HB4.out.trans (hb5.mono HB4.out.size)
  clear hown5 hb5
  go_wp2_with fail
  have hks : keys ((2, ⟨#[98]⟩) :: without (putIn 1 (putIn 1 [] 1 ⟨#[97]⟩) 2 ⟨#[98]⟩) 2) = [2] := by decide
  have ho6 := HO5.out
  rw [hks] at ho6
  have hz5 := HB5.out.size
  have hi1 : IntsAt (w5.alloc (.cells #[.int .i64 2] 3)) (fun _ => True) v5 [2] := (((IntsAt.of_own ho6).more (F' := fun b => b < w5.heap.size) (fun b hb => hb.2)).kp ((Kp.refl (fun _ => False) w5).alloc _) (fun b hb => ⟨hb, fun h => h⟩)).more (fun _ _ => trivial)
  have hi2 : IntsAt (w5.alloc (.cells #[.int .i64 2] 3)) (fun _ => True) (.slice (some ⟨w5.heap.size, 0, none⟩) 1 1) [2] := ⟨_, _, rfl, by decide, by unfold maxLen; omega, Rd.of_blk (Blk.new w5 3 [.int .i64 2]) trivial rfl⟩
  refine (ints_any _ _ _ _ _ _ hi1 hi2).mono ?_
  clear hi1 hi2 ho6 hks
  rintro e w6 ⟨rfl, q, hw6⟩
  have HB6 : Hid (Below w.heap.size w w6) := by rw [hw6]; exact below_drewN (HB5.out.alloc hz5 _) q
  have e2 : sameI [2] [2] = true := by decide
  rw [e2]
  clear e2 hw6
  go_wp2_with fail
  go_ret
  exact ⟨rfl, HB6.out⟩

/-- what the function that reads texts tells -/
def textAt (texts : List ByteArray) (i : Int) : ByteArray := if 0 ≤ i then (texts[i.toNat]?).getD ByteArray.empty else ByteArray.empty
def errAt (texts : List ByteArray) (i : Int) : Int := if 0 ≤ i ∧ i < texts.length then 0 else 9
set_option maxHeartbeats 1000000 in
theorem true1_any (gb : Nat) (A : Option Addr) (c : Nat) (texts : List ByteArray) (i : Int) (w : World) (F : Nat → Prop) (hb : w.cell? ⟨gb, 0, none⟩ = some (.slice A texts.length c)) (hr : Rd w F 1 A texts.length (strs texts)) (hm : texts.length ≤ 1000) :
    ReadsAt 9 #[.int .i64 i, .pointer (some ⟨gb, 0, none⟩)] (textAt texts i) (errAt texts i) (fun W W' => W = W') w := by
  unfold ReadsAt
  by_cases h0 : i < 0
  · have ht : Hid (textAt texts i = ByteArray.empty) := by unfold Hid textAt; rw [if_neg (by omega)]
    have he : Hid (errAt texts i = 9) := by unfold Hid errAt; rw [if_neg (by omega)]
    rw [ht.out, he.out]
    go_enter Try.func9, Try.ntmps9
    go_wp2
    go_ret2
    exact ⟨rfl, rfl⟩
  · obtain ⟨k, rfl⟩ := Int.eq_ofNat_of_zero_le (show 0 ≤ i by omega)
    by_cases h1 : k < texts.length
    · have ht : Hid (textAt texts (k : Int) = texts[k]) := by unfold Hid textAt; rw [if_pos (by omega)]; simp [h1]
      have he : Hid (errAt texts (k : Int) = 0) := by unfold Hid errAt; rw [if_pos (by omega)]
      rw [ht.out, he.out]
      obtain ⟨ad, rfl, _, hc⟩ := hr.str h1
      go_enter Try.func9, Try.ntmps9
      go_wp2
      go_ret2
      exact ⟨rfl, rfl⟩
    · have ht : Hid (textAt texts (k : Int) = ByteArray.empty) := by unfold Hid textAt; rw [if_pos (by omega)]; simp; rw [List.getElem?_eq_none (by omega)]; rfl
      have he : Hid (errAt texts (k : Int) = 9) := by unfold Hid errAt; rw [if_neg (by omega)]
      rw [ht.out, he.out]
      go_enter Try.func9, Try.ntmps9
      go_wp2
      go_ret2
      exact ⟨rfl, rfl⟩
end Go.Proofs.Ytedjaahidncokab
