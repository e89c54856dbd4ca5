/- Layer 10: the methods that go through pages. -/
import Derived.Test.YtedjaahidncokaaP10
import Derived.Test.YtedjaahidncokaaM
namespace Go.Proofs.Ytedjaahidncokaa
open Go.RowKit

theorem pop_le (x : Nat) : Pop.pop x ≤ 64 := by unfold Pop.pop; exact Nat.le_trans List.countP_le_length (by simp)
theorem popAll_le (ws : List Nat) : popAll ws ≤ 64 * ws.length := by
  unfold popAll
  induction ws with
  | nil => simp
  | cons x r ih => simp only [List.map_cons, List.sum_cons, List.length_cons]; have := pop_le x; omega
theorem popAll_take (ws : List Nat) (k : Nat) (hk : k < ws.length) : popAll (ws.take (k + 1)) = popAll (ws.take k) + Pop.pop ws[k] := by
  unfold popAll
  rw [List.take_succ_eq_append_getElem hk, List.map_append, List.sum_append]; simp

set_option maxHeartbeats 400000 in
theorem count_any (g gw n : Nat) (ws : List Nat) (w : World) (h : RoomAt w g gw n ws) :
    Calls Try.prog 19 #[.pointer (some ⟨g, 0, none⟩)] w fun e w' => e = .returned (.int .i64 ((n : Int) - (popAll ws : Int))) ∧ w = w' := by
  have h0 := h.c0
  have h1 := h.c1
  have hn : n ≤ 2047 := h.2.2.2.2.1
  have hlen : ws.length ≤ 32 := by have := h.2.2.1; omega
  have H := Lib.hid h
  clear h
  go_enter Try.func19, Try.ntmps19
  go_wp2
  go_loop [3, 17] (fun s i => ∃ k : Nat, k ≤ ws.length ∧ i = .int .i64 k ∧ s = .int .i64 ((n : Int) - (popAll (ws.take k) : Int))) (fun _ i => ws.length - (intOf i).toNat)
  case atStart => exact ⟨0, Nat.zero_le _, rfl, by simp [popAll]⟩
  case round =>
    obtain ⟨k, hk, rfl, rfl⟩ := hrel
    have hb := popAll_le (ws.take k)
    have hb2 : (ws.take k).length ≤ k := List.length_take_le _ _
    by_cases hlt : k < ws.length
    · have hx := H.out.cw hlt
      have hlx := H.out.2.2.2.2.2 _ (List.getElem_mem hlt)
      have hp := pop_le ws[k]
      have ht := Lib.hid (popAll_take ws k hlt)
      go_wp2_with (go_at_call 24; refine (ones_any _ _ hlx).mono ?_; rintro e w' ⟨rfl, rfl⟩)
      go_round
      case rel => exact ⟨k + 1, by omega, by go_num, by rw [ht.out]; go_num⟩
      case measure => simp [intOf]; omega
    · go_wp2
      go_ret
      exact ⟨by rw [List.take_of_length_le (by omega)]; rfl, rfl⟩

theorem under_map : Try.prog.underlying 53 = some (.map 3 3) := Try.underlying53
theorem zero_int (w : World) : (zeroValue 3).run Try.prog w = .ok (.int .i64 0) w := by kernel_rfl
theorem kint : Keys Try.prog 3 Int intKey := keys_int Try.underlying3

set_option maxHeartbeats 1000000 in
theorem check_any (g gw n : Nat) (ws : List Nat) (A : Option Addr) (c : Nat) (l : List Int) (must : Bool) (w : World) (h : RoomAt w g gw n ws)
    (hr : Rd w (· < w.heap.size) 1 A l.length (ints l)) (hm : l.length ≤ maxLen) :
    Calls Try.prog 21 #[.pointer (some ⟨g, 0, none⟩), .slice A l.length c, .bool must] w fun e w' => e = .returned (.int .i64 (wrg (usedB ws n) n must [] l)) ∧ Below w.heap.size w w' := by
  have hmm := @run_makeMap Try.prog
  have hn1 : ((n : Int) == 0) = false := by have := h.2.2.2.1; simp; omega
  have h1 := h.c1
  have hn : n ≤ 2047 := h.2.2.2.2.1
  have H := Lib.hid h
  have HR := Lib.hid hr
  clear h hr
  unfold maxLen at hm
  go_enter Try.func21, Try.ntmps21
  go_wp2
  go_loopw [22] (fun i wr1 => ∃ (k : Nat) (m : List (Int × Value)), k ≤ l.length ∧ i = .int .i64 k ∧ Hid (MapAt wr1 w.heap.size intKey m) ∧ Hid (∀ j, mget m j = if hasI (l.take k) j then some (.int .i64 1) else none) ∧ Hid (Below w.heap.size w wr1) ∧
      Hid (wrg (usedB ws n) n must [] l = wrg (usedB ws n) n must (l.take k) (l.drop k))) (fun i _ => l.length - (intOf i).toNat)
  case atStart => exact ⟨0, [], Nat.zero_le _, rfl, MapAt.new w, by unfold Hid; intro j; simp [mget, hasI], (Below.refl _ _).alloc (Nat.le_refl _) _, by unfold Hid; simp⟩
  case round =>
    obtain ⟨k, m, hk, rfl, hmap, hget, hb, hwr⟩ := hrel
    have hbelow := hb.out
    have hroom : RoomAt wr g gw n ws := ⟨H.out.1.below hbelow H.out.1.lt, H.out.2.1.below hbelow H.out.2.1.lt, H.out.2.2⟩
    have hc1 := hroom.c1
    by_cases hlt : k < l.length
    · obtain ⟨ad, rfl, _, hc⟩ := (HR.out.below hbelow (fun _ h => h)).int hlt
      have hat := Lib.hid (wrg_at (usedB ws n) n must l k hlt)
      have hsn := Lib.hid (hasI_snoc l k hlt)
      have hRoom := Lib.hid hroom
      clear hroom hbelow
      by_cases hrange : l[k] < 0 ∨ (n : Int) ≤ l[k]
      · have hfin : Hid (wrg (usedB ws n) n must [] l = 9) := by unfold Hid; rw [hwr.out, hat.out, if_pos hrange]
        go_wp2_with (go_at_call 23; refine (there_no g n _ _ (by assumption) hrange).mono ?_; rintro e w' ⟨rfl, rfl⟩)
        go_ret
        exact ⟨by rw [hfin.out]; rfl, hb.out⟩
      · have hr1 : 0 ≤ l[k] := by omega
        have hr2 : l[k] < (n : Int) := by omega
        have hlk := hmap.out.lookup kint under_map l[k] zero_int
        rw [hget.out] at hlk
        unfold intKey at hlk
        by_cases hseen : hasI (l.take k) l[k] = true
        · rw [if_pos hseen] at hlk
          simp only [Option.getD_some] at hlk
          have hfin : Hid (wrg (usedB ws n) n must [] l = if must then 10 else 11) := by unfold Hid; rw [hwr.out, hat.out, if_neg hrange, hseen, Bool.or_true, if_pos rfl]
          clear hrange hseen
          cases must
          all_goals
            go_wp2_with (go_at_call 23; refine (there_yes g n _ _ (by assumption) (by assumption) (by assumption)).mono ?_; rintro e w' ⟨rfl, rfl⟩)
            go_ret
            exact ⟨by rw [hfin.out]; rfl, hb.out⟩
        · rw [if_neg hseen] at hlk
          simp only [Option.getD_none] at hlk
          obtain ⟨w2, hup, hmap2, hkp2, hsz2⟩ := hmap.out.update kint under_map l[k] (.int .i64 1)
          unfold intKey at hup
          have hsn0 : hasI (l.take k) l[k] = false := by simpa using hseen
          have hm2 := Lib.hid hmap2
          have hget2 : Hid (∀ j, mget (mput m l[k] (.int .i64 1)) j = if hasI (l.take (k + 1)) j then some (.int .i64 1) else none) := by
            unfold Hid; intro j
            rw [mget_mput, hsn.out, hget.out]
            by_cases hj : l[k] = j
            · simp [hj]
            · simp [hj]
          have hb2 : Hid (Below w.heap.size w w2) := hb.out.trans (hkp2.to_below hb.out.size (fun i hi => by omega))
          rcases hub : usedB ws n l[k] with _ | _
          all_goals
            have hus := Lib.hid (used_any g gw n ws l[k] wr hRoom.out)
            rw [hub] at hus
            cases must
          all_goals
            have hat2 := hat.out
            rw [if_neg hrange, hub, hsn0] at hat2
            have hstep := Lib.hid (hwr.out.trans hat2)
            clear hat2 hsn0 hseen hrange hub hmap2 hkp2 hsz2
            go_wp2_with (first | (go_at_call 23; refine (there_yes g n _ _ (by assumption) (by assumption) (by assumption)).mono ?_; rintro e w' ⟨rfl, rfl⟩) | (go_at_call 17; refine hus.out.mono ?_; rintro e w' ⟨rfl, rfl⟩))
            first
              | (go_roundw
                 case rel => exact ⟨k + 1, _, by omega, by go_num, hm2.out, hget2, hb2, hstep.out⟩
                 case measure => simp [intOf]; omega)
              | (go_ret
                 exact ⟨by rw [hstep.out]; rfl, hb.out⟩)
    · have hfin : Hid (wrg (usedB ws n) n must [] l = 0) := by unfold Hid; rw [hwr.out]; exact wrg_end _ _ _ _ _ (by omega)
      clear hroom hbelow
      go_wp2
      go_ret
      exact ⟨by rw [hfin.out]; rfl, hb.out⟩
end Go.Proofs.Ytedjaahidncokaa
