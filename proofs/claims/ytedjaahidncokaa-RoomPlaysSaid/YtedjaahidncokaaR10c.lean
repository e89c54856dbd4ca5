/- Layer 10: New, Use, Free, Lowest, Take. -/
import Derived.Test.YtedjaahidncokaaR10b
namespace Go.Proofs.Ytedjaahidncokaa
open Go.RowKit

theorem flips_take (ws : List Nat) (l : List Int) (k : Nat) (hk : k < l.length) : flips ws (l.take (k + 1)) = flip (flips ws (l.take k)) l[k].toNat := by
  unfold flips
  rw [List.take_succ_eq_append_getElem hk, List.foldl_append]; rfl

def after (ws : List Nat) (l : List Int) (code : Int) : List Nat := if code = 0 then flips ws l else ws

set_option maxHeartbeats 1000000 in
theorem use_any (g gw n : Nat) (ws : List Nat) (A : Option Addr) (c : Nat) (l : List Int) (w : World) (F : Nat → Prop) (h : RoomAt w g gw n ws)
    (hr : Rd w F 1 A l.length (ints l)) (hF : ∀ b, F b → b < w.heap.size ∧ b ≠ gw) (hm : l.length ≤ maxLen) :
    Calls Try.prog 10 #[.pointer (some ⟨g, 0, none⟩), .slice A l.length c] w fun e w' => e = .returned (.int .i64 (wrg (usedB ws n) n false [] l)) ∧
      RoomAt w' g gw n (after ws l (wrg (usedB ws n) n false [] l)) ∧ Kp (· = gw) w w' := by
  have hck := Lib.hid (check_any g gw n ws A c l false w h (hr.more (fun b hb => (hF b hb).1)) hm)
  have hok := Lib.hid (wrg_ok (usedB ws n) n false l [])
  have H := Lib.hid h
  have HR := Lib.hid hr
  have HF := Lib.hid hF
  clear h hr hF
  unfold maxLen at hm
  generalize hcode : wrg (usedB ws n) n false [] l = code at *
  have hc := Lib.hid hcode
  clear hcode
  by_cases h0 : code = 0
  · have hb0 : (code == 0) = true := by simpa using h0
    have hl := Lib.hid ((hok.out h0).1)
    have HA : Hid (after ws l code = flips ws l) := by unfold Hid after; rw [if_pos h0]
    have H0 := Lib.hid h0
    clear h0 hok
    go_enter Try.func10, Try.ntmps10
    go_wp2_with (go_at_call 21; refine hck.out.mono ?_; rintro e w1 ⟨rfl, hb1⟩; have HB1 := Lib.hid hb1; clear hb1)
    go_loopw [18] (fun i wr => ∃ k : Nat, k ≤ l.length ∧ i = .int .i64 k ∧ Hid (RoomAt wr g gw n (flips ws (l.take k))) ∧ Hid (Kp (· = gw) w wr)) (fun i _ => l.length - (intOf i).toNat)
    case atStart => exact ⟨0, Nat.zero_le _, rfl, by unfold Hid; exact H.out.kp (S := fun _ => False) (Kp.of_below HB1.out) (fun h => h) (fun h => h), Kp.of_below HB1.out⟩
    case round =>
      obtain ⟨k, hk, rfl, hroom, hkp⟩ := hrel
      by_cases hlt : k < l.length
      · obtain ⟨ad, rfl, _, hcell⟩ := (HR.out.kp hkp.out (fun b hb => HF.out b hb)).int hlt
        have hin := Lib.hid (hl.out _ (List.getElem_mem hlt))
        obtain ⟨j, hj⟩ := Int.eq_ofNat_of_zero_le hin.out.1
        have hjn : j < n := by have := hin.out.2.1; omega
        rw [hj] at hcell
        have hJ : Hid (flips ws (l.take (k + 1)) = flip (flips ws (l.take k)) j) := by unfold Hid; rw [flips_take ws l k hlt, hj]; rfl
        clear hj
        go_wp2_with (go_at_call 22; refine (turn_any g gw n _ j _ hroom.out hjn).mono ?_; rintro e w2 ⟨rfl, hr2, hk2⟩; have HR2 := Lib.hid hr2; have HK2 := Lib.hid hk2; clear hr2 hk2)
        go_roundw
        case rel => exact ⟨k + 1, by omega, by go_num, by unfold Hid; rw [hJ.out]; exact HR2.out, hkp.out.trans HK2.out (fun _ _ h => h)⟩
        case measure => simp [intOf]; omega
      · go_wp2
        go_ret
        refine ⟨rfl, ?_, hkp.out⟩
        rw [HA.out]
        have := hroom.out
        rwa [List.take_of_length_le (by omega)] at this
  · have hb0 : (code == 0) = false := by simpa using h0
    have HA : Hid (after ws l code = ws) := by unfold Hid after; rw [if_neg h0]
    clear h0 hok
    go_enter Try.func10, Try.ntmps10
    go_wp2_with (go_at_call 21; refine hck.out.mono ?_; rintro e w1 ⟨rfl, hb1⟩; have HB1 := Lib.hid hb1; clear hb1)
    go_ret
    exact ⟨rfl, by rw [HA.out]; exact H.out.kp (S := fun _ => False) (Kp.of_below HB1.out) (fun h => h) (fun h => h), Kp.of_below HB1.out⟩
set_option maxHeartbeats 1000000 in
theorem free_any (g gw n : Nat) (ws : List Nat) (A : Option Addr) (c : Nat) (l : List Int) (w : World) (F : Nat → Prop) (h : RoomAt w g gw n ws)
    (hr : Rd w F 1 A l.length (ints l)) (hF : ∀ b, F b → b < w.heap.size ∧ b ≠ gw) (hm : l.length ≤ maxLen) :
    Calls Try.prog 12 #[.pointer (some ⟨g, 0, none⟩), .slice A l.length c] w fun e w' => e = .returned (.int .i64 (wrg (usedB ws n) n true [] l)) ∧
      RoomAt w' g gw n (after ws l (wrg (usedB ws n) n true [] l)) ∧ Kp (· = gw) w w' := by
  have hck := Lib.hid (check_any g gw n ws A c l true w h (hr.more (fun b hb => (hF b hb).1)) hm)
  have hok := Lib.hid (wrg_ok (usedB ws n) n true l [])
  have H := Lib.hid h
  have HR := Lib.hid hr
  have HF := Lib.hid hF
  clear h hr hF
  unfold maxLen at hm
  generalize hcode : wrg (usedB ws n) n true [] l = code at *
  have hc := Lib.hid hcode
  clear hcode
  by_cases h0 : code = 0
  · have hb0 : (code == 0) = true := by simpa using h0
    have hl := Lib.hid ((hok.out h0).1)
    have HA : Hid (after ws l code = flips ws l) := by unfold Hid after; rw [if_pos h0]
    have H0 := Lib.hid h0
    clear h0 hok
    go_enter Try.func12, Try.ntmps12
    go_wp2_with (go_at_call 21; refine hck.out.mono ?_; rintro e w1 ⟨rfl, hb1⟩; have HB1 := Lib.hid hb1; clear hb1)
    go_loopw [18] (fun i wr => ∃ k : Nat, k ≤ l.length ∧ i = .int .i64 k ∧ Hid (RoomAt wr g gw n (flips ws (l.take k))) ∧ Hid (Kp (· = gw) w wr)) (fun i _ => l.length - (intOf i).toNat)
    case atStart => exact ⟨0, Nat.zero_le _, rfl, by unfold Hid; exact H.out.kp (S := fun _ => False) (Kp.of_below HB1.out) (fun h => h) (fun h => h), Kp.of_below HB1.out⟩
    case round =>
      obtain ⟨k, hk, rfl, hroom, hkp⟩ := hrel
      by_cases hlt : k < l.length
      · obtain ⟨ad, rfl, _, hcell⟩ := (HR.out.kp hkp.out (fun b hb => HF.out b hb)).int hlt
        have hin := Lib.hid (hl.out _ (List.getElem_mem hlt))
        obtain ⟨j, hj⟩ := Int.eq_ofNat_of_zero_le hin.out.1
        have hjn : j < n := by have := hin.out.2.1; omega
        rw [hj] at hcell
        have hJ : Hid (flips ws (l.take (k + 1)) = flip (flips ws (l.take k)) j) := by unfold Hid; rw [flips_take ws l k hlt, hj]; rfl
        clear hj
        go_wp2_with (go_at_call 22; refine (turn_any g gw n _ j _ hroom.out hjn).mono ?_; rintro e w2 ⟨rfl, hr2, hk2⟩; have HR2 := Lib.hid hr2; have HK2 := Lib.hid hk2; clear hr2 hk2)
        go_roundw
        case rel => exact ⟨k + 1, by omega, by go_num, by unfold Hid; rw [hJ.out]; exact HR2.out, hkp.out.trans HK2.out (fun _ _ h => h)⟩
        case measure => simp [intOf]; omega
      · go_wp2
        go_ret
        refine ⟨rfl, ?_, hkp.out⟩
        rw [HA.out]
        have := hroom.out
        rwa [List.take_of_length_le (by omega)] at this
  · have hb0 : (code == 0) = false := by simpa using h0
    have HA : Hid (after ws l code = ws) := by unfold Hid after; rw [if_neg h0]
    clear h0 hok
    go_enter Try.func12, Try.ntmps12
    go_wp2_with (go_at_call 21; refine hck.out.mono ?_; rintro e w1 ⟨rfl, hb1⟩; have HB1 := Lib.hid hb1; clear hb1)
    go_ret
    exact ⟨rfl, by rw [HA.out]; exact H.out.kp (S := fun _ => False) (Kp.of_below HB1.out) (fun h => h) (fun h => h), Kp.of_below HB1.out⟩

/-- the pages below i that p does not have -/
def freeTo (p : Nat → Bool) (i : Nat) : List Int := ((List.range i).filter (fun j => !p j)).map fun (j : Nat) => (j : Int)
theorem freeTo_succ (p : Nat → Bool) (i : Nat) : freeTo p (i + 1) = freeTo p i ++ (if p i then [] else [(i : Int)]) := by
  unfold freeTo
  rw [List.range_succ, List.filter_append, List.map_append]
  by_cases h : p i <;> simp [h]
theorem freeTo_len_le (p : Nat → Bool) (i : Nat) : (freeTo p i).length ≤ i := by
  unfold freeTo
  rw [List.length_map]
  exact Nat.le_trans (List.length_filter_le _ _) (by simp)
theorem freeTo_mono (p : Nat → Bool) (i j : Nat) (h : i ≤ j) : freeTo p i <+: freeTo p j := by
  induction j with
  | zero => have : i = 0 := by omega
            subst this; exact List.prefix_refl _
  | succ j ih =>
    by_cases he : i = j + 1
    · subst he; exact List.prefix_refl _
    · rw [freeTo_succ]
      exact (ih (by omega)).trans (List.prefix_append _ _)
/-- no page beyond the last one is in use -/
def Tidy (ws : List Nat) (n : Nat) : Prop := ∀ i, n ≤ i → bit ws i = false
theorem countP_not (p : Nat → Bool) (n : Nat) : (List.range n).countP p + (freeTo p n).length = n := by
  unfold freeTo
  rw [List.length_map, ← List.countP_eq_length_filter]
  have := List.length_eq_countP_add_countP p (l := List.range n)
  simp only [List.length_range] at this
  have e : (List.range n).countP (fun j => !p j) = (List.range n).countP (fun a => decide ¬p a = true) := by
    apply List.countP_congr; intro x _; simp
  omega
theorem pop_bits (ws : List Nat) : popAll ws = (List.range (64 * ws.length)).countP (bit ws) := by
  induction ws with
  | nil => simp [popAll]
  | cons x r ih =>
    have e1 : popAll (x :: r) = Pop.pop x + popAll r := by simp [popAll]
    rw [e1, ih, List.length_cons, show 64 * (r.length + 1) = 64 + 64 * r.length by omega, Pop.countP_range_add]
    congr 1
    · apply Pop.countP_congr_range
      intro i _
      have h1 : (64 + i) / 64 = i / 64 + 1 := by omega
      have h2 : (64 + i) % 64 = i % 64 := by omega
      simp [bit, h1, h2]
theorem pop_tidy {ws : List Nat} {n : Nat} (h : Tidy ws n) (hn : n ≤ 64 * ws.length) : popAll ws = (List.range n).countP (bit ws) := by
  rw [pop_bits, show 64 * ws.length = n + (64 * ws.length - n) by omega, Pop.countP_range_add]
  have : (List.range (64 * ws.length - n)).countP (fun i => bit ws (n + i)) = 0 := by
    rw [List.countP_eq_zero]
    intro i _
    simp [h (n + i) (by omega)]
  omega
theorem free_count {ws : List Nat} {n : Nat} (h : Tidy ws n) (hn : n ≤ 64 * ws.length) : popAll ws + (freeTo (bit ws) n).length = n := by
  rw [pop_tidy h hn]; exact countP_not _ _

theorem int_info : (Try.prog.info? 3).map (fun i => (i.zero, i.size, i.bytes)) = some (some (.int .i64 0), 1, 8) := by kernel_rfl

/-- what Lowest answers: a slice of our own, and a number -/
def LowPost (B : Nat) (w : World) (p : Nat → Bool) (n : Nat) (m : Int) (e : Ending) (w' : World) : Prop :=
  ∃ (v : Value) (l : List Int) (code : Int), e = .returned (.tuple #[v, .int .i64 code]) ∧ w'.ownsRow B 3 1 v l.length (ints l) ∧ Below B w w' ∧
    (l, code) = (if m < 0 then ([], 2) else if (freeTo p n).length < m then ([], 7) else ((freeTo p n).take m.toNat, 0))

set_option maxHeartbeats 1000000 in
theorem lowest_any (g gw n : Nat) (ws : List Nat) (m : Int) (w : World) (h : RoomAt w g gw n ws) (ht : Tidy ws n) :
    Calls Try.prog 14 #[.pointer (some ⟨g, 0, none⟩), .int .i64 m] w (LowPost w.heap.size w (bit ws) n m) := by
  have hn1 : ((n : Int) == 0) = false := by have := h.2.2.2.1; simp; omega
  have h1 := h.c1
  have hn : n ≤ 2047 := h.2.2.2.2.1
  have hcnt := Lib.hid (count_any g gw n ws w h)
  have hfc := free_count ht (by have := h.2.2.1; omega)
  have hcv : Hid ((n : Int) - (popAll ws : Int) = ((freeTo (bit ws) n).length : Int)) := by unfold Hid; omega
  rw [hcv.out] at hcnt
  clear hfc hcv
  have H := Lib.hid h
  have hz : g < w.heap.size ∧ gw < w.heap.size := ⟨h.1.lt, h.2.1.lt⟩
  clear h
  have hfl := freeTo_len_le (bit ws) n
  by_cases hm0 : m < 0
  · go_enter Try.func14, Try.ntmps14
    go_wp2_with fail
    go_ret2
    exact ⟨_, [], 2, rfl, World.ownsRow_nil _ _ _ _, Below.refl _ _, by rw [if_pos hm0]⟩
  · by_cases hm1 : ((freeTo (bit ws) n).length : Int) < m
    · have hm2 : 0 ≤ m := by omega
      go_enter Try.func14, Try.ntmps14
      go_wp2_with (go_at_call 19; refine hcnt.out.mono ?_; rintro e w1 ⟨rfl, rfl⟩)
      go_ret2
      exact ⟨_, [], 7, rfl, World.ownsRow_nil _ _ _ _, Below.refl _ _, by rw [if_neg (by omega), if_pos hm1]⟩
    · obtain ⟨M, rfl⟩ := Int.eq_ofNat_of_zero_le (show 0 ≤ m by omega)
      have hM : M ≤ (freeTo (bit ws) n).length := by omega
      have hMd : decide ((freeTo (bit ws) n).length < M) = false := by simp; omega
      clear hm0 hm1
      obtain ⟨i0, hi, hz0, hz1, hz2⟩ := info_parts int_info
      go_enter Try.func14, Try.ntmps14
      go_wp2_with (go_at_call 19; refine hcnt.out.mono ?_; rintro e w1 ⟨rfl, rfl⟩)
      go_loopw [6, 7] (fun v i wr => ∃ k : Nat, k ≤ n ∧ i = .int .i64 k ∧ (freeTo (bit ws) k).length ≤ M ∧ Hid (wr.ownsRow w.heap.size 3 1 v (freeTo (bit ws) k).length (ints (freeTo (bit ws) k))) ∧ Hid (Below w.heap.size w wr)) (fun _ i _ => n - (intOf i).toNat)
      case atStart => exact ⟨0, Nat.zero_le _, rfl, by simp [freeTo], World.ownsRow_nil _ _ _ _, Below.refl _ _⟩
      case round =>
        obtain ⟨k, hk, rfl, hle, hown, hb⟩ := hrel
        have hkp0 : Hid (Kp (fun _ => False) w wr) := Kp.of_below hb.out
        have hroom : Hid (RoomAt wr g gw n ws) := H.out.kp hkp0.out (fun h => h) (fun h => h)
        obtain ⟨A, cp, rfl, _⟩ := own_form hown.out
        by_cases hlt : (freeTo (bit ws) k).length < M
        · have hkn : k < n := by
            rcases Nat.lt_or_ge k n with h | h
            · exact h
            · have : k = n := by omega
              subst this; omega
          have hsucc := Lib.hid (freeTo_succ (bit ws) k)
          rcases hbit : bit ws k with _ | _
          all_goals
            have hus := Lib.hid (used_in g gw n ws k wr hroom.out hkn)
            rw [hbit] at hus
            have hs2 := hsucc.out
            rw [hbit] at hs2
            have HS := Lib.hid hs2
            clear hs2 hbit
          · have hsz := hb.out.size
            go_wp2_with (first | (go_at_call 17; refine hus.out.mono ?_; rintro e w2 ⟨rfl, rfl⟩) | (at_builtin; refine wpList_append_own _ rfl _ _ 29 rfl w.heap.size 3 i0 (.int .i64 0) 1 8 Try.underlying29 hi hz0 hz1 hz2 rfl (by decide) _ _ _ rfl (hown.out.alloc _) ⟨wr.heap.size, 0, none⟩ 1 1 [.int .i64 k] rfl rfl ?c1 ?c2 ?c3 ?c4 ?c5 ?_))
            case c1 => exact cell_one_new _ _ _
            case c2 => intro u hu; simp at hu; subst hu; rfl
            case c3 => unfold maxLen; omega
            case c4 => omega
            case c5 => simp; omega
            intro v2 w2 hown2 hg2 _
            have HO2 : Hid (w2.ownsRow w.heap.size 3 1 v2 (freeTo (bit ws) (k + 1)).length (ints (freeTo (bit ws) (k + 1)))) := by
              unfold Hid
              rw [HS.out, ints_app, List.length_append]
              exact hown2
            have HB2 : Hid (Below w.heap.size w w2) := (hb.out.alloc hb.out.size _).grown hg2 (by simp; omega) (fun j hj => (hown.out.lt j hj).1)
            have hlen2 : (freeTo (bit ws) (k + 1)).length ≤ M := by rw [HS.out, List.length_append]; simp; omega
            clear hown2 hg2
            go_wp2
            go_roundw
            case rel => exact ⟨k + 1, by omega, by go_num, hlen2, HO2, HB2⟩
            case measure => simp [intOf]; omega
          · have hlen2 : (freeTo (bit ws) (k + 1)).length ≤ M := by rw [HS.out]; simpa using hle
            go_wp2_with (go_at_call 17; refine hus.out.mono ?_; rintro e w2 ⟨rfl, rfl⟩)
            go_roundw
            case rel => exact ⟨k + 1, by omega, by go_num, hlen2, by rw [HS.out]; simpa using hown, hb⟩
            case measure => simp [intOf]; omega
        · have hpre := freeTo_mono (bit ws) k n hk
          have hfin : Hid ((freeTo (bit ws) n).take M = freeTo (bit ws) k) := by
            unfold Hid
            have := List.prefix_iff_eq_take.1 hpre
            rw [show (freeTo (bit ws) k).length = M by omega] at this
            exact this.symm
          clear hpre
          go_wp2
          go_ret2
          refine ⟨_, freeTo (bit ws) k, 0, rfl, hown.out, hb.out, ?_⟩
          rw [if_neg (by omega), if_neg (by omega), Int.toNat_natCast, hfin.out]
end Go.Proofs.Ytedjaahidncokaa
