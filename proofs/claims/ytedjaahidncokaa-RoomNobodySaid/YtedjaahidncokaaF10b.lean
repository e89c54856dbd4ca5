/- The document's answer of layer 10: Use, Free, Lowest; two lists held against each other. -/
import Derived.Test.YtedjaahidncokaaF10
namespace Go.Proofs.Ytedjaahidncokaa
open Go.RowKit

/-- a slice value that reads as ints -/
def IntsAt (w : World) (F : Nat → Prop) (v : Value) (l : List Int) : Prop := ∃ A c, v = .slice A l.length c ∧ l.length ≤ c ∧ c ≤ maxLen ∧ Rd w F 1 A l.length (ints l)
theorem IntsAt.kp {S F : Nat → Prop} {w w' : World} {v : Value} {l : List Int} (h : IntsAt w F v l) (k : Kp S w w') (hF : ∀ b, F b → b < w.heap.size ∧ ¬ S b) : IntsAt w' F v l := by
  obtain ⟨A, c, e, h1, h2, h3⟩ := h
  exact ⟨A, c, e, h1, h2, h3.kp k hF⟩
theorem IntsAt.more {F F' : Nat → Prop} {w : World} {v : Value} {l : List Int} (h : IntsAt w F v l) (hF : ∀ b, F b → F' b) : IntsAt w F' v l := by
  obtain ⟨A, c, e, h1, h2, h3⟩ := h
  exact ⟨A, c, e, h1, h2, h3.more hF⟩
theorem IntsAt.of_own {w : World} {base : Nat} {e : TypeId} {v : Value} {l : List Int} (h : w.ownsRow base e 1 v l.length (ints l)) : IntsAt w (fun b => base ≤ b ∧ b < w.heap.size) v l := by
  obtain ⟨A, c, rfl, h1, h2⟩ := own_form h
  exact ⟨A, c, rfl, h1, h2, Rd.of_own h⟩
theorem IntsAt.nil {w : World} {F : Nat → Prop} : IntsAt w F (.slice none 0 0) [] := ⟨none, 0, rfl, Nat.le_refl _, by unfold maxLen; omega, Rd.nil⟩

def RefPost (w : World) (F : Nat → Prop) (l : List Int) (code : Int) (e : Ending) (w' : World) : Prop :=
  ∃ v, e = .returned (.tuple #[v, .int .i64 code]) ∧ IntsAt w' (fun b => F b ∨ (w.heap.size ≤ b ∧ b < w'.heap.size)) v l ∧ Below w.heap.size w w'

theorem below_lit {w w1 : World} (q : Nat) {o : Obj} {row : Option Nat} (hg : ((w.drewN q).alloc o).grownBy w1 row) (hr : ∀ k, row = some k → w.heap.size ≤ k := by intro k hk; injection hk with hk; exact Nat.le_of_eq hk) : Below w.heap.size w w1 :=
  ((below_drewN (Below.refl _ w) q).alloc (Nat.le_refl _) _).grown hg (by rw [World.size_alloc]; exact Nat.le_succ _) hr

def useList (u l : List Int) (code : Int) : List Int := if code = 0 then u ++ l else u

set_option maxHeartbeats 1000000 in
theorem refuse_any (vU vL : Value) (n : Nat) (u l : List Int) (w : World) (F : Nat → Prop) (hu : IntsAt w F vU u) (hl : IntsAt w F vL l) (hF : ∀ b, F b → b < w.heap.size) (hlen : u.length + l.length ≤ 1000000) :
    Calls Try.prog 9 #[vU, .int .i64 n, vL] w (RefPost w F (useList u l (wrg (hasI u) n false [] l)) (wrg (hasI u) n false [] l)) := by
  obtain ⟨AU, cU, rfl, hcU, hmU, hu⟩ := hu
  obtain ⟨AL, cL, rfl, hcL, hmL, hl⟩ := hl
  have hwr := Lib.hid (wrong_any AU AL cU cL n u l false w F hu hl (by omega) (by omega) hcL)
  have HU := Lib.hid hu
  have HL := Lib.hid hl
  have HF := Lib.hid hF
  clear hu hl hF
  generalize hcode : wrg (hasI u) n false [] l = code at *
  clear hcode
  by_cases h0 : code = 0
  · subst h0
    obtain ⟨i0, hi, hz0, hz1, hz2⟩ := info_parts int_info
    go_enter Try.func9, Try.ntmps9
    go_wp2_with fail
    refine hwr.out.mono ?_
    rintro e w1 ⟨rfl, q, rfl⟩
    have hsz : (w.drewN q).heap.size = w.heap.size := rfl
    go_wp2_with (first
      | (at_builtin; (refine wpList_append_rd _ rfl (.tmp 17) (.tmp 18) _ rfl w.heap.size 3 i0 _ 1 8 Try.underlying29 hi hz0 hz1 hz2 rfl (by omega) _ 0 [] rfl (World.ownsRow_lit (w.drewN q) #[] 0 (by rw [hsz]; exact Nat.le_refl _) (by unfold maxLen; omega) rfl) F AU u.length cU (ints u) rfl ((HU.out.drewN q).alloc (fun b hb => HF.out b hb) _) (ints_one u) (by unfold maxLen; omega) (by omega) (by simp) ?_); intro v1 w1 hown1 hg1 hat1; have hbw1 := Lib.hid (below_lit q hg1); have hown1' := Lib.hid hown1; clear hg1 hown1)
      | (at_builtin; refine wpList_append_rd _ rfl (.tmp 19) (.tmp 20) _ rfl w.heap.size 3 i0 _ 1 8 Try.underlying29 hi hz0 hz1 hz2 rfl (by omega) v1 (0 + u.length) ([] ++ ints u) rfl hown1'.out F AL l.length cL (ints l) rfl (HL.out.below hbw1.out HF.out) (ints_one l) (by unfold maxLen; omega) (by omega) hbw1.out.size ?_; intro v2 w2 hown2 hg2 hat2))
    go_ret2
    refine ⟨v2, rfl, ?_, hbw1.out.grown hg2 hbw1.out.size (fun k hk => (hown1'.out.lt k hk).1)⟩
    have e : useList u l 0 = u ++ l := by unfold useList; rw [if_pos rfl]
    rw [e]
    refine (IntsAt.of_own (e := 3) (base := w.heap.size) ?_).more (fun b hb => .inr hb)
    simpa [ints_app] using hown2
  · have hb0 : (code != 0) = true := by simpa using h0
    have HC : Hid (useList u l code = u) := by unfold Hid useList; rw [if_neg h0]
    clear h0
    go_enter Try.func9, Try.ntmps9
    go_wp2_with fail
    refine hwr.out.mono ?_
    rintro e w1 ⟨rfl, q, rfl⟩
    go_wp2_with fail
    go_ret2
    rw [HC.out]
    exact ⟨_, rfl, ⟨AU, cU, rfl, hcU, hmU, (HU.out.drewN q).more (fun b hb => .inl hb)⟩, below_drewN (Below.refl _ _) q⟩

def freeList (u l : List Int) (code : Int) : List Int := if code = 0 then u.filter (fun x => !hasI l x) else u
theorem filter_snoc (u : List Int) (p : Int → Bool) (k : Nat) (hk : k < u.length) : (u.take (k + 1)).filter p = (u.take k).filter p ++ (if p u[k] then [u[k]] else []) := by
  rw [List.take_succ_eq_append_getElem hk, List.filter_append]
  congr 1
  by_cases h : p u[k] <;> simp [h]

set_option maxHeartbeats 1000000 in
theorem reffree_any (vU vL : Value) (n : Nat) (u l : List Int) (w : World) (F : Nat → Prop) (hu : IntsAt w F vU u) (hl : IntsAt w F vL l) (hF : ∀ b, F b → b < w.heap.size) (hlen : u.length + l.length ≤ 1000000) :
    Calls Try.prog 11 #[vU, .int .i64 n, vL] w (RefPost w F (freeList u l (wrg (hasI u) n true [] l)) (wrg (hasI u) n true [] l)) := by
  obtain ⟨AU, cU, rfl, hcU, hmU, hu⟩ := hu
  obtain ⟨AL, cL, rfl, hcL, hmL, hl⟩ := hl
  have hwr := Lib.hid (wrong_any AU AL cU cL n u l true w F hu hl (by omega) (by omega) hcL)
  have HU := Lib.hid hu
  have HL := Lib.hid hl
  have HF := Lib.hid hF
  clear hu hl hF
  generalize hcode : wrg (hasI u) n true [] l = code at *
  clear hcode
  by_cases h0 : code = 0
  · subst h0
    obtain ⟨i0, hi, hz0, hz1, hz2⟩ := info_parts int_info
    go_enter Try.func11, Try.ntmps11
    go_wp2_with fail
    refine hwr.out.mono ?_
    rintro e w1 ⟨rfl, q, hw1⟩
    have HB1 : Hid (Below w.heap.size w w1) := by rw [hw1]; exact below_drewN (Below.refl _ w) q
    clear hw1
    go_wp2_with fail
    go_loopw [9, 10] (fun v i wr => ∃ k : Nat, k ≤ u.length ∧ i = .int .i64 k ∧ Hid (wr.ownsRow w.heap.size 3 1 v ((u.take k).filter (fun x => !hasI l x)).length (ints ((u.take k).filter (fun x => !hasI l x)))) ∧ Hid (Below w.heap.size w wr)) (fun _ i _ => u.length - (intOf i).toNat)
    case atStart => exact ⟨0, Nat.zero_le _, rfl, World.ownsRow_nil _ _ _ _, HB1⟩
    case round =>
      obtain ⟨k, hk, rfl, hown, hb⟩ := hrel
      have hsz := hb.out.size
      have hfl : ((u.take k).filter (fun x => !hasI l x)).length ≤ k := Nat.le_trans (List.length_filter_le _ _) (List.length_take_le _ _)
      by_cases hlt : k < u.length
      · obtain ⟨ad, rfl, _, hc⟩ := (HU.out.below hb.out HF.out).int hlt
        have hin := Lib.hid (in_any AL l.length cL l u[k] wr F (HL.out.below hb.out HF.out) (by omega))
        have hs := filter_snoc u (fun x => !hasI l x) k hlt
        obtain ⟨A, cp, rfl, _⟩ := own_form hown.out
        rcases hbit : hasI l u[k] with _ | _
        all_goals
          rw [hbit] at hin hs
          have HS := Lib.hid hs
          clear hs hbit
        · go_wp2_with (first | (go_at_call 18; refine hin.out.mono ?_; rintro e w2 ⟨rfl, rfl⟩) | (at_builtin; refine wpList_append_own _ rfl _ _ 29 rfl w.heap.size 3 i0 (.int .i64 0) 1 8 Try.underlying29 hi hz0 hz1 hz2 rfl (by decide) _ _ _ rfl (hown.out.alloc _) ⟨wr.heap.size, 0, none⟩ 1 1 [.int .i64 u[k]] rfl rfl ?c1 ?c2 ?c3 ?c4 ?c5 ?_))
          case c1 => exact cell_one_new _ _ _
          case c2 => intro u hu; simp at hu; subst hu; rfl
          case c3 => unfold maxLen; omega
          case c4 => omega
          case c5 => simp; omega
          intro v2 w2 hown2 hg2 _
          have HO2 : Hid (w2.ownsRow w.heap.size 3 1 v2 ((u.take (k + 1)).filter (fun x => !hasI l x)).length (ints ((u.take (k + 1)).filter (fun x => !hasI l x)))) := by
            unfold Hid
            rw [HS.out, ints_app, List.length_append]
            exact hown2
          have HB2 : Hid (Below w.heap.size w w2) := (hb.out.alloc hb.out.size _).grown hg2 (by simp; omega) (fun j hj => (hown.out.lt j hj).1)
          clear hown2 hg2
          go_wp2
          go_roundw
          case rel => exact ⟨k + 1, by omega, by go_num, HO2, HB2⟩
          case measure => simp [intOf]; omega
        · go_wp2_with (go_at_call 18; refine hin.out.mono ?_; rintro e w2 ⟨rfl, rfl⟩)
          go_roundw
          case rel => exact ⟨k + 1, by omega, by go_num, by rw [HS.out]; simpa using hown, hb⟩
          case measure => simp [intOf]; omega
      · go_wp2
        go_ret2
        have e : freeList u l 0 = u.filter (fun x => !hasI l x) := by unfold freeList; rw [if_pos rfl]
        rw [e]
        have hown' := hown.out
        rw [List.take_of_length_le (by omega)] at hown'
        exact ⟨_, rfl, (IntsAt.of_own hown').more (fun b hb => .inr hb), hb.out⟩
  · have hb0 : (code != 0) = true := by simpa using h0
    have HC : Hid (freeList u l code = u) := by unfold Hid freeList; rw [if_neg h0]
    clear h0
    go_enter Try.func11, Try.ntmps11
    go_wp2_with fail
    refine hwr.out.mono ?_
    rintro e w1 ⟨rfl, q, rfl⟩
    go_wp2_with fail
    go_ret2
    rw [HC.out]
    exact ⟨_, rfl, ⟨AU, cU, rfl, hcU, hmU, (HU.out.drewN q).more (fun b hb => .inl hb)⟩, below_drewN (Below.refl _ _) q⟩

/-- what the document's Lowest gives -/
def RLowPost (w : World) (p : Nat → Bool) (n len : Nat) (m : Int) (e : Ending) (w' : World) : Prop :=
  ∃ (v : Value) (l : List Int) (code : Int), e = .returned (.tuple #[v, .int .i64 code]) ∧ w'.ownsRow w.heap.size 3 1 v l.length (ints l) ∧ Below w.heap.size w w' ∧
    (l, code) = (if m < 0 then ([], 2) else if (n : Int) - len < m then ([], 7) else ((freeTo p n).take m.toNat, 0))

set_option maxHeartbeats 1000000 in
theorem reflow_any (vU : Value) (n : Nat) (u : List Int) (m : Int) (w : World) (F : Nat → Prop) (hu : IntsAt w F vU u) (hF : ∀ b, F b → b < w.heap.size) (hlen : u.length ≤ 1000000) (hn : n ≤ 1000000) :
    Calls Try.prog 13 #[vU, .int .i64 n, .int .i64 m] w (RLowPost w (fun i => hasI u i) n u.length m) := by
  obtain ⟨AU, cU, rfl, hcU, hmU, hu⟩ := hu
  have HU := Lib.hid hu
  have HF := Lib.hid hF
  clear hu hF
  by_cases hm0 : m < 0
  · go_enter Try.func13, Try.ntmps13
    go_wp2_with fail
    go_ret2
    exact ⟨_, [], 2, rfl, World.ownsRow_nil _ _ _ _, Below.refl _ _, by rw [if_pos hm0]⟩
  · by_cases hm1 : (n : Int) - u.length < m
    · have hm2 : 0 ≤ m := by omega
      go_enter Try.func13, Try.ntmps13
      go_wp2_with fail
      go_ret2
      exact ⟨_, [], 7, rfl, World.ownsRow_nil _ _ _ _, Below.refl _ _, by rw [if_neg (by omega), if_pos hm1]⟩
    · obtain ⟨M, rfl⟩ := Int.eq_ofNat_of_zero_le (show 0 ≤ m by omega)
      have hMn : M ≤ n := by omega
      have hMd : decide ((n : Int) - u.length < M) = false := by simp; omega
      have hHm1 := Lib.hid hm1
      clear hm0 hm1
      obtain ⟨i0, hi, hz0, hz1, hz2⟩ := info_parts int_info
      go_enter Try.func13, Try.ntmps13
      go_wp2_with fail
      go_loopw [8, 9] (fun v i wr => ∃ k : Nat, k ≤ n ∧ i = .int .i64 k ∧ (freeTo (fun i => hasI u i) k).length ≤ M ∧ Hid (wr.ownsRow w.heap.size 3 1 v (freeTo (fun i => hasI u i) k).length (ints (freeTo (fun i => hasI u i) k))) ∧ Hid (Below w.heap.size w wr)) (fun _ i _ => n - (intOf i).toNat)
      case atStart => exact ⟨0, Nat.zero_le _, rfl, by simp [freeTo], World.ownsRow_nil _ _ _ _, Below.refl _ _⟩
      case round =>
        obtain ⟨k, hk, rfl, hle, hown, hb⟩ := hrel
        have hsz := hb.out.size
        obtain ⟨A, cp, rfl, _⟩ := own_form hown.out
        by_cases hkn : k < n
        · by_cases hlt : (freeTo (fun i => hasI u i) k).length < M
          · have hs := freeTo_succ (fun i => hasI u i) k
            have hin := Lib.hid (in_any AU u.length cU u k wr F (HU.out.below hb.out HF.out) (by unfold maxLen; omega))
            rcases hbit : hasI u k with _ | _
            all_goals
              simp only [hbit] at hs
              rw [hbit] at hin
              have HS := Lib.hid hs
              clear hs hbit
            · go_wp2_with (first | (go_at_call 18; refine hin.out.mono ?_; rintro e w2 ⟨rfl, rfl⟩) | (at_builtin; refine wpList_append_own _ rfl _ _ 29 rfl w.heap.size 3 i0 (.int .i64 0) 1 8 Try.underlying29 hi hz0 hz1 hz2 rfl (by decide) _ _ _ rfl (hown.out.alloc _) ⟨wr.heap.size, 0, none⟩ 1 1 [.int .i64 k] rfl rfl ?c1 ?c2 ?c3 ?c4 ?c5 ?_))
              case c1 => exact cell_one_new _ _ _
              case c2 => intro u hu; simp at hu; subst hu; rfl
              case c3 => unfold maxLen; omega
              case c4 => omega
              case c5 => simp; omega
              intro v2 w2 hown2 hg2 _
              have HO2 : Hid (w2.ownsRow w.heap.size 3 1 v2 (freeTo (fun i => hasI u i) (k + 1)).length (ints (freeTo (fun i => hasI u i) (k + 1)))) := by
                unfold Hid
                rw [HS.out, ints_app, List.length_append]
                exact hown2
              have HB2 : Hid (Below w.heap.size w w2) := (hb.out.alloc hb.out.size _).grown hg2 (by simp; omega) (fun j hj => (hown.out.lt j hj).1)
              have hlen2 : (freeTo (fun i => hasI u i) (k + 1)).length ≤ M := by rw [HS.out, List.length_append]; simp; omega
              clear hown2 hg2
              go_wp2
              go_roundw
              case rel => exact ⟨k + 1, by omega, by go_num, hlen2, HO2, HB2⟩
              case measure => simp [intOf]; omega
            · have hlen2 : (freeTo (fun i => hasI u i) (k + 1)).length ≤ M := by rw [HS.out]; simpa using hle
              go_wp2_with (go_at_call 18; refine hin.out.mono ?_; rintro e w2 ⟨rfl, rfl⟩)
              go_roundw
              case rel => exact ⟨k + 1, by omega, by go_num, hlen2, by rw [HS.out]; simpa using hown, hb⟩
              case measure => simp [intOf]; omega
          · have hfin : Hid ((freeTo (fun i => hasI u i) n).take M = freeTo (fun i => hasI u i) k) := by
              unfold Hid
              have := List.prefix_iff_eq_take.1 (freeTo_mono (fun i => hasI u i) k n hk)
              rw [show (freeTo (fun i => hasI u i) k).length = M by omega] at this
              exact this.symm
            go_wp2
            go_ret2
            refine ⟨_, freeTo (fun i => hasI u i) k, 0, rfl, hown.out, hb.out, ?_⟩
            rw [if_neg (by omega), if_neg (by have := hHm1.out; omega), Int.toNat_natCast, hfin.out]
        · have hfin : Hid ((freeTo (fun i => hasI u i) n).take M = freeTo (fun i => hasI u i) k) := by
            unfold Hid
            have hkn' : k = n := by omega
            subst hkn'
            exact List.take_of_length_le hle
          go_wp2
          go_ret2
          refine ⟨_, freeTo (fun i => hasI u i) k, 0, rfl, hown.out, hb.out, ?_⟩
          rw [if_neg (by omega), if_neg (by have := hHm1.out; omega), Int.toNat_natCast, hfin.out]

def sameI (a b : List Int) : Bool := decide (a = b)
set_option maxHeartbeats 1000000 in
theorem ints_any (va vb : Value) (a b : List Int) (w : World) (F : Nat → Prop) (ha : IntsAt w F va a) (hb : IntsAt w F vb b) :
    Calls Try.prog 16 #[va, vb] w fun e w' => e = .returned (.bool (sameI a b)) ∧ ∃ q, w' = w.drewN q := by
  obtain ⟨AA, ca, rfl, hca, hma, ha⟩ := ha
  obtain ⟨AB, cb, rfl, hcb, hmb, hb⟩ := hb
  have HA := Lib.hid ha
  have HB := Lib.hid hb
  clear ha hb
  unfold maxLen at hma hmb
  by_cases hl : a.length = b.length
  · have hd : ((a.length : Int) != (b.length : Int)) = false := by simp [hl]
    have HL := Lib.hid hl
    have hle : a.length ≤ b.length := by omega
    clear hl
    go_enter Try.func16, Try.ntmps16
    go_wp2
    go_loopw [13] (fun i wr => ∃ k q : Nat, k ≤ a.length ∧ i = .int .i64 k ∧ Hid (a.take k = b.take k) ∧ Hid (wr = w.drewN q)) (fun i _ => a.length - (intOf i).toNat)
    case atStart => exact ⟨0, 0, Nat.zero_le _, rfl, rfl, rfl⟩
    case round =>
      obtain ⟨k, q, hk, rfl, hsame, hw⟩ := hrel
      by_cases hlt : k < a.length
      · have hltb : k < b.length := by omega
        obtain ⟨ad, rfl, _, hc1⟩ := (show Rd wr F 1 AA a.length (ints a) by rw [hw.out]; exact HA.out.drewN q).int hlt
        obtain ⟨bd, rfl, _, hc2⟩ := (show Rd wr F 1 AB b.length (ints b) by rw [hw.out]; exact HB.out.drewN q).int hltb
        by_cases he : a[k] = b[k]
        · have hbe : (a[k] != b[k]) = false := by simp [he]
          have hs2 : Hid (a.take (k + 1) = b.take (k + 1)) := by unfold Hid; rw [List.take_succ_eq_append_getElem hlt, List.take_succ_eq_append_getElem hltb, hsame.out, he]
          clear he
          go_wp2
          go_quiet (fail)
          go_wp2
          go_roundw
          case rel => exact ⟨k + 1, _, by omega, by go_num, hs2, by unfold Hid; rw [hw.out, World.drewN_drewN]⟩
          case measure => simp [intOf]; omega
        · have hbe : (a[k] != b[k]) = true := by simpa using he
          have hfin : Hid (sameI a b = false) := by
            unfold Hid sameI
            rw [decide_eq_false_iff_not]
            rintro rfl
            exact he rfl
          clear he
          go_wp2
          go_quiet (fail)
          go_wp2
          go_ret
          exact ⟨by rw [hfin.out]; rfl, _, by rw [hw.out, World.drewN_drewN]⟩
      · have hfin : Hid (sameI a b = true) := by
          unfold Hid sameI
          have := hsame.out
          rw [List.take_of_length_le (by omega), List.take_of_length_le (by have := HL.out; omega)] at this
          simp [this]
        go_wp2
        go_ret
        exact ⟨by rw [hfin.out]; rfl, q, hw.out⟩
  · have hd : ((a.length : Int) != (b.length : Int)) = true := by simpa using (fun h : (a.length : Int) = b.length => hl (by omega))
    have hfin : Hid (sameI a b = false) := by
      unfold Hid sameI
      rw [decide_eq_false_iff_not]
      rintro rfl
      exact hl rfl
    clear hl
    go_enter Try.func16, Try.ntmps16
    go_wp2
    go_ret
    exact ⟨by rw [hfin.out]; rfl, 0, rfl⟩
end Go.Proofs.Ytedjaahidncokaa
