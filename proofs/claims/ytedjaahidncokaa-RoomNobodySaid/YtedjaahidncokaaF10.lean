/- The document's answer of layer 10: what each function gives. -/
import Derived.Test.YtedjaahidncokaaR10d
namespace Go.Proofs.Ytedjaahidncokaa
open Go.RowKit

set_option maxHeartbeats 400000 in
theorem in_any (A : Option Addr) (n c : Nat) (l : List Int) (x : Int) (w : World) (F : Nat → Prop) (h : Rd w F 1 A n (ints l)) (hm : l.length ≤ maxLen) :
    Calls Try.prog 18 #[.slice A n c, .int .i64 x] w fun e w' => e = .returned (.bool (hasI l x)) ∧ w = w' := by
  have hn : n = l.length := h.len (ints_len l)
  subst hn
  unfold maxLen at hm
  go_enter Try.func18, Try.ntmps18
  go_wp2
  go_loop [5] (fun i => ∃ k : Nat, k ≤ l.length ∧ i = .int .i64 k ∧ Hid (hasI (l.take k) x = false)) (fun i => l.length - (intOf i).toNat)
  case atStart => exact ⟨0, Nat.zero_le _, rfl, by simp [hasI, Hid]⟩
  case round =>
    obtain ⟨k, hk, rfl, hno⟩ := hrel
    by_cases hlt : k < l.length
    · obtain ⟨ad, rfl, _, hc⟩ := h.int hlt
      have hs := Lib.hid (hasI_snoc l k hlt x)
      by_cases he : l[k] = x
      · have hb : (l[k] == x) = true := by simpa using he
        have hfin : Hid (hasI l x = true) := by
          unfold Hid
          rw [hasI_mem, ← he]; exact List.getElem_mem hlt
        clear he
        go_wp2
        go_ret
        exact ⟨by rw [hfin.out]; rfl, rfl⟩
      · have hb : (l[k] == x) = false := by simpa using he
        clear he
        go_wp2
        go_round
        case rel => exact ⟨k + 1, by omega, by go_num, by unfold Hid; rw [hs.out, hno.out, hb]; rfl⟩
        case measure => simp [intOf]; omega
    · go_wp2
      go_ret
      have hfin : hasI l x = false := by have := hno.out; rwa [List.take_of_length_le (by omega)] at this
      exact ⟨by rw [hfin]; rfl, rfl⟩

theorem in_quiet (A : Option Addr) (n c : Nat) (l : List Int) (x : Int) (w : World) (b : Bool) (F : Nat → Prop) (h : Rd w F 1 A n (ints l)) (hm : l.length ≤ maxLen) (hb : hasI l x = b) (nq : Nat) :
    Calls Try.prog 18 #[.slice A n c, .int .i64 x] (w.drewN nq) fun e w' => e = .returned (.bool b) ∧ w' = w.drewN nq :=
  (in_any A n c l x (w.drewN nq) F (h.drewN nq) hm).mono fun _ _ h => ⟨by rw [← hb]; exact h.1, h.2.symm⟩

set_option maxHeartbeats 1000000 in
theorem wrong_any (AU AL : Option Addr) (cU cL n : Nat) (u l : List Int) (must : Bool) (w : World) (F : Nat → Prop) (hu : Rd w F 1 AU u.length (ints u)) (hl : Rd w F 1 AL l.length (ints l)) (hmu : u.length ≤ maxLen) (hml : l.length ≤ maxLen) (hcL : l.length ≤ cL) :
    Calls Try.prog 20 #[.slice AU u.length cU, .int .i64 n, .slice AL l.length cL, .bool must] w fun e w' => e = .returned (.int .i64 (wrg (hasI u) n must [] l)) ∧ ∃ q, w' = w.drewN q := by
  have HU := Lib.hid hu
  have HL := Lib.hid hl
  have HMU := Lib.hid hmu
  have HML := Lib.hid hml
  clear hu hl hmu
  unfold maxLen at hml
  go_enter Try.func20, Try.ntmps20
  go_wp2
  go_loopw [9] (fun i wr => ∃ k q : Nat, k ≤ l.length ∧ i = .int .i64 k ∧ Hid (wrg (hasI u) n must [] l = wrg (hasI u) n must (l.take k) (l.drop k)) ∧ Hid (wr = w.drewN q)) (fun i _ => l.length - (intOf i).toNat)
  case atStart => exact ⟨0, 0, Nat.zero_le _, rfl, by unfold Hid; simp, by unfold Hid; rfl⟩
  case round =>
    obtain ⟨k, q, hk, rfl, hwr, hw⟩ := hrel
    have HU' : Hid (Rd wr F 1 AU u.length (ints u)) := by unfold Hid; rw [hw.out]; exact HU.out.drewN q
    have HL' : Hid (Rd wr F 1 AL l.length (ints l)) := by unfold Hid; rw [hw.out]; exact HL.out.drewN q
    by_cases hlt : k < l.length
    · obtain ⟨ad, rfl, _, hc⟩ := HL'.out.int hlt
      have hat := Lib.hid (wrg_at (hasI u) n must l k hlt)
      by_cases hr1 : l[k] < 0
      · have hfin : Hid (wrg (hasI u) n must [] l = 9) := by unfold Hid; rw [hwr.out, hat.out, if_pos (.inl hr1)]
        go_wp2
        go_ret
        exact ⟨by rw [hfin.out]; rfl, q, hw.out⟩
      · by_cases hr2 : (n : Int) ≤ l[k]
        · have hfin : Hid (wrg (hasI u) n must [] l = 9) := by unfold Hid; rw [hwr.out, hat.out, if_pos (.inr hr2)]
          go_wp2
          go_ret
          exact ⟨by rw [hfin.out]; rfl, q, hw.out⟩
        · have hat2 := hat.out
          rw [if_neg (by omega)] at hat2
          have hge : 0 ≤ l[k] := by omega
          have hlo : l[k] < (n : Int) := by omega
          clear hr1 hr2
          rcases hU : hasI u l[k] with _ | _ <;> rcases hP : hasI (l.take k) l[k] with _ | _ <;> cases must
          all_goals
            have hq1 := Lib.hid (in_quiet AU u.length cU u l[k] wr _ F HU'.out HMU.out hU)
            have hq2 := Lib.hid (in_quiet (some ad) k cL (l.take k) l[k] wr _ F (by have := HL'.out.take (k := k) (by omega); simpa [ints, List.map_take] using this) (by have := HML.out; simp; omega) hP)
            rw [hU, hP] at hat2
            have hstep := Lib.hid (hwr.out.trans hat2)
            clear hat2 hU hP
          all_goals
            go_wp2
            go_quiet (first | (go_at_call 18; with_reducible exact Calls.quiet_of_same (hq1.out _)) | (go_at_call 18; with_reducible exact Calls.quiet_of_same (hq2.out _)))
            go_wp2
            first
              | (go_roundw
                 case rel => exact ⟨k + 1, _, by omega, by go_num, hstep.out, by unfold Hid; rw [hw.out, World.drewN_drewN]⟩
                 case measure => simp [intOf]; omega)
              | (go_ret
                 exact ⟨by rw [hstep.out]; rfl, _, by rw [hw.out, World.drewN_drewN]⟩)
    · have hfin : Hid (wrg (hasI u) n must [] l = 0) := by unfold Hid; rw [hwr.out]; exact wrg_end _ _ _ _ _ (by omega)
      go_wp2
      go_ret
      exact ⟨by rw [hfin.out]; rfl, q, hw.out⟩
end Go.Proofs.Ytedjaahidncokaa
