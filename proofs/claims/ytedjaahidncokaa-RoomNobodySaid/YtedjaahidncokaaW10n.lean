/- RoomNobody, walked. -/
import Derived.Test.YtedjaahidncokaaL10
import Derived.Test.YtedjaahidncokaaN10
namespace Go.Proofs.Ytedjaahidncokaa
open Go.RowKit

set_option maxHeartbeats 1000000 in
theorem nobody_any (a : ActV) (b : Bool) (w : World) (F : Nat → Prop) (hp : IntsAt w F a.pv a.pages) (hF : ∀ b, F b → b < w.heap.size) :
    Calls Try.prog 5 #[.agg #[.int .i64 a.kind, .int .i64 a.n, a.pv], .bool b] w fun e w' => e = .returned (.bool true) ∧ Below w.heap.size w w' := by
  obtain ⟨kind, m, pv, pages⟩ := a
  simp only at hp ⊢
  obtain ⟨PA, pc, rfl, hc, hm, hr⟩ := hp
  have HR := Lib.hid hr
  have HF := Lib.hid hF
  clear hr hF
  have hacts : Hid (∀ W : World, Below w.heap.size w W → Calls Try.prog 6 #[.slice (some ⟨W.heap.size, 0, none⟩) 1 1] (W.alloc (.cells #[.int .i64 kind, .int .i64 m, .slice PA pages.length pc] 31))
      fun e w' => e = .returned (.bool (fewB [⟨kind, m, .slice PA pages.length pc, pages⟩])) ∧ (W.alloc (.cells #[.int .i64 kind, .int .i64 m, .slice PA pages.length pc] 31)) = w') := by
    intro W hb
    refine few_any (some ⟨W.heap.size, 0, none⟩) 1 [⟨kind, m, .slice PA pages.length pc, pages⟩] _ (fun _ => True) ⟨Rd.of_blk (Blk.new W 31 [.int .i64 kind, .int .i64 m, .slice PA pages.length pc]) trivial rfl, fun a ha => ?_⟩ (by unfold maxLen; simp)
    simp at ha
    subst ha
    exact ⟨PA, pc, rfl, hc, hm, ((HR.out.below hb HF.out).alloc (fun b hb2 => Nat.lt_of_lt_of_le (HF.out b hb2) hb.size) _).more (fun _ _ => trivial)⟩
  generalize fewB [⟨kind, m, .slice PA pages.length pc, pages⟩] = fb at hacts
  have hb0 : Hid (Below w.heap.size w (w.alloc (.cells #[.int .i64 kind, .int .i64 m, .slice PA pages.length pc] 31))) := (Below.refl _ _).alloc (Nat.le_refl _) _
  have hfew := Lib.hid (hacts.out _ hb0.out)
  rw [World.size_alloc] at hfew
  cases fb
  · go_enter Try.func5, Try.ntmps5
    go_wp2_with (first | (go_at_call 6; refine hfew.out.mono ?_; rintro e w1 ⟨rfl, rfl⟩) | (go_at_call 7; refine (awake_any _).mono ?_; rintro e w5 ⟨rfl, hb5⟩; have HB5 := Lib.hid hb5; clear hb5))
    go_ret
    exact ⟨rfl, (((Below.refl _ _).alloc (Nat.le_refl _) _).alloc (by simp) _).trans (HB5.out.mono (by simp; omega))⟩
  · cases b
    · have hno : ∀ W : World, NoRoom W none := fun W => .inl rfl
      have HN := Lib.hid hno
      clear hno
      go_enter Try.func5, Try.ntmps5
      go_wp2_with (first | (go_at_call 6; refine hfew.out.mono ?_; rintro e w1 ⟨rfl, rfl⟩) | (go_at_call 7; refine (awake_any _).mono ?_; rintro e w5 ⟨rfl, hb5⟩; have HB5 := Lib.hid hb5; clear hb5) | (go_at_call 14; refine (nlowest _ _ _ (HN.out _)).mono ?_; rintro e w1 ⟨rfl, rfl⟩) | (go_at_call 15; refine (ntake _ _ _ (HN.out _)).mono ?_; rintro e w1 ⟨rfl, rfl⟩) | (go_at_call 10; refine (nuse _ _ _ (HN.out _)).mono ?_; rintro e w1 ⟨rfl, rfl⟩) | (go_at_call 12; refine (nfree _ _ _ (HN.out _)).mono ?_; rintro e w1 ⟨rfl, rfl⟩) | (go_at_call 19; refine (ncount _ _ (HN.out _)).mono ?_; rintro e w1 ⟨rfl, rfl⟩) | (go_at_call 17; refine (nused _ _ _ (HN.out _)).mono ?_; rintro e w1 ⟨rfl, rfl⟩))
      go_ret
      exact ⟨rfl, (((Below.refl _ _).alloc (Nat.le_refl _) _).alloc (by simp) _).trans (HB5.out.mono (by simp; omega))⟩
    · have hno : ∀ W : World, NoRoom (W.alloc (.cells #[.slice none 0 0, .int .i64 0] 46)) (some ⟨W.heap.size, 0, none⟩) := fun W => .inr ⟨W.heap.size, rfl, by rw [(Blk.new W 46 [.slice none 0 0, .int .i64 0]).cell]; rfl, by rw [(Blk.new W 46 [.slice none 0 0, .int .i64 0]).cell]; rfl⟩
      have hno2 := hno ((w.alloc (.cells #[.int .i64 kind, .int .i64 m, .slice PA pages.length pc] 31)).alloc (.cells #[.int .i64 kind, .int .i64 m, .slice PA pages.length pc] 31))
      rw [World.size_alloc, World.size_alloc] at hno2
      have HN := Lib.hid hno2
      clear hno hno2
      go_enter Try.func5, Try.ntmps5
      go_wp2_with (first | (go_at_call 6; refine hfew.out.mono ?_; rintro e w1 ⟨rfl, rfl⟩) | (go_at_call 7; refine (awake_any _).mono ?_; rintro e w5 ⟨rfl, hb5⟩; have HB5 := Lib.hid hb5; clear hb5) | (go_at_call 14; refine (nlowest _ _ _ HN.out).mono ?_; rintro e w1 ⟨rfl, rfl⟩) | (go_at_call 15; refine (ntake _ _ _ HN.out).mono ?_; rintro e w1 ⟨rfl, rfl⟩) | (go_at_call 10; refine (nuse _ _ _ HN.out).mono ?_; rintro e w1 ⟨rfl, rfl⟩) | (go_at_call 12; refine (nfree _ _ _ HN.out).mono ?_; rintro e w1 ⟨rfl, rfl⟩) | (go_at_call 19; refine (ncount _ _ HN.out).mono ?_; rintro e w1 ⟨rfl, rfl⟩) | (go_at_call 17; refine (nused _ _ _ HN.out).mono ?_; rintro e w1 ⟨rfl, rfl⟩))
      go_ret
      exact ⟨rfl, ((((Below.refl _ _).alloc (Nat.le_refl _) _).alloc (by simp) _).alloc (by simp; omega) _).trans (HB5.out.mono (by simp; omega))⟩
end Go.Proofs.Ytedjaahidncokaa
