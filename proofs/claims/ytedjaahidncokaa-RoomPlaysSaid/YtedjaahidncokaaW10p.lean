/- RoomPlays, walked. -/
import Derived.Test.YtedjaahidncokaaI10
namespace Go.Proofs.Ytedjaahidncokaa
open Go.RowKit

theorem inv_after {ws : List Nat} {u : List Int} {n : Nat} (h : Inv ws u n) (l : List Int) : Inv (after ws l (wrg (hasI u) n false [] l)) (useList u l (wrg (hasI u) n false [] l)) n := by
  unfold after useList
  split
  · rename_i h0; exact h.use l h0
  · exact h
theorem inv_free {ws : List Nat} {u : List Int} {n : Nat} (h : Inv ws u n) (l : List Int) : Inv (after ws l (wrg (hasI u) n true [] l)) (freeList u l (wrg (hasI u) n true [] l)) n := by
  unfold after freeList
  split
  · rename_i h0; exact h.freed l h0
  · exact h
theorem low_same {ws : List Nat} {u : List Int} {n : Nat} (h : Inv ws u n) (m : Int) :
    (if m < 0 then (([] : List Int), (2 : Int)) else if ((freeTo (bit ws) n).length : Int) < m then ([], 7) else ((freeTo (bit ws) n).take m.toNat, 0)) =
    (if m < 0 then ([], 2) else if (n : Int) - u.length < m then ([], 7) else ((freeTo (fun i => hasI u i) n).take m.toNat, 0)) := by
  obtain ⟨h1, h2⟩ := h.free
  rw [← h1]
  have : ((freeTo (bit ws) n).length : Int) = (n : Int) - u.length := by omega
  rw [this]
theorem low_fine {ws : List Nat} {u : List Int} {n : Nat} (h : Inv ws u n) (m : Int) (l : List Int) (code : Int) (hc : (l, code) = (if m < 0 then (([] : List Int), (2 : Int)) else if ((freeTo (bit ws) n).length : Int) < m then ([], 7) else ((freeTo (bit ws) n).take m.toNat, 0))) :
    Inv (flips ws l) (u ++ l) n := by
  refine h.use l ?_
  rw [← h.wrg]
  split at hc
  · rw [(Prod.mk.inj hc).1]; rfl
  · split at hc
    · rw [(Prod.mk.inj hc).1]; rfl
    · rw [(Prod.mk.inj hc).1]; exact low_ok ws n _

set_option maxRecDepth 100000 in
set_option maxHeartbeats 8000000 in
theorem plays_any (n : Int) (A : Option Addr) (c : Nat) (acts : List ActV) (w : World) (F : Nat → Prop) (hl : ActsAt w F A acts.length acts) (hc : acts.length ≤ c) (hm : c ≤ maxLen) (hF : ∀ b, F b → b < w.heap.size) :
    Calls Try.prog 3 #[.int .i64 n, .slice A acts.length c] w fun e w' => e = .returned (.bool true) ∧ Below w.heap.size w w' := by
  have hfew := Lib.hid (few_any A c acts w F hl (by omega))
  have HR := Lib.hid hl
  have HF := Lib.hid hF
  clear hl hF
  unfold maxLen at hm
  by_cases hn2 : 200 < n
  · go_enter Try.func3, Try.ntmps3
    go_wp2_with (go_at_call 7; refine (awake_any _).mono ?_; rintro e w1 ⟨rfl, hb1⟩; have HB1 := Lib.hid hb1; clear hb1)
    go_ret
    exact ⟨rfl, HB1.out⟩
  · have hd2 : decide (200 < n) = false := by simp; omega
    rcases hfb : fewB acts with _ | _
    · rw [hfb] at hfew
      clear hfb
      go_enter Try.func3, Try.ntmps3
      go_wp2_with (first | (go_at_call 6; refine hfew.out.mono ?_; rintro e w1 ⟨rfl, rfl⟩) | (go_at_call 7; refine (awake_any _).mono ?_; rintro e w1 ⟨rfl, hb1⟩; have HB1 := Lib.hid hb1; clear hb1))
      go_ret
      exact ⟨rfl, HB1.out⟩
    · obtain ⟨hlen, hpl⟩ := few_of hfb
      have HPL := Lib.hid hpl
      rw [hfb] at hfew
      clear hfb hpl
      by_cases hn1 : n < 1
      · go_enter Try.func3, Try.ntmps3
        go_wp2_with (first | (go_at_call 6; refine hfew.out.mono ?_; rintro e w1 ⟨rfl, rfl⟩) | (go_at_call 8; refine (new_no n _ (.inl hn1)).mono ?_; rintro e w1 ⟨rfl, rfl⟩) | (go_at_call 7; refine (awake_any _).mono ?_; rintro e w1 ⟨rfl, hb1⟩; have HB1 := Lib.hid hb1; clear hb1))
        go_ret
        exact ⟨rfl, HB1.out⟩
      · obtain ⟨N, rfl⟩ := Int.eq_ofNat_of_zero_le (show 0 ≤ n by omega)
        have hN1 : 1 ≤ N := by omega
        have hN2 : N ≤ 200 := by omega
        have hd1 : decide ((N : Int) < 1) = false := by simp; omega
        clear hn1 hn2
        obtain ⟨i0, hi, hz0, hz1, hz2⟩ := info_parts int_info
        go_enter Try.func3, Try.ntmps3
        go_wp2_with fail
        refine hfew.out.mono ?_
        rintro e w0 ⟨rfl, rfl⟩
        go_wp2_with fail
        refine (new_yes N _ hN1 (by omega)).mono ?_
        rintro e w1 ⟨g, gw, rfl, hg, hgw, hroom, hb1⟩
        have H1 := Lib.hid hroom
        have HB1 := Lib.hid hb1
        have hgwl := hroom.2.1.lt
        have hgl := hroom.1.lt
        have hz1w := hb1.size
        clear hroom hb1
        go_wp2_with fail
        go_loopw [7, 48] (fun vu i wr => ∃ (k : Nat) (u : List Int) (ws : List Nat), k ≤ acts.length ∧ i = .int .i64 k ∧ Hid (IntsAt wr (fun b => b < wr.heap.size ∧ b ≠ gw) vu u) ∧ Hid (RoomAt wr g gw N ws) ∧ Hid (Inv ws u N) ∧ Hid (Kp (· = gw) w1 wr)) (fun _ i _ => acts.length - (intOf i).toNat)
        case atStart => exact ⟨0, [], _, Nat.zero_le _, rfl, IntsAt.nil, H1, inv_new N, Kp.refl _ _⟩
        case round =>
          obtain ⟨k, u, ws, hk, rfl, hU, hroom, hinv, hkp⟩ := hrel
          obtain ⟨wo, rfl⟩ : ∃ wo : World, wo = wr := ⟨_, rfl⟩
          have hz1o := hkp.out.size
          by_cases hlt : k < acts.length
          · have hul : u.length ≤ N := by have := hinv.out.free.2; omega
            have hacts := HR.out.kp (Kp.of_below (S := (· = gw)) HB1.out) (fun b hb => ⟨HF.out b hb, by have := HF.out b hb; omega⟩)
            have hacts2 := hacts.kp hkp.out (fun b hb => ⟨by have := HF.out b hb; omega, by have := HF.out b hb; omega⟩)
            obtain ⟨bb, oo, rfl, _, hc0, hc1, hc2⟩ := hacts2.get hlt
            have hpages := Lib.hid (hacts2.2 _ (List.getElem_mem hlt))
            have hpl := HPL.out _ (List.getElem_mem hlt)
            clear hacts hacts2
            generalize acts[k] = a at hc0 hc1 hc2 hpages hpl
            obtain ⟨kind, m, pv, pages⟩ := a
            simp only at hc0 hc1 hc2 hpl
            obtain ⟨PA, pc, hpv, hpc, hpm, hprd⟩ := hpages.out
            simp only at hpv
            subst hpv
            have HP : Hid (IntsAt wo F (.slice PA pages.length pc) pages) := hpages.out
            obtain ⟨UA, uc, rfl, huc, hum, hurd⟩ := hU.out
            clear hpages hurd hprd
            have hbox : Hid (Blk (wo.alloc (.cells #[.int .i64 kind, .int .i64 m, .slice PA pages.length pc] 31)) wo.heap.size 31 [.int .i64 kind, .int .i64 m, .slice PA pages.length pc]) := Blk.new wo 31 [.int .i64 kind, .int .i64 m, .slice PA pages.length pc]
            have hkb : Hid (Kp (fun _ => False) wo (wo.alloc (.cells #[.int .i64 kind, .int .i64 m, .slice PA pages.length pc] 31))) := (Kp.refl _ _).alloc _
            have hPg : Hid (IntsAt wo (fun b => b < wo.heap.size ∧ b ≠ gw) (.slice PA pages.length pc) pages) := HP.out.more (fun b hb => by have := HF.out b hb; exact ⟨by omega, by omega⟩)
            by_cases hk1 : kind = 1
            case' pos =>
              subst hk1
              go_wp2_with fail
              have hUa := hU.out.kp hkb.out (fun b hb => ⟨hb.1, fun h => h⟩)
              have hPa := hPg.out.kp hkb.out (fun b hb => ⟨hb.1, fun h => h⟩)
              refine (refuse_any _ _ N u pages _ _ hUa hPa (fun b hb => by simp; omega) (by omega)).mono ?_
              rintro e w2 ⟨v2, rfl, hU2, hb2⟩
              have HB2 := Lib.hid hb2
              have HU2 := Lib.hid hU2
              clear hUa hPa hU2 hb2
              have hz2o : wo.heap.size + 1 ≤ w2.heap.size := by have := HB2.out.size; simpa using this
              have hbox2 := hbox.out.below HB2.out (by simp)
              have hq2 : w2.cell? ⟨wo.heap.size, 2, none⟩ = some (.slice PA pages.length pc) := by rw [hbox2.cell]; rfl
              have hKp2 : Hid (Kp (fun _ => False) wo w2) := hkb.out.trans (Kp.of_below HB2.out) (fun _ _ h => h)
              have hroom2 := hroom.out.kp hKp2.out (fun h => h) (fun h => h)
              obtain ⟨_, _, hpe, _, _, hprd2⟩ := hPg.out.kp hKp2.out (fun b hb => ⟨hb.1, fun h => h⟩)
              injection hpe with e1 e2 e3
              subst e1 e3
              have hus := Lib.hid (use_any g gw N ws PA pc pages w2 _ hroom2 hprd2 (fun b hb => ⟨by omega, hb.2⟩) (by unfold maxLen; omega))
              have hi2 := Lib.hid (inv_after hinv.out pages)
              rw [hinv.out.wrg] at hus
              generalize wrg (hasI u) N false [] pages = code at *
              obtain ⟨u', hu'⟩ : ∃ u', u' = useList u pages code := ⟨_, rfl⟩
              rw [← hu'] at HU2 hi2
              obtain ⟨ws', hws'⟩ : ∃ ws', ws' = after ws pages code := ⟨_, rfl⟩
              rw [← hws'] at hus hi2
              obtain ⟨A2, c2, rfl, hc2l, hc2m, hrd2⟩ := HU2.out
              clear hu' hws' hroom2 hprd2 hbox2 hrd2 e2
              go_wp2_with fail
              refine hus.out.mono ?_
              rintro e w3 ⟨rfl, hr3, hk3⟩
              have HR3 := Lib.hid hr3
              have hK3 : Hid (Kp (· = gw) w1 w3) := (hkp.out.trans hKp2.out (fun _ _ h => h.elim)).trans hk3 (fun _ _ h => h)
              have hz3 := hk3.size
              have HU3 : Hid (IntsAt w3 (fun b => b < w3.heap.size ∧ b ≠ gw) (.slice A2 u'.length c2) u') := by
                refine ((HU2.out.more (F' := fun b => b < w2.heap.size ∧ b ≠ gw) (fun b hb => ?_)).kp hk3 (fun b hb => hb)).more (fun b hb => ⟨by omega, hb.2⟩)
                rcases hb with hb | hb
                · exact ⟨by omega, hb.2⟩
                · simp at hb; exact ⟨by omega, by omega⟩
              clear hr3 hk3 hq2 hus HU2
              obtain ⟨WX, rfl⟩ : ∃ WX : World, WX = w3 := ⟨_, rfl⟩
            case' neg =>
              have hk1b : (kind == 1) = false := by simpa using hk1
              clear hk1
              by_cases hk2 : kind = 2
              case' pos =>
                subst hk2
                go_wp2_with fail
                have hUa := hU.out.kp hkb.out (fun b hb => ⟨hb.1, fun h => h⟩)
                have hPa := hPg.out.kp hkb.out (fun b hb => ⟨hb.1, fun h => h⟩)
                refine (reffree_any _ _ N u pages _ _ hUa hPa (fun b hb => by simp; omega) (by omega)).mono ?_
                rintro e w2 ⟨v2, rfl, hU2, hb2⟩
                have HB2 := Lib.hid hb2
                have HU2 := Lib.hid hU2
                clear hUa hPa hU2 hb2
                have hz2o : wo.heap.size + 1 ≤ w2.heap.size := by have := HB2.out.size; simpa using this
                have hbox2 := hbox.out.below HB2.out (by simp)
                have hq2 : w2.cell? ⟨wo.heap.size, 2, none⟩ = some (.slice PA pages.length pc) := by rw [hbox2.cell]; rfl
                have hKp2 : Hid (Kp (fun _ => False) wo w2) := hkb.out.trans (Kp.of_below HB2.out) (fun _ _ h => h)
                have hroom2 := hroom.out.kp hKp2.out (fun h => h) (fun h => h)
                obtain ⟨_, _, hpe, _, _, hprd2⟩ := hPg.out.kp hKp2.out (fun b hb => ⟨hb.1, fun h => h⟩)
                injection hpe with e1 e2 e3
                subst e1 e3
                have hus := Lib.hid (free_any g gw N ws PA pc pages w2 _ hroom2 hprd2 (fun b hb => ⟨by omega, hb.2⟩) (by unfold maxLen; omega))
                have hi2 := Lib.hid (inv_free hinv.out pages)
                rw [hinv.out.wrg] at hus
                generalize wrg (hasI u) N true [] pages = code at *
                obtain ⟨u', hu'⟩ : ∃ u', u' = freeList u pages code := ⟨_, rfl⟩
                rw [← hu'] at HU2 hi2
                obtain ⟨ws', hws'⟩ : ∃ ws', ws' = after ws pages code := ⟨_, rfl⟩
                rw [← hws'] at hus hi2
                obtain ⟨A2, c2, rfl, hc2l, hc2m, hrd2⟩ := HU2.out
                clear hu' hws' hroom2 hprd2 hbox2 hrd2 e2
                go_wp2_with fail
                refine hus.out.mono ?_
                rintro e w3 ⟨rfl, hr3, hk3⟩
                have HR3 := Lib.hid hr3
                have hK3 : Hid (Kp (· = gw) w1 w3) := (hkp.out.trans hKp2.out (fun _ _ h => h.elim)).trans hk3 (fun _ _ h => h)
                have hz3 := hk3.size
                have HU3 : Hid (IntsAt w3 (fun b => b < w3.heap.size ∧ b ≠ gw) (.slice A2 u'.length c2) u') := by
                  refine ((HU2.out.more (F' := fun b => b < w2.heap.size ∧ b ≠ gw) (fun b hb => ?_)).kp hk3 (fun b hb => hb)).more (fun b hb => ⟨by omega, hb.2⟩)
                  rcases hb with hb | hb
                  · exact ⟨by omega, hb.2⟩
                  · simp at hb; exact ⟨by omega, by omega⟩
                clear hr3 hk3 hq2 hus HU2
                obtain ⟨WX, rfl⟩ : ∃ WX : World, WX = w3 := ⟨_, rfl⟩
              case' neg =>
                have hk2b : (kind == 2) = false := by simpa using hk2
                clear hk2
                go_wp2_with fail
                have hUa := hU.out.kp hkb.out (fun b hb => ⟨hb.1, fun h => h⟩)
                refine (reflow_any _ N u m _ _ hUa (fun b hb => by simp; omega) (by omega) (by omega)).mono ?_
                rintro e w2 ⟨v2, want, f, rfl, hown2, hb2, hcase2⟩
                have HB2 := Lib.hid hb2
                have HO2 := Lib.hid hown2
                have hcs := hcase2.trans (low_same hinv.out m).symm
                have HC := Lib.hid hcs
                clear hUa hown2 hb2 hcase2 hcs
                have hz2o : wo.heap.size + 1 ≤ w2.heap.size := by have := HB2.out.size; simpa using this
                have hbox2 := Lib.hid (hbox.out.below HB2.out (by simp))
                have hq2 : w2.cell? ⟨wo.heap.size, 1, none⟩ = some (.int .i64 m) := by rw [hbox2.out.cell]; rfl
                have hq0 : w2.cell? ⟨wo.heap.size, 0, none⟩ = some (.int .i64 kind) := by rw [hbox2.out.cell]; rfl
                have hKp2 : Hid (Kp (fun _ => False) wo w2) := hkb.out.trans (Kp.of_below HB2.out) (fun _ _ h => h)
                have hroom2 := Lib.hid (hroom.out.kp hKp2.out (fun h => h) (fun h => h))
                obtain ⟨WA, wc, rfl, hwc, hwm⟩ := own_form HO2.out
                go_wp2_with fail
                refine (lowest_any g gw N ws m w2 hroom2.out hinv.out.tidy).mono ?_
                rintro e w3 ⟨v3, got, f3, rfl, hown3, hb3, hcase3⟩
                obtain ⟨rfl, rfl⟩ := Prod.mk.inj (hcase3.trans HC.out.symm)
                have HB3 := Lib.hid hb3
                have HO3 := Lib.hid hown3
                clear hown3 hb3 hcase3
                have hz3o := HB3.out.size
                have hbox3 := Lib.hid (hbox2.out.below HB3.out (by omega))
                have hq23 : w3.cell? ⟨wo.heap.size, 1, none⟩ = some (.int .i64 m) := by rw [hbox3.out.cell]; rfl
                have hq03 : w3.cell? ⟨wo.heap.size, 0, none⟩ = some (.int .i64 kind) := by rw [hbox3.out.cell]; rfl
                have hKp3 : Hid (Kp (fun _ => False) wo w3) := hKp2.out.trans (Kp.of_below HB3.out) (fun _ _ h => h)
                have hroom3 := Lib.hid (hroom.out.kp hKp3.out (fun h => h) (fun h => h))
                have hW3 : Hid (IntsAt w3 (fun b => b < w3.heap.size ∧ b ≠ gw) (.slice WA got.length wc) got) := by
                  refine (((IntsAt.of_own HO2.out).more (F' := fun b => b < w2.heap.size ∧ b ≠ gw) (fun b hb => ?_)).kp (Kp.of_below (S := fun _ => False) HB3.out) (fun b hb => ⟨hb.1, fun h => h⟩)).more (fun b hb => ⟨by omega, hb.2⟩)
                  simp at hb; exact ⟨hb.2, by omega⟩
                have hG3 : Hid (IntsAt w3 (fun b => b < w3.heap.size ∧ b ≠ gw) v3 got) := (IntsAt.of_own HO3.out).more (fun b hb => ⟨hb.2, by omega⟩)
                have hU3 : Hid (IntsAt w3 (fun b => b < w3.heap.size ∧ b ≠ gw) (.slice UA u.length uc) u) := (hU.out.kp hKp3.out (fun b hb => ⟨hb.1, fun h => h⟩)).more (fun b hb => ⟨by omega, hb.2⟩)
                have hgl3 : got.length ≤ 200 := by
                  have := (low_fine hinv.out m got f3 HC.out).free.2
                  rw [List.length_append] at this
                  omega
                by_cases hk4 : kind = 4
                case' pos =>
                  subst hk4
                  obtain ⟨A3, c3, rfl, hc3, hm3⟩ := own_form HO3.out
                  go_wp2_with fail
                  refine (take_any g gw N ws m w3 hroom3.out hinv.out.tidy).mono ?_
                  rintro e w4 ⟨v4, got4, f4, rfl, hown4, hkp4, hroom4, hcase4⟩
                  obtain ⟨rfl, rfl⟩ := Prod.mk.inj (hcase4.trans HC.out.symm)
                  have HK4 := Lib.hid hkp4
                  have HO4 := Lib.hid hown4
                  have HR4 := Lib.hid hroom4
                  have hi2 := Lib.hid (low_fine hinv.out m got4 f4 HC.out)
                  clear hown4 hkp4 hroom4 hcase4
                  have hz4o := HK4.out.size
                  have hW4 : Hid (IntsAt w4 (fun b => b < w3.heap.size ∧ b ≠ gw) (.slice WA got4.length wc) got4) := hW3.out.kp HK4.out (fun b hb => hb)
                  have hU4 : Hid (IntsAt w4 (fun b => b < w3.heap.size ∧ b ≠ gw) (.slice UA u.length uc) u) := hU3.out.kp HK4.out (fun b hb => hb)
                  obtain ⟨A4, c4, rfl, hc4, hm4⟩ := own_form HO4.out
                  have hG4 : Hid (IntsAt w4 (fun b => b < w4.heap.size) (.slice A4 got4.length c4) got4) := (IntsAt.of_own HO4.out).more (fun b hb => hb.2)
                  obtain ⟨_, _, hue, _, _, hurd⟩ := hU4.out
                  injection hue with e1 e2 e3
                  subst e1 e3
                  clear e2
                  obtain ⟨_, _, hwe, _, _, hwrd⟩ := hW4.out
                  injection hwe with e1 e2 e3
                  subst e1 e3
                  clear e2
                  have HURD := Lib.hid hurd
                  have HWRD := Lib.hid hwrd
                  clear hurd hwrd
                  go_wp2_with (first | (at_builtin; refine wpList_append_rd _ rfl (.tmp 79) (.tmp 80) _ rfl w4.heap.size 3 i0 _ 1 8 Try.underlying29 hi hz0 hz1 hz2 rfl (by omega) _ 0 [] rfl (World.ownsRow_lit w4 #[] 0 (Nat.le_refl _) (by unfold maxLen; omega) rfl) (fun b => b < w3.heap.size ∧ b ≠ gw) UA u.length uc (ints u) rfl (HURD.out.alloc (fun b hb => by omega) _) (ints_one u) (by unfold maxLen; omega) (by omega) (by simp) ?_; intro v5 w5 hown5 hg5 hat5; have hbw5 := Lib.hid (below_lit 0 hg5); have hown5' := Lib.hid hown5; clear hg5 hown5) | (at_builtin; refine wpList_append_rd _ rfl (.tmp 81) (.tmp 82) _ rfl w4.heap.size 3 i0 _ 1 8 Try.underlying29 hi hz0 hz1 hz2 rfl (by omega) v5 (0 + u.length) ([] ++ ints u) rfl hown5'.out (fun b => b < w3.heap.size ∧ b ≠ gw) WA got4.length wc (ints got4) rfl (HWRD.out.below hbw5.out (fun b hb => by omega)) (ints_one got4) (by unfold maxLen; omega) (by omega) hbw5.out.size ?_; intro v6 w6 hown6 hg6 hat6; have hbw6 : Hid (Below w4.heap.size w4 w6) := hbw5.out.grown hg6 hbw5.out.size (fun k hk => (hown5'.out.lt k hk).1); have hown6' := Lib.hid hown6; clear hg6 hown6))
                  have hz6 := hbw6.out.size
                  have hW6 : IntsAt w6 (fun _ => True) (.slice WA got4.length wc) got4 := (hW4.out.kp (Kp.of_below (S := fun _ => False) hbw6.out) (fun b hb => ⟨by omega, fun h => h⟩)).more (fun _ _ => trivial)
                  have hG6 : IntsAt w6 (fun _ => True) (.slice A4 got4.length c4) got4 := (hG4.out.kp (Kp.of_below (S := fun _ => False) hbw6.out) (fun b hb => ⟨hb, fun h => h⟩)).more (fun _ _ => trivial)
                  refine (ints_any _ _ _ _ _ _ hG6 hW6).mono ?_
                  rintro e w7 ⟨rfl, q, hw7⟩
                  have es : sameI got4 got4 = true := by unfold sameI; simp
                  rw [es]
                  obtain ⟨A2, c2, rfl, hc2l, hc2m⟩ := own_form hown6'.out
                  obtain ⟨u', hu'⟩ : ∃ u', u' = u ++ got4 := ⟨_, rfl⟩
                  obtain ⟨ws', hws'⟩ : ∃ ws', ws' = flips ws got4 := ⟨_, rfl⟩
                  have hul' : 0 + u.length + got4.length = u'.length := by rw [hu', List.length_append]; omega
                  rw [hul']
                  have HU3 : Hid (IntsAt w7 (fun b => b < w7.heap.size ∧ b ≠ gw) (.slice A2 u'.length c2) u') := by
                    have ho := hown6'.out
                    rw [hul'] at ho
                    have ho2 : w6.ownsRow w4.heap.size 3 1 (.slice A2 u'.length c2) u'.length (ints u') := by
                      rw [hu'] at ho ⊢
                      simpa [ints_app] using ho
                    have h7 := (IntsAt.of_own ho2).more (F' := fun b => b < w6.heap.size ∧ b ≠ gw) (fun b hb => ⟨hb.2, by omega⟩)
                    rw [hw7]
                    exact h7.kp ((Kp.refl (fun _ => False) w6).drewN q) (fun b hb => ⟨hb.1, fun h => h⟩)
                  have hk67 : Kp (fun _ => False) w4 w7 := by rw [hw7]; exact (Kp.of_below hbw6.out).drewN q
                  have HR3 : Hid (RoomAt w7 g gw N ws') := by rw [hws']; exact HR4.out.kp hk67 (fun h => h) (fun h => h)
                  have hK3 : Hid (Kp (· = gw) w1 w7) := ((hkp.out.trans hKp3.out (fun _ _ h => h.elim)).trans HK4.out (fun _ _ h => h)).trans hk67 (fun _ _ h => h.elim)
                  rw [← hu', ← hws'] at hi2
                  obtain ⟨WX, rfl⟩ : ∃ WX : World, WX = w7 := ⟨_, rfl⟩
                  clear hW6 hG6 hw7 es hu' hws' hul' hk67 hown6' hown5' hbw6 hbw5 HURD HWRD hat5 hat6 hU4 hW4 hG4 HO4 HR4 HK4 hroom3 hKp3 hW3 hG3 hU3 HC hq2 hq0 hq23 hq03
                case' neg =>
                  have hk4b : (kind == 4) = false := by simpa using hk4
                  clear hk4
                  go_wp2_with fail
                  refine (ints_any _ _ _ _ _ _ hG3.out hW3.out).mono ?_
                  rintro e w7 ⟨rfl, q, hw7⟩
                  have es : sameI got got = true := by unfold sameI; simp
                  rw [es]
                  obtain ⟨u', hu'⟩ : ∃ u', u' = u := ⟨_, rfl⟩
                  obtain ⟨ws', hws'⟩ : ∃ ws', ws' = ws := ⟨_, rfl⟩
                  obtain ⟨A2, hA2⟩ : ∃ A2, A2 = UA := ⟨_, rfl⟩
                  obtain ⟨c2, hc2'⟩ : ∃ c2, c2 = uc := ⟨_, rfl⟩
                  have hk67 : Kp (fun _ => False) w3 w7 := by rw [hw7]; exact (Kp.refl _ _).drewN q
                  have HU3 : Hid (IntsAt w7 (fun b => b < w7.heap.size ∧ b ≠ gw) (.slice A2 u'.length c2) u') := by
                    have hsz : w7.heap.size = w3.heap.size := by rw [hw7]; rfl
                    rw [hsz, hu', hA2, hc2']; exact hU3.out.kp hk67 (fun b hb => ⟨hb.1, fun h => h⟩)
                  have HR3 : Hid (RoomAt w7 g gw N ws') := by rw [hws']; exact hroom3.out.kp hk67 (fun h => h) (fun h => h)
                  have hK3 : Hid (Kp (· = gw) w1 w7) := (hkp.out.trans hKp3.out (fun _ _ h => h.elim)).trans hk67 (fun _ _ h => h.elim)
                  have hi2 : Hid (Inv ws' u' N) := by rw [hws', hu']; exact hinv
                  obtain ⟨WX, rfl⟩ : ∃ WX : World, WX = w7 := ⟨_, rfl⟩
                  rw [← hu', ← hA2, ← hc2']
                  clear hw7 es hu' hws' hA2 hc2' hk67 hroom3 hKp3 hW3 hG3 hU3 HC hq2 hq0 hq23 hq03
            all_goals
              go_wp2_with fail
              go_loop [15] (fun i => ∃ j : Nat, j ≤ N + 2 ∧ i = .int .i64 ((j : Int) - 1)) (fun i => N + 2 - (intOf i + 1).toNat)
              case atStart => exact ⟨0, by omega, by simp⟩
              case round =>
                obtain ⟨j, hj, rfl⟩ := hrel
                by_cases hjn : (j : Int) - 1 ≤ N
                · have hus := used_any g gw N ws' ((j : Int) - 1) WX HR3.out
                  rw [hi2.out.used] at hus
                  obtain ⟨_, _, hue, hl1, hl2, hurd⟩ := HU3.out
                  injection hue with e1 e2 e3
                  subst e1 e3
                  have hin := in_any A2 u'.length c2 u' ((j : Int) - 1) WX _ hurd (by omega)
                  generalize hasI u' ((j : Int) - 1) = bv at hus hin
                  have HUS := Lib.hid hus
                  have HIN := Lib.hid hin
                  clear hus hin hurd e2 hl1 hl2
                  cases bv
                  all_goals
                    go_wp2_with (first | (go_at_call 17; refine HUS.out.mono ?_; rintro e w8 ⟨rfl, rfl⟩) | (go_at_call 18; refine HIN.out.mono ?_; rintro e w8 ⟨rfl, rfl⟩))
                    go_round
                    case rel => exact ⟨j + 1, by omega, by simp⟩
                    case measure => simp [intOf]; omega
                · have hcn := count_any g gw N ws' WX HR3.out
                  rw [hi2.out.count] at hcn
                  have HCN := Lib.hid hcn
                  have hul' : u'.length ≤ N := by have := hi2.out.free.2; omega
                  clear hcn
                  go_wp2_with (go_at_call 19; refine HCN.out.mono ?_; rintro e w8 ⟨rfl, rfl⟩)
                  go_roundw
                  case rel => exact ⟨k + 1, u', ws', by omega, by go_num, HU3, HR3, hi2, hK3⟩
                  case measure => simp [intOf]; omega
          · go_wp2_with (go_at_call 7; refine (awake_any _).mono ?_; rintro e w5 ⟨rfl, hb5⟩; have HB5 := Lib.hid hb5; clear hb5)
            go_ret
            have hbo : Below w.heap.size w wo := HB1.out.trans (hkp.out.to_below HB1.out.size (fun i hi => by omega))
            exact ⟨rfl, hbo.trans (HB5.out.mono hbo.size)⟩
end Go.Proofs.Ytedjaahidncokaa
