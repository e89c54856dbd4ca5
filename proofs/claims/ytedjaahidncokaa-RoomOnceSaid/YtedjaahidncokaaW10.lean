/- The laws of layer 10, walked. -/
import Derived.Test.YtedjaahidncokaaI10
import Derived.Test.YtedjaahidncokaaN10
namespace Go.Proofs.Ytedjaahidncokaa
open Go.RowKit

set_option maxHeartbeats 4000000 in
theorem once_any (n : Int) (v : Value) (l : List Int) (w : World) (F : Nat → Prop) (hl : IntsAt w F v l) (hF : ∀ b, F b → b < w.heap.size) :
    Calls Try.prog 4 #[.int .i64 n, v] w fun e w' => e = .returned (.bool true) ∧ Below w.heap.size w w' := by
  obtain ⟨A, c, rfl, hc, hm, hr⟩ := hl
  have HR := Lib.hid hr
  have HF := Lib.hid hF
  clear hr hF
  unfold maxLen at hm
  by_cases hn1 : n < 1
  · go_enter Try.func4, Try.ntmps4
    go_wp2_with (go_at_call 7; refine (awake_any _).mono ?_; rintro e w1 ⟨rfl, hb1⟩; have HB1 := Lib.hid hb1; clear hb1)
    go_ret
    exact ⟨rfl, HB1.out⟩
  · by_cases hn2 : 200 < n
    · go_enter Try.func4, Try.ntmps4
      go_wp2_with (go_at_call 7; refine (awake_any _).mono ?_; rintro e w1 ⟨rfl, hb1⟩; have HB1 := Lib.hid hb1; clear hb1)
      go_ret
      exact ⟨rfl, HB1.out⟩
    · by_cases hl40 : 40 < l.length
      · go_enter Try.func4, Try.ntmps4
        go_wp2_with (go_at_call 7; refine (awake_any _).mono ?_; rintro e w1 ⟨rfl, hb1⟩; have HB1 := Lib.hid hb1; clear hb1)
        go_ret
        exact ⟨rfl, HB1.out⟩
      · obtain ⟨N, rfl⟩ := Int.eq_ofNat_of_zero_le (show 0 ≤ n by omega)
        have hN1 : 1 ≤ N := by omega
        have hN2 : N ≤ 200 := by omega
        have hd1 : decide ((N : Int) < 1) = false := by simp; omega
        have hd2 : decide (200 < (N : Int)) = false := by simp; omega
        have hd3 : decide (40 < (l.length : Int)) = false := by simp; omega
        clear hn1 hn2
        obtain ⟨i0, hi, hz0, hz1, hz2⟩ := info_parts int_info
        go_enter Try.func4, Try.ntmps4
        go_wp2_with fail
        refine (new_yes N _ hN1 (by omega)).mono ?_
        rintro e w1 ⟨g, gw, rfl, hg, hgw, hroom, hb1⟩
        have H1 := Lib.hid hroom
        have HB1 := Lib.hid hb1
        clear hroom hb1
        go_wp2_with fail
        go_loopw [7, 35] (fun va i wr => ∃ (k : Nat) (u : List Int) (ws : List Nat), k ≤ l.length ∧ i = .int .i64 k ∧ u.length ≤ N ∧ Hid (wr.ownsRow w1.heap.size 3 1 va u.length (ints u)) ∧ Hid (RoomAt wr g gw N ws) ∧ Hid (Inv ws u N) ∧ Hid (Kp (· = gw) w1 wr)) (fun _ i _ => l.length - (intOf i).toNat)
        case atStart => exact ⟨0, [], _, Nat.zero_le _, rfl, Nat.zero_le _, World.ownsRow_nil _ _ _ _, H1, inv_new N, Kp.refl _ _⟩
        case round =>
          obtain ⟨k, u, ws, hk, rfl, hul, hown, hroom, hinv, hkp⟩ := hrel
          have hgwl := H1.out.2.1.lt
          by_cases hlt : k < l.length
          · have hcell := (HR.out.below (HB1.out.trans (hkp.out.to_below HB1.out.size (fun i hi => by omega))) HF.out).int hlt
            obtain ⟨ad, rfl, _, hcell⟩ := hcell
            have htk := Lib.hid (take_any g gw N ws l[k] wr hroom.out hinv.out.tidy)
            have hfr := hinv.out.free.2
            generalize l[k] = m at hcell htk
            obtain ⟨A0, c0, rfl, hc0, hm0⟩ := own_form hown.out
            obtain ⟨wo, rfl⟩ : ∃ wo : World, wo = wr := ⟨_, rfl⟩
            go_wp2_with fail
            refine htk.out.mono ?_
            rintro e w2 ⟨v, lst, code, rfl, hown2, hkp2, hroom2, hcase⟩
            obtain ⟨A2, c2, rfl, hc2, hm2⟩ := own_form hown2
            have hz2' := hkp2.size
            have hwr0 : wrg (hasI u) N false [] lst = 0 := by
              rw [← hinv.out.wrg]
              split at hcase
              · rw [(Prod.mk.inj hcase).1]; rfl
              · split at hcase
                · rw [(Prod.mk.inj hcase).1]; rfl
                · rw [(Prod.mk.inj hcase).1]; exact low_ok ws N _
            have HI2 := Lib.hid (hinv.out.use lst hwr0)
            obtain ⟨hlok, hlnd⟩ := wrg_ok (hasI u) N false lst [] hwr0
            have HLOK := Lib.hid hlok
            have HLND := Lib.hid hlnd
            have hul2 : u.length + lst.length ≤ N := by
              have := HI2.out.free.2
              rw [List.length_append] at this
              omega
            have hOwn2 := Lib.hid hown2
            have HK2 := Lib.hid hkp2
            have HR2 := Lib.hid hroom2
            have hbool : (m < 0 ∧ code = 2) ∨ (0 ≤ m ∧ (N : Int) - u.length < m ∧ code = 7) ∨ (0 ≤ m ∧ m ≤ (N : Int) - u.length ∧ code = 0) := by
              split at hcase
              · rename_i h; exact .inl ⟨h, (Prod.mk.inj hcase).2⟩
              · rename_i h
                split at hcase
                · rename_i h2; exact .inr (.inl ⟨by omega, by omega, (Prod.mk.inj hcase).2⟩)
                · rename_i h2; exact .inr (.inr ⟨by omega, by omega, (Prod.mk.inj hcase).2⟩)
            clear hown2 hkp2 hroom2 hcase hlok hlnd hwr0 htk
            rcases hbool with ⟨g1, rfl⟩ | ⟨g1, g2, rfl⟩ | ⟨g1, g2, rfl⟩
            all_goals
              go_wp2_with fail
              go_loopw [7, 60] (fun va i wi => ∃ (j : Nat) (L : List Int), j ≤ lst.length ∧ i = .int .i64 j ∧ Hid (L = u ++ lst.take j) ∧ Hid (wi.ownsRow w1.heap.size 3 1 va L.length (ints L)) ∧ Hid (∀ b, va.ownBlock = some b → b < wo.heap.size ∨ w2.heap.size ≤ b) ∧ Hid (Kp (fun b => w1.heap.size ≤ b ∧ (b < wo.heap.size ∨ w2.heap.size ≤ b)) w2 wi)) (fun _ i _ => lst.length - (intOf i).toNat)
              case atStart =>
                refine ⟨0, u, Nat.zero_le _, rfl, by unfold Hid; simp, ?_, ?_, Kp.refl _ _⟩
                · unfold Hid
                  refine hown.out.kept (row := some gw) ⟨HK2.out.os, HK2.out.tape, HK2.out.output, HK2.out.size, fun k hk hne => HK2.out.block k hk (fun e => hne (by rw [e]))⟩ (.inr ?_)
                  intro e
                  have := (hown.out.lt gw e).1
                  omega
                · intro b hb
                  exact .inl (hown.out.lt b hb).2
              case round =>
                obtain ⟨j, L, hj, rfl, HL, hownj, hvj, hkj⟩ := hrel
                by_cases hjl : j < lst.length
                · have hrd : Rd wr (fun b => wo.heap.size ≤ b ∧ b < w2.heap.size) 1 A2 lst.length (ints lst) := (Rd.of_own hOwn2.out).kp hkj.out (fun b hb => ⟨hb.2, by omega⟩)
                  obtain ⟨ad2, rfl, _, hc3⟩ := hrd.int hjl
                  obtain ⟨p1, p2, p3, _⟩ := HLOK.out _ (List.getElem_mem hjl)
                  have hnew : hasI L lst[j] = false := by
                    apply hasI_false
                    intro hx
                    rw [HL.out] at hx
                    rcases List.mem_append.1 hx with hx | hx
                    · rw [(hasI_mem u _).2 hx] at p3; cases p3
                    · obtain ⟨j2, hj2, he⟩ := List.getElem_of_mem hx
                      have hj3 : j2 < j := by rw [List.length_take] at hj2; omega
                      rw [List.getElem_take] at he
                      exact List.pairwise_iff_getElem.1 HLND.out j2 j (by omega) hjl hj3 he
                  obtain ⟨A3, c3, rfl, hc4, hm4⟩ := own_form hownj.out
                  have hlen3 : L.length ≤ N := by rw [HL.out, List.length_append, List.length_take]; omega
                  have hin := Lib.hid (in_any A3 L.length c3 L lst[j] wr _ (Rd.of_own hownj.out) (by unfold maxLen; omega))
                  rw [hnew] at hin
                  have hsz3 := hkj.out.size
                  have hz1w := hkp.out.size
                  have hts : Hid (L ++ [lst[j]] = u ++ lst.take (j + 1)) := by unfold Hid; rw [HL.out, List.take_succ_eq_append_getElem hjl, List.append_assoc]
                  clear hnew p3 hrd
                  go_wp2_with (first | (go_at_call 18; refine hin.out.mono ?_; rintro e w3 ⟨rfl, rfl⟩) | (at_builtin; refine wpList_append_rd _ rfl (.tmp 76) (.tmp 78) 29 rfl w1.heap.size 3 i0 (.int .i64 0) 1 8 Try.underlying29 hi hz0 hz1 hz2 rfl (by decide) _ _ _ rfl (hownj.out.alloc _) (fun _ => True) (some ⟨wr.heap.size, 0, none⟩) 1 1 [.int .i64 lst[j]] rfl (Rd.of_blk (Blk.new wr 3 [.int .i64 lst[j]]) trivial rfl) ?c2 ?c3 ?c4 ?c5 ?_))
                  case c2 => intro u hu; simp at hu; subst hu; rfl
                  case c3 => unfold maxLen; omega
                  case c4 => omega
                  case c5 => simp; omega
                  intro v4 w4 hown4 hg4 hat4
                  have HO4 : Hid (w4.ownsRow w1.heap.size 3 1 v4 (L ++ [lst[j]]).length (ints (L ++ [lst[j]]))) := by
                    unfold Hid
                    rw [ints_app, List.length_append]
                    exact hown4
                  have HV4 : Hid (∀ b, v4.ownBlock = some b → b < wo.heap.size ∨ w2.heap.size ≤ b) := by
                    intro b hb
                    rcases hat4 with e | e
                    · rw [e] at hb; exact hvj.out b hb
                    · rw [e] at hb
                      injection hb with hb
                      right
                      rw [← hb]
                      omega
                  have HK4 : Hid (Kp (fun b => w1.heap.size ≤ b ∧ (b < wo.heap.size ∨ w2.heap.size ≤ b)) w2 w4) :=
                    (hkj.out.alloc _).grown hg4 (fun b hb => .inl ⟨(hownj.out.lt b hb).1, hvj.out b hb⟩)
                  clear hown4 hg4 hat4
                  go_wp2
                  go_roundw
                  case rel => exact ⟨j + 1, L ++ [lst[j]], by omega, by go_num, hts, HO4, HV4, HK4⟩
                  case measure => simp [intOf]; omega
                · have hownj' := hownj.out
                  have hLe : L = u ++ lst := by rw [HL.out, List.take_of_length_le (by omega)]
                  rw [hLe] at hownj'
                  have HO5 := Lib.hid hownj'
                  clear hownj' hLe
                  have hkpw : Hid (Kp (· = gw) w1 wr) := (hkp.out.trans HK2.out (fun _ _ h => h)).trans hkj.out (fun b hb h => by omega)
                  have hroom5 : Hid (RoomAt wr g gw N (flips ws lst)) := HR2.out.kp hkj.out (fun h => by have := H1.out.1.lt; omega) (fun h => by omega)
                  go_wp2
                  go_roundw
                  case rel => exact ⟨k + 1, u ++ lst, flips ws lst, by omega, by go_num, by rw [List.length_append]; exact hul2, HO5, hroom5, HI2, hkpw⟩
                  case measure => simp [intOf]; omega
          · obtain ⟨A0, c0, rfl, hc0, hm0⟩ := own_form hown.out
            have hz0' : wrg (hasI u) N true [] u = 0 := wrg_zero _ _ _ _ _ (fun x hx => by have := hinv.out.2.2.1 x hx; exact ⟨this.1, this.2, (hasI_mem u x).2 hx, rfl⟩) hinv.out.2.1
            have hfreed := hinv.out.freed u hz0'
            have hempty : u.filter (fun x => !hasI u x) = [] := by
              rw [List.filter_eq_nil_iff]
              intro x hx
              rw [(hasI_mem u x).2 hx]; simp
            rw [hempty] at hfreed
            have hcnt0 := hfreed.count
            have hfr := Lib.hid (free_any g gw N ws A0 c0 u wr _ hroom.out (Rd.of_own hown.out) (fun b hb => ⟨hb.2, by omega⟩) (by omega))
            rw [hinv.out.wrg, hz0'] at hfr
            have HC0 := Lib.hid hcnt0
            have HKP := Lib.hid hkp.out
            clear hz0' hfreed hempty hcnt0
            go_wp2_with fail
            refine hfr.out.mono ?_
            rintro e w3 ⟨rfl, hr3, hk3⟩
            have hcn := count_any g gw N _ w3 hr3
            have e0 : after ws u 0 = flips ws u := rfl
            rw [e0, HC0.out] at hcn
            have hcn' := Lib.hid hcn
            have HB3 : Hid (Below w.heap.size w w3) := HB1.out.trans ((HKP.out.trans hk3 (fun _ _ h => h)).to_below HB1.out.size (fun i hi => by omega))
            clear hr3 hk3 hcn
            go_wp2_with (first | (go_at_call 19; refine hcn'.out.mono ?_; rintro e w4 ⟨rfl, rfl⟩) | (go_at_call 7; refine (awake_any _).mono ?_; rintro e w5 ⟨rfl, hb5⟩; have HB5 := Lib.hid hb5; clear hb5))
            go_ret
            exact ⟨rfl, HB3.out.trans (HB5.out.mono HB3.out.size)⟩
end Go.Proofs.Ytedjaahidncokaa
