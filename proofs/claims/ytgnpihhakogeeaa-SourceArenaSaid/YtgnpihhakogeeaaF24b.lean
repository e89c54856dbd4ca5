/- Layer 24, the reference: Same. -/
import Derived.Test.YtgnpihhakogeeaaF24
namespace Go.Proofs.Ytgnpihhakogeeaa
open Go.RowKit

theorem nod_eq (a b : Nod) : (a = b) = (a.dim = b.dim ∧ a.all = b.all ∧ a.lists = b.lists) := by
  cases a; cases b; simp only [Nod.mk.injEq]; exact propext ⟨fun ⟨h1, h2, h3⟩ => ⟨h1, h3, h2⟩, fun ⟨h1, h2, h3⟩ => ⟨h1, h3, h2⟩⟩
theorem eq_cel2 (d : Nat) (w : World) (a b : Cel) (hd : 5 ≤ d) : (Op.equalIn d 43 (.agg a.arr) (.agg b.arr)).run Try.prog w = .ok (decide (a = b)) w := by
  obtain ⟨k, rfl⟩ : ∃ k, d = k + 5 := ⟨d - 5, by omega⟩
  exact eq_cel k w a b
theorem ll_ext {α : Type} {a b : List α} (h : a.length = b.length) (h2 : a.take a.length = b.take a.length) : a = b := by
  rw [List.take_of_length_le (Nat.le_refl _), List.take_of_length_le (by omega)] at h2; exact h2
theorem take_eq {α : Type} {a b : List α} {k : Nat} (ha : k < a.length) (hb : k < b.length) (h : a.take k = b.take k) (he : a[k] = b[k]) : a.take (k + 1) = b.take (k + 1) := by
  rw [List.take_succ_eq_append_getElem ha, List.take_succ_eq_append_getElem hb, h, he]
set_option maxHeartbeats 4000000 in
set_option maxRecDepth 100000 in
theorem same_any (a b : Nod) (A B : Option Addr) (ca cb : Nat) (w : World) (F : Nat → Prop) (ha : ElemsAt w F A a.lists) (hb : ElemsAt w F B b.lists) (hF : ∀ k, F k → k < w.heap.size) (hla : a.lists.length ≤ maxLen) (hlb : b.lists.length ≤ maxLen) :
    Calls Try.prog 17 #[.agg (nodArr a.dim (.slice A a.lists.length ca) a.all), .agg (nodArr b.dim (.slice B b.lists.length cb) b.all)] w (RetV w (.bool (decide (a = b)))) := by
  obtain ⟨P, hP⟩ : ∃ P : Bool, P = decide (a = b) := ⟨_, rfl⟩
  have HP : Hid (P = decide (a.dim = b.dim ∧ a.all = b.all ∧ a.lists = b.lists)) := by unfold Hid; rw [hP]; exact decide_eq_decide.2 (by rw [nod_eq])
  rw [← hP]
  clear hP
  obtain ⟨da, la, aa⟩ := a
  obtain ⟨db, lb, ab⟩ := b
  simp only at *
  have HA := Lib.hid ha
  have HB := Lib.hid hb
  have HF := Lib.hid hF
  clear ha hb hF
  unfold maxLen at hla hlb
  have hq := fun W => eq_cel2 10000 W aa ab (by decide)
  have b0 : Hid (Below w.heap.size w ((w.alloc (.cells (nodArr da (.slice A la.length ca) aa) 45)).alloc (.cells (nodArr db (.slice B lb.length cb) ab) 45))) := below2 _ _ _
  have s0 : Hid (Blk ((w.alloc (.cells (nodArr da (.slice A la.length ca) aa) 45)).alloc (.cells (nodArr db (.slice B lb.length cb) ab) 45)) w.heap.size 45 (nodArr da (.slice A la.length ca) aa).toList) := (Blk.newA _ _ _).alloc _
  have s1 : Hid (Blk ((w.alloc (.cells (nodArr da (.slice A la.length ca) aa) 45)).alloc (.cells (nodArr db (.slice B lb.length cb) ab) 45)) (w.heap.size + 1) 45 (nodArr db (.slice B lb.length cb) ab).toList) := by
    have := Blk.newA (w.alloc (.cells (nodArr da (.slice A la.length ca) aa) 45)) 45 (nodArr db (.slice B lb.length cb) ab)
    rw [World.size_alloc] at this
    exact this
  unfold Cel.arr at hq
  unfold nodArr at *
  cases e1 : (da != db) with
  | true =>
    have hf : Hid (P = false) := by unfold Hid; rw [HP.out]; exact decide_eq_false (fun h => by simp at e1; exact e1 h.1)
    clear HP
    go_enter Try.func17, Try.ntmps17
    go_wp2
    go_ret
    exact ⟨by rw [hf.out]; rfl, b0.out⟩
  | false =>
  by_cases e2 : aa = ab
  case neg =>
    have hf : Hid (P = false) := by unfold Hid; rw [HP.out]; exact decide_eq_false (fun h => e2 h.2.1)
    rw [decide_eq_false e2] at hq
    clear HP e2
    go_enter Try.func17, Try.ntmps17
    go_wp2
    go_ret
    exact ⟨by rw [hf.out]; rfl, b0.out⟩
  rw [decide_eq_true e2] at hq
  cases e3 : ((la.length : Int) != (lb.length : Int)) with
  | true =>
    have hf : Hid (P = false) := by unfold Hid; rw [HP.out]; exact decide_eq_false (fun h => by rw [h.2.2] at e3; simp at e3)
    clear HP e2
    go_enter Try.func17, Try.ntmps17
    go_wp2
    go_ret
    exact ⟨by rw [hf.out]; rfl, b0.out⟩
  | false =>
  have hlen : la.length ≤ lb.length := by simp at e3; omega
  have HLE : Hid (la.length = lb.length) := by unfold Hid; simp at e3; omega
  have HP2 : Hid (P = decide (la = lb)) := by unfold Hid; rw [HP.out]; simp at e1; simp [e1, e2]
  clear HP e2
  go_enter Try.func17, Try.ntmps17
  go_wp2
  generalize (w.alloc _).alloc _ = w0 at b0 s0 s1 ⊢
  have HA0 := Lib.hid (HA.out.below b0.out HF.out)
  have HB0 := Lib.hid (HB.out.below b0.out HF.out)
  have x1 : w0.cell? ⟨w.heap.size, 1, none⟩ = some (.slice A la.length ca) := by rw [s0.out.cell]; rfl
  have y1 : w0.cell? ⟨w.heap.size + 1, 1, none⟩ = some (.slice B lb.length cb) := by rw [s1.out.cell]; rfl
  have z0 : w.heap.size < w0.heap.size := s0.out.lt
  have z1 : w.heap.size + 1 < w0.heap.size := s1.out.lt
  clear hq e1 e3
  have bb : Hid (Below w0.heap.size w0 w0) := Below.refl _ _
  go_loopw [31] (fun i wr => ∃ k : Nat, k ≤ la.length ∧ i = .int .i64 k ∧ Hid (la.take k = lb.take k) ∧ Hid (Below w0.heap.size w0 wr)) (fun i _ => la.length - (intOf i).toNat)
  case atStart => exact ⟨0, Nat.zero_le _, rfl, rfl, bb⟩
  case round =>
    clear bb
    obtain ⟨k, hk, rfl, hs, hbr⟩ := hrel
    obtain ⟨hcr, _⟩ := bcell hbr.out
    have hzr := hbr.out.size
    by_cases hlt : k < la.length
    · have hltb : k < lb.length := by omega
      obtain ⟨xb, xo, X, xc, rfl, _, hxb, cx, hxc, hxm, hX⟩ := HA0.out.sub hlt
      obtain ⟨yb, yo, Y, yc, rfl, _, hyb, cy, hyc, hym, hY⟩ := HB0.out.sub hltb
      have HX := Lib.hid hX
      have HY := Lib.hid hY
      have hxl : la[k].length ≤ 9223372036854775807 := by unfold maxLen at hxm; omega
      have hyl : lb[k].length ≤ 9223372036854775807 := by unfold maxLen at hym; omega
      have HSN : Hid (la[k] = lb[k] → la.take (k + 1) = lb.take (k + 1)) := take_eq hlt hltb hs.out
      have HNE : Hid (la[k] ≠ lb[k] → P = false) := by
        intro h; rw [HP2.out]; exact decide_eq_false (fun e => h (by subst e; rfl))
      clear hX hY hs
      generalize la[k] = lx at *
      generalize lb[k] = ly at *
      have f1 : xb < wr.heap.size := by omega
      have f2 : yb < wr.heap.size := by omega
      have f3 : w.heap.size < wr.heap.size := by omega
      have f4 : w.heap.size + 1 < wr.heap.size := by omega
      cases e4 : ((lx.length : Int) != (ly.length : Int)) with
      | true =>
        have hf : Hid (P = false) := HNE.out (fun e => by rw [e] at e4; simp at e4)
        clear HSN HNE HP2
        go_wp2
        go_quiet (fail)
        go_wp2
        go_ret
        exact ⟨by rw [hf.out]; rfl, bon b0.out (below_drewN hbr.out _)⟩
      | false =>
        have hle2 : lx.length ≤ ly.length := by simp at e4; omega
        have HL2 : Hid (lx.length = ly.length) := by unfold Hid; simp at e4; omega
        go_wp2
        go_quiet (fail)
        have hb2 : Hid (Below w0.heap.size w0 (wr.drewN nq)) := below_drewN hbr.out _
        clear hcr hbr
        generalize wr.drewN nq = w1 at hb2 ⊢
        obtain ⟨hcr1, _⟩ := bcell hb2.out
        have hz1 := hb2.out.size
        go_wp2
        clear hcr1
        go_loopw [53] (fun i wr => ∃ j : Nat, j ≤ lx.length ∧ i = .int .i64 j ∧ Hid (lx.take j = ly.take j) ∧ Hid (Below w0.heap.size w0 wr)) (fun i _ => lx.length - (intOf i).toNat)
        case atStart => exact ⟨0, Nat.zero_le _, rfl, rfl, hb2⟩
        case round =>
          clear hb2
          obtain ⟨j, hj, rfl, hs2, hbr⟩ := hrel
          obtain ⟨hcr, _⟩ := bcell hbr.out
          have hzr2 := hbr.out.size
          by_cases hjl : j < lx.length
          · have hjl2 : j < ly.length := by omega
            obtain ⟨pb, po, rfl, _, hpb, ⟨u0, u1, u2, u3, u4, u5, u6, u7, u8, u9, u10, u11⟩, _⟩ := HX.out.cel hjl
            obtain ⟨qb, qo, rfl, _, hqb, ⟨v0, v1, v2, v3, v4, v5, v6, v7, v8, v9, v10, v11⟩, _⟩ := HY.out.cel hjl2
            have HSN2 : Hid (lx[j] = ly[j] → lx.take (j + 1) = ly.take (j + 1)) := take_eq hjl hjl2 hs2.out
            have HNE2 : Hid (lx[j] ≠ ly[j] → P = false) := fun h => HNE.out (fun e => h (by subst e; rfl))
            clear hs2
            generalize lx[j] = cx' at *
            generalize ly[j] = cy' at *
            have hq := fun W => eq_cel2 10000 W cx' cy' (by decide)
            unfold Cel.arr at hq
            by_cases e5 : cx' = cy'
            · rw [decide_eq_true e5] at hq
              have h6 := Lib.hid (HSN2.out e5)
              clear e5 HSN2 HNE2
              go_wp2
              go_quiet (fail)
              go_wp2
              go_roundw
              case rel => exact ⟨j + 1, by omega, by go_num, h6, below_drewN hbr.out _⟩
              case measure => simp [intOf]; omega
            · rw [decide_eq_false e5] at hq
              have hf := Lib.hid (HNE2.out e5)
              clear e5 HSN2 HNE2
              go_wp2
              go_quiet (fail)
              go_wp2
              go_ret
              exact ⟨by rw [hf.out]; rfl, bon b0.out (below_drewN hbr.out _)⟩
          · have h6 := Lib.hid (HSN.out (ll_ext HL2.out (by have := hs2.out; rw [show j = lx.length by omega] at this; exact this)))
            clear hs2 hcr
            go_wp2
            go_roundw
            case rel => exact ⟨k + 1, by omega, by go_num, h6, hbr⟩
            case measure => simp [intOf]; omega
    · have hf : Hid (P = true) := by unfold Hid; rw [HP2.out]; exact decide_eq_true (ll_ext HLE.out (by have := hs.out; rw [show k = la.length by omega] at this; exact this))
      clear hs
      go_wp2
      go_ret
      exact ⟨by rw [hf.out]; rfl, bon b0.out hbr.out⟩
end Go.Proofs.Ytgnpihhakogeeaa
