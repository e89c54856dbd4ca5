/- Layer 37: awake; SourceArena, walked. -/
import Derived.Test.YtgnpihhakogeeaaR37
namespace Go.Proofs.Ytgnpihhakogeeaa
open Go.RowKit

/-- the shape of one dimension of one member, of one measure -/
def shp1 : Shp := ⟨[[1]], 1⟩
theorem shp1_at (w : World) : ElemsAt ((w.alloc (.cells #[.int .i64 1] 3)).alloc (.cells #[.slice (some ⟨w.heap.size, 0, none⟩) 1 1] 26)) (fun b => b < w.heap.size + 2) (some ⟨w.heap.size + 1, 0, none⟩) [[(1 : Int)]] := by
  have h1 : ElemsAt (w.alloc (.cells #[.int .i64 1] 3)) (fun b => b = w.heap.size) (some ⟨w.heap.size, 0, none⟩) [(1 : Int)] := ElemsAt.made ⟨rfl, by unfold I64; omega⟩ rfl
  have h2 := ElemsAt.made (w := w.alloc (.cells #[.int .i64 1] 3)) (t := 26) (F := fun b => b < w.heap.size + 2) (cs := #[.slice (some ⟨w.heap.size, 0, none⟩) 1 1]) (x := [(1 : Int)]) ⟨_, rfl, _, _, rfl, Nat.le_refl _, by unfold maxLen; simp, h1.keep (fun p hp => World.cell?_alloc_lt _ _ _ (by rw [World.size_alloc]; omega)) (fun b h => by omega)⟩ (by simp)
  rw [World.size_alloc] at h2
  exact h2
theorem awake37 (w : World) : Calls Try.prog 13 #[] w fun e w' => e = .returned (.bool true) ∧ Below w.heap.size w w' := by
  have HN := Lib.hid (anew_yes (some ⟨w.heap.size + 1, 0, none⟩) 1 shp1 1 _ _ (shp1_at w) (fun b hb => by simpa using hb) (by decide))
  have b0 : Hid (Below w.heap.size w ((w.alloc (.cells #[.int .i64 1] 3)).alloc (.cells #[.slice (some ⟨w.heap.size, 0, none⟩) 1 1] 26))) := below2 _ _ _
  go_enter Try.func13, Try.ntmps13
  go_wp2_with fail
  generalize (w.alloc (.cells #[.int .i64 1] 3)).alloc _ = w0 at HN b0 ⊢
  refine HN.out.mono ?_
  rintro e w1 ⟨g, SA, sc, rfl, hab, hg, hsl, hb1⟩
  have HA : Hid (ArR w1 g shp1 []) := by
    obtain ⟨A', c', e, h8, h9, h10⟩ := hsl
    injection e with e1 e2 e3
    subst e1 e3
    exact ⟨SA, sc, none, 0, 1, hab, h10.more (fun b hb => hb.2.1), ElemsAt.nil, h8, h9, Nat.le_refl _, by unfold maxLen; omega⟩
  have HB1 := Lib.hid (bon b0.out hb1)
  clear hab hg hsl hb1 HN b0
  go_wp2_with fail
  refine (sarena_yes g shp1 [] w1 HA.out (by decide) (by decide)).mono ?_
  rintro e w2 ⟨gs, rfl, hgs, hbs, hb2⟩
  have HB2 := Lib.hid (bon HB1.out hb2)
  have HS := Lib.hid hbs
  clear hbs hb2
  go_wp2_with (first | (go_at_call 18; refine (stop_yes gs g _ 0 _ HS.out).mono ?_; rintro e w3 ⟨rfl, rfl⟩) | (go_at_call 19; refine (sreads_yes gs g _ 0 _ HS.out).mono ?_; rintro e w3 ⟨rfl, rfl⟩))
  go_ret
  exact ⟨rfl, HB2.out⟩

set_option maxHeartbeats 8000000 in
set_option maxRecDepth 100000 in
theorem srcArena_any (A : Option Addr) (c : Nat) (x : Shp) (LA : Option Addr) (lc : Nat) (l : List Nod) (KA : Option Addr) (kc : Nat) (asks : List Int) (w : World) (F : Nat → Prop) (hx : ElemsAt w F A x.sizes) (hl : ElemsAt w F LA l) (hk : ElemsAt w F KA asks) (hF : ∀ b, F b → b < w.heap.size) (hxl : x.sizes.length ≤ maxLen) (hll : l.length ≤ maxLen) (hkl : asks.length ≤ maxLen) :
    Calls Try.prog 3 #[.agg #[.slice A x.sizes.length c, .int .i64 x.measures], .slice LA l.length lc, .slice KA asks.length kc] w fun e w' => e = .returned (.bool true) ∧ Below w.heap.size w w' := by
  have HX := Lib.hid hx
  have HL := Lib.hid hl
  have HK := Lib.hid hk
  have HF := Lib.hid hF
  have HXL := Lib.hid hxl
  have HLL := Lib.hid hll
  clear hx hl hk hF hxl hll
  unfold maxLen at hkl
  have b0 : Hid (Below w.heap.size w (w.alloc (.cells #[.slice A x.sizes.length c, .int .i64 x.measures] 24))) := below1 _ _
  have s0 : Hid (Blk (w.alloc (.cells #[.slice A x.sizes.length c, .int .i64 x.measures] 24)) w.heap.size 24 [.slice A x.sizes.length c, .int .i64 x.measures]) := Blk.new _ _ _
  go_enter Try.func3, Try.ntmps3
  go_wp2_with fail
  generalize w.alloc (.cells #[.slice A x.sizes.length c, .int .i64 x.measures] 24) = w0 at b0 s0 ⊢
  have z0 := s0.out.lt
  have hz0 := b0.out.size
  refine (small_any A c x w0 F (HX.out.below b0.out HF.out) (fun b hb => by have := HF.out b hb; omega) HXL.out).mono ?_
  rintro e w1 ⟨sb, rfl, hsb, hb1⟩
  have B1 : Hid (Below w.heap.size w w1) := bon b0.out hb1
  have s1 := Lib.hid (s0.out.below hb1 z0)
  have c0 : w1.cell? ⟨w.heap.size, 0, none⟩ = some (.slice A x.sizes.length c) := by rw [s1.out.cell]; rfl
  have c1 : w1.cell? ⟨w.heap.size, 1, none⟩ = some (.int .i64 x.measures) := by rw [s1.out.cell]; rfl
  have z1 : w.heap.size < w1.heap.size := s1.out.lt
  have HAW : Hid (∀ W, Below w.heap.size w W → Calls Try.prog 13 #[] W fun e w' => e = .returned (.bool true) ∧ Below w.heap.size w w') := fun W hW => (awake37 W).mono fun e w' ⟨h1, h2⟩ => ⟨h1, bon hW h2⟩
  clear hb1 s0 b0
  cases sb with
  | false =>
    go_wp2_with (go_at_call 13; refine (HAW.out _ B1.out).mono ?_; rintro e w5 ⟨rfl, hb5⟩; have HB5 := Lib.hid hb5; clear hb5)
    go_ret
    exact ⟨rfl, HB5.out⟩
  | true =>
  have hx20 := hsb rfl
  clear hsb
  go_wp2_with fail
  refine (few_any LA lc l 15 w1 F (HL.out.below B1.out HF.out) HLL.out (by decide)).mono ?_
  rintro e w' ⟨fb, rfl, hfb, rfl⟩
  cases fb with
  | false =>
    go_wp2_with (go_at_call 13; refine (HAW.out _ B1.out).mono ?_; rintro e w5 ⟨rfl, hb5⟩; have HB5 := Lib.hid hb5; clear hb5)
    go_ret
    exact ⟨rfl, HB5.out⟩
  | true =>
  have hfew := (hfb rfl).few (by decide)
  have HFW := Lib.hid hfew
  have hl15 := (hfb rfl).1
  clear hfb hfew
  cases ha : decide (30 < asks.length) with
  | true =>
    have ha' : decide (30 < (asks.length : Int)) = true := by simp at ha ⊢; omega
    go_wp2_with (go_at_call 13; refine (HAW.out _ B1.out).mono ?_; rintro e w5 ⟨rfl, hb5⟩; have HB5 := Lib.hid hb5; clear hb5)
    go_ret
    exact ⟨rfl, HB5.out⟩
  | false =>
  have ha' : decide (30 < (asks.length : Int)) = false := by simp at ha ⊢; omega
  have hk30 : asks.length ≤ 30 := by simpa using ha
  go_wp2_with fail
  refine (load_any A c x LA lc l w1 F (HX.out.below B1.out HF.out) (HL.out.below B1.out HF.out) (fun b hb => by have := HF.out b hb; omega) HXL.out HFW.out).mono ?_
  rintro e w2 h2
  rcases h2 with ⟨hne, rfl, hb2⟩ | ⟨h0, g, rfl, hg, hAR, hb2⟩
  · have hbn : (loadErr x l != 0) = true := by simpa using hne
    have B2 : Hid (Below w.heap.size w w2) := bon B1.out hb2
    generalize loadErr x l = le at *
    clear hb2 hne
    go_wp2_with (go_at_call 13; refine (HAW.out _ B2.out).mono ?_; rintro e w5 ⟨rfl, hb5⟩; have HB5 := Lib.hid hb5; clear hb5)
    go_ret
    exact ⟨rfl, HB5.out⟩
  have hx1 : 1 ≤ x.sizes.length := by
    unfold loadErr at h0
    by_cases hm : shpMay x = false
    · rw [if_pos hm] at h0; cases h0
    · exact (shpMay_bounds (by simpa using hm)).1
  have B2 : Hid (Below w.heap.size w w2) := bon B1.out hb2
  have HAR := Lib.hid hAR
  clear h0 hb2 hAR c0 c1 s1
  go_wp2_with fail
  refine (sarena_yes g x l w2 HAR.out hx1 (by omega)).mono ?_
  rintro e w3 ⟨gs, rfl, hgs, hbs, hb3⟩
  have HS3 := Lib.hid hbs
  have B3 : Hid (Below w2.heap.size w2 w3) := hb3
  have k3 : Hid (Kp (fun b => b = gs) w2 w3) := Kp.of_below hb3
  have zgs := hbs.lt
  have hz2 := B2.out.size
  clear hbs hb3
  go_wp2_with fail
  go_loopw [41] (fun i wr => ∃ k : Nat, k ≤ asks.length ∧ i = .int .i64 k ∧ Hid (Blk wr gs 87 (srcCells g ((l.length : Int) - 1) k)) ∧ Hid (Kp (fun b => b = gs) w2 wr)) (fun i _ => asks.length - (intOf i).toNat)
  case atStart => exact ⟨0, Nat.zero_le _, rfl, HS3, k3⟩
  case round =>
    clear HS3 k3 B3
    obtain ⟨k, hk, rfl, hS, hkp⟩ := hrel
    have hzr := hkp.out.size
    have BR : Hid (Below w.heap.size w wr) := B2.out.trans (hkp.out.to_below hz2 (fun b hb => by omega))
    by_cases hlt : k < asks.length
    · obtain ⟨ib, io, rfl, _, hib, ci, _⟩ := (HK.out.below BR.out HF.out).int hlt
      have HN := Lib.hid (snode_yes gs g ((l.length : Int) - 1) k x l asks[k] wr w2 hS.out HAR.out hkp.out hgs hx1 HFW.out (by omega) (by omega))
      generalize asks[k] = at' at *
      by_cases hr : 0 ≤ at' ∧ at' < l.length
      · rw [if_pos hr, if_pos hr] at HN
        obtain ⟨q, rfl⟩ := Int.eq_ofNat_of_zero_le hr.1
        have hq : q < l.length := by omega
        have e0 : l.getD (q : Int).toNat nod0 = l[q] := by simp [hq]
        rw [e0] at HN
        have g1 : decide ((q : Int) < 0) = false := by simp
        have g2 : decide ((l.length : Int) ≤ (q : Int)) = false := by simp; omega
        have g3 : decide (l.length ≤ q) = false := by simp; omega
        clear e0 hr
        go_wp2_with fail
        refine HN.out.mono ?_
        rintro e w4 ⟨A4, c4, rfl, hsl4, hk4, hS4⟩
        have BR4 : Hid (Below w.heap.size w w4) := BR.out.trans (hk4.to_below BR.out.size (fun b hb => by omega))
        have hz4 := hk4.size
        have bb : Hid (Below w4.heap.size w4 (w4.alloc (.cells (nodArr l[q].dim (.slice A4 l[q].lists.length c4) l[q].all) 45))) := below1 _ _
        have sb : Hid (Blk (w4.alloc (.cells (nodArr l[q].dim (.slice A4 l[q].lists.length c4) l[q].all) 45)) w4.heap.size 45 (nodArr l[q].dim (.slice A4 l[q].lists.length c4) l[q].all).toList) := Blk.newA _ _ _
        have HLb := Lib.hid (HL.out.below (bon BR4.out bb.out) HF.out)
        obtain ⟨nb, no, NB, nd, rfl, hFn, hnb, d0, d1, ⟨a0, a1, a2, a3, a4, a5, a6, a7, a8, a9, a10, a11⟩, _, hlc1, hlc2, hNB, _⟩ := HLb.out.nod hq
        have HSM : Hid (∀ W, Below (w4.alloc (.cells (nodArr l[q].dim (.slice A4 l[q].lists.length c4) l[q].all) 45)).heap.size (w4.alloc (.cells (nodArr l[q].dim (.slice A4 l[q].lists.length c4) l[q].all) 45)) W → Calls Try.prog 17 #[.agg (nodArr l[q].dim (.slice A4 l[q].lists.length c4) l[q].all), .agg (nodArr l[q].dim (.slice NB l[q].lists.length nd) l[q].all)] W (RetV W (.bool true))) := by
          intro W hW
          obtain ⟨A', c', e, h8, h9, h10⟩ := hsl4
          injection e with e1 e2 e3
          subst e1 e3
          have hzb := bb.out.size
          have := same_any l[q] l[q] A4 NB c4 nd W (· < (w4.alloc (.cells (nodArr l[q].dim (.slice A4 l[q].lists.length c4) l[q].all) 45)).heap.size) (((h10.below bb.out (fun b hb => hb.2)).below hW (fun b hb => by omega)).more (fun b hb => by omega)) ((hNB.below hW (fun b hb => by have := HF.out b hb; have := BR4.out.size; omega)).more (fun b hb => by have := HF.out b hb; have := BR4.out.size; omega)) (fun b hb => by have := hW.size; omega) (by omega) (by omega)
          rw [decide_eq_true rfl] at this
          exact this
        have HS4 := Lib.hid hS4
        have K4 := Lib.hid (hkp.out.trans hk4 (fun b _ h => h))
        have hnb4 : nb < w4.heap.size := by have := HF.out nb hFn; have := BR4.out.size; omega
        clear hsl4 hk4 hS4 hNB hlc1 hlc2 HN HLb
        generalize l[q] = n at *
        obtain ⟨dim, lists, all⟩ := n
        simp only at d0 d1 a0 a1 a2 a3 a4 a5 a6 a7 a8 a9 a10 a11 HSM bb sb
        unfold nodArr at *
        go_wp2_with fail
        generalize w4.alloc _ = wb at bb sb HSM d0 d1 a0 a1 a2 a3 a4 a5 a6 a7 a8 a9 a10 a11 ⊢
        have m0 : wb.cell? ⟨w4.heap.size, 0, none⟩ = some (.int .i64 dim) := by rw [sb.out.cell]; rfl
        have m1 : wb.cell? ⟨w4.heap.size, 1, none⟩ = some (.slice A4 lists.length c4) := by rw [sb.out.cell]; rfl
        have m2 : wb.cell? ⟨w4.heap.size, 2, none⟩ = some (.int .i64 all.key) := by rw [sb.out.cell]; rfl
        have m3 : wb.cell? ⟨w4.heap.size, 3, none⟩ = some (.int .i64 all.child) := by rw [sb.out.cell]; rfl
        have m4 : wb.cell? ⟨w4.heap.size, 4, none⟩ = some (.int .i64 all.agg.n) := by rw [sb.out.cell]; rfl
        have m5 : wb.cell? ⟨w4.heap.size, 5, none⟩ = some (.int .i64 all.agg.s0) := by rw [sb.out.cell]; rfl
        have m6 : wb.cell? ⟨w4.heap.size, 6, none⟩ = some (.int .i64 all.agg.l0) := by rw [sb.out.cell]; rfl
        have m7 : wb.cell? ⟨w4.heap.size, 7, none⟩ = some (.int .i64 all.agg.h0) := by rw [sb.out.cell]; rfl
        have m8 : wb.cell? ⟨w4.heap.size, 8, none⟩ = some (.int .i64 all.agg.s1) := by rw [sb.out.cell]; rfl
        have m9 : wb.cell? ⟨w4.heap.size, 9, none⟩ = some (.int .i64 all.agg.l1) := by rw [sb.out.cell]; rfl
        have m10 : wb.cell? ⟨w4.heap.size, 10, none⟩ = some (.int .i64 all.agg.h1) := by rw [sb.out.cell]; rfl
        have m11 : wb.cell? ⟨w4.heap.size, 11, none⟩ = some (.int .i64 all.agg.s2) := by rw [sb.out.cell]; rfl
        have m12 : wb.cell? ⟨w4.heap.size, 12, none⟩ = some (.int .i64 all.agg.l2) := by rw [sb.out.cell]; rfl
        have m13 : wb.cell? ⟨w4.heap.size, 13, none⟩ = some (.int .i64 all.agg.h2) := by rw [sb.out.cell]; rfl
        have zb : w4.heap.size < wb.heap.size := sb.out.lt
        go_still_tail 8, (by kernel_rfl)
        change wpList _ _ _ _ _ wb.drew
        go_wp2_with (go_at_call 17; refine (HSM.out _ (Below.refl _ _).drew).mono ?_; rintro e w6 h6; obtain ⟨rfl, hb6, hz6, hc6, hf6⟩ := h6.imp; clear h6)
        go_roundw
        case rel => exact ⟨k + 1, by omega, by go_num, by unfold Hid; rw [show ((k + 1 : Nat) : Int) = (k : Int) + 1 by omega]; exact HS4.out.below (bon bb.out (bon (Below.refl _ _).drew hb6)) HS4.out.lt, K4.out.trans (Kp.of_below (S := fun _ => False) (bon bb.out (bon (Below.refl _ _).drew hb6))) (fun b _ h => h.elim)⟩
        case measure => simp [intOf]; omega
      · rw [if_neg hr, if_neg hr] at HN
        have hor : (decide (at' < 0) = true) ∨ (decide (at' < 0) = false ∧ (l.length : Int) ≤ at') := by
          by_cases h : at' < 0
          · exact .inl (by simpa using h)
          · exact .inr ⟨by simpa using h, by omega⟩
        clear hr
        go_wp2_with fail
        refine HN.out.mono ?_
        rintro e w4 ⟨A4, c4, rfl, hsl4, hk4, hS4⟩
        have BR4 : Hid (Below w.heap.size w w4) := BR.out.trans (hk4.to_below BR.out.size (fun b hb => by omega))
        have hz4 := hk4.size
        have bb : Hid (Below w4.heap.size w4 (w4.alloc (.cells #[.int .i64 0, .slice A4 0 c4, .int .i64 0, .int .i64 0, .int .i64 0, .int .i64 0, .int .i64 0, .int .i64 0, .int .i64 0, .int .i64 0, .int .i64 0, .int .i64 0, .int .i64 0, .int .i64 0] 45))) := below1 _ _
        have sb : Hid (Blk (w4.alloc (.cells #[.int .i64 0, .slice A4 0 c4, .int .i64 0, .int .i64 0, .int .i64 0, .int .i64 0, .int .i64 0, .int .i64 0, .int .i64 0, .int .i64 0, .int .i64 0, .int .i64 0, .int .i64 0, .int .i64 0] 45)) w4.heap.size 45 (#[.int .i64 0, .slice A4 0 c4, .int .i64 0, .int .i64 0, .int .i64 0, .int .i64 0, .int .i64 0, .int .i64 0, .int .i64 0, .int .i64 0, .int .i64 0, .int .i64 0, .int .i64 0, .int .i64 0]).toList) := Blk.newA _ _ _
        have HSM : Hid (∀ W, Calls Try.prog 17 #[.agg #[.int .i64 0, .slice A4 0 c4, .int .i64 0, .int .i64 0, .int .i64 0, .int .i64 0, .int .i64 0, .int .i64 0, .int .i64 0, .int .i64 0, .int .i64 0, .int .i64 0, .int .i64 0, .int .i64 0], .agg #[.int .i64 0, .slice none 0 0, .int .i64 0, .int .i64 0, .int .i64 0, .int .i64 0, .int .i64 0, .int .i64 0, .int .i64 0, .int .i64 0, .int .i64 0, .int .i64 0, .int .i64 0, .int .i64 0]] W (RetV W (.bool true))) := by
          intro W
          have := same_any nod0 nod0 A4 none c4 0 W (fun _ => False) ElemsAt.nil ElemsAt.nil (fun b hb => hb.elim) (Nat.zero_le _) (Nat.zero_le _)
          rw [decide_eq_true rfl] at this
          exact this
        have HS4 := Lib.hid hS4
        have K4 := Lib.hid (hkp.out.trans hk4 (fun b _ h => h))
        clear hsl4 hk4 hS4 HN
        rw [show (nodArr nod0.dim (.slice A4 nod0.lists.length c4) nod0.all) = #[.int .i64 0, .slice A4 0 c4, .int .i64 0, .int .i64 0, .int .i64 0, .int .i64 0, .int .i64 0, .int .i64 0, .int .i64 0, .int .i64 0, .int .i64 0, .int .i64 0, .int .i64 0, .int .i64 0] from rfl]
        rcases hor with h1 | ⟨h1, h2⟩
        all_goals
          go_wp2_with fail
          generalize w4.alloc _ = wb at bb sb ⊢
          have m0 : wb.cell? ⟨w4.heap.size, 0, none⟩ = some (.int .i64 0) := by rw [sb.out.cell]; rfl
          have m1 : wb.cell? ⟨w4.heap.size, 1, none⟩ = some (.slice A4 0 c4) := by rw [sb.out.cell]; rfl
          have m2 : wb.cell? ⟨w4.heap.size, 2, none⟩ = some (.int .i64 0) := by rw [sb.out.cell]; rfl
          have m3 : wb.cell? ⟨w4.heap.size, 3, none⟩ = some (.int .i64 0) := by rw [sb.out.cell]; rfl
          have m4 : wb.cell? ⟨w4.heap.size, 4, none⟩ = some (.int .i64 0) := by rw [sb.out.cell]; rfl
          have m5 : wb.cell? ⟨w4.heap.size, 5, none⟩ = some (.int .i64 0) := by rw [sb.out.cell]; rfl
          have m6 : wb.cell? ⟨w4.heap.size, 6, none⟩ = some (.int .i64 0) := by rw [sb.out.cell]; rfl
          have m7 : wb.cell? ⟨w4.heap.size, 7, none⟩ = some (.int .i64 0) := by rw [sb.out.cell]; rfl
          have m8 : wb.cell? ⟨w4.heap.size, 8, none⟩ = some (.int .i64 0) := by rw [sb.out.cell]; rfl
          have m9 : wb.cell? ⟨w4.heap.size, 9, none⟩ = some (.int .i64 0) := by rw [sb.out.cell]; rfl
          have m10 : wb.cell? ⟨w4.heap.size, 10, none⟩ = some (.int .i64 0) := by rw [sb.out.cell]; rfl
          have m11 : wb.cell? ⟨w4.heap.size, 11, none⟩ = some (.int .i64 0) := by rw [sb.out.cell]; rfl
          have m12 : wb.cell? ⟨w4.heap.size, 12, none⟩ = some (.int .i64 0) := by rw [sb.out.cell]; rfl
          have m13 : wb.cell? ⟨w4.heap.size, 13, none⟩ = some (.int .i64 0) := by rw [sb.out.cell]; rfl
          have zb : w4.heap.size < wb.heap.size := sb.out.lt
          go_wp2_with (go_at_call 17; refine (HSM.out _).mono ?_; rintro e w6 h6; obtain ⟨rfl, hb6, hz6, hc6, hf6⟩ := h6.imp; clear h6)
          go_roundw
          case rel => exact ⟨k + 1, by omega, by go_num, by unfold Hid; rw [show ((k + 1 : Nat) : Int) = (k : Int) + 1 by omega]; exact HS4.out.below (bon bb.out hb6) HS4.out.lt, K4.out.trans (Kp.of_below (S := fun _ => False) (bon bb.out hb6)) (fun b _ h => h.elim)⟩
          case measure => simp [intOf]; omega
    · have hke : ((k : Int) == (asks.length : Int)) = true := by simp; omega
      go_wp2_with (first | (go_at_call 18; refine (stop_yes gs g _ _ _ hS.out).mono ?_; rintro e w3 ⟨rfl, rfl⟩) | (go_at_call 19; refine (sreads_yes gs g _ _ _ hS.out).mono ?_; rintro e w3 ⟨rfl, rfl⟩) | (go_at_call 13; refine (HAW.out _ BR.out).mono ?_; rintro e w5 ⟨rfl, hb5⟩; have HB5 := Lib.hid hb5; clear hb5))
      go_ret
      exact ⟨rfl, HB5.out⟩
end Go.Proofs.Ytgnpihhakogeeaa
