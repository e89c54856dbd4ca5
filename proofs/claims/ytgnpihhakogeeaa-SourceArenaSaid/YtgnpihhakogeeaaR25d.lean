/- Layer 25, the program: Add. -/
import Derived.Test.YtgnpihhakogeeaaR25c
namespace Go.Proofs.Ytgnpihhakogeeaa
open Go.RowKit
attribute [local go_sem ↓] Go.wp_at_zero Go.wp_at_succ

theorem nod_info : (Try.prog.info? 45).map (fun i => (i.zero, i.size, i.bytes)) = some (some (.agg #[.int .i64 0, .slice none 0 0, .int .i64 0, .int .i64 0, .int .i64 0, .int .i64 0, .int .i64 0, .int .i64 0, .int .i64 0, .int .i64 0, .int .i64 0, .int .i64 0, .int .i64 0, .int .i64 0]), Rep.size Nod, 128) := by kernel_rfl
/-- a node's value, as the one element of a row just made -/
theorem nel_of_new {B : Nat} {wr w1 : World} {t : TypeId} {v : Value} {n : Nod} {A : Option Addr} {c : Nat} (hz : B ≤ wr.heap.size) (hz1 : wr.heap.size ≤ w1.heap.size) (hv : ∀ b, v.ownBlock = some b → b < wr.heap.size) (h0 : I64 n.dim) (h1 : SlAt w1 (fun b => wr.heap.size ≤ b ∧ b < w1.heap.size) (.slice A n.lists.length c) n.lists) (h2 : n.all.ok) :
    ElemsAt (w1.alloc (.cells (nodArr n.dim (.slice A n.lists.length c) n.all) t)) (fun b => B ≤ b ∧ b < (w1.alloc (.cells (nodArr n.dim (.slice A n.lists.length c) n.all) t)).heap.size ∧ v.ownBlock ≠ some b) (some ⟨w1.heap.size, 0, none⟩) [n] := by
  refine ElemsAt.made ⟨_, rfl, h0, ?_, h2⟩ ⟨by omega, by simp, fun e => by have := hv _ e; omega⟩
  exact h1.keep (fun p hp => World.cell?_alloc_lt _ _ _ hp.2) (fun b hb => ⟨by omega, by simp; omega, fun e => by have := hv _ e; omega⟩)

def AddPost (w : World) (B g : Nat) (x : Shp) (most : Int) (l : List Nod) (n : Nod) (e : Ending) (w' : World) : Prop :=
  (addErr x most l n ≠ 0 ∧ RetV w (.tuple #[.int .i64 0, .int .i64 (addErr x most l n)]) e w') ∨
  (addErr x most l n = 0 ∧ e = .returned (.tuple #[.int .i64 l.length, .int .i64 0]) ∧ ArM w' B g x most (l ++ [n]) ∧ Kp (fun b => b = g ∨ B ≤ b) w w')
set_option maxHeartbeats 4000000 in
set_option maxRecDepth 100000 in
theorem add_any (B g : Nat) (x : Shp) (most : Int) (l : List Nod) (n : Nod) (M : Option Addr) (d : Nat) (w : World) (F : Nat → Prop) (ha : ArM w B g x most l) (hn : ElemsAt w F M n.lists) (hnd : I64 n.dim) (ho : n.all.ok) (hF : ∀ b, F b → b < w.heap.size) (hlb : leBytes n) (hl3 : n.lists.length ≤ 1000000) (hl : l.length ≤ 200000) (hx1 : 1 ≤ x.sizes.length) (hx : x.sizes.length ≤ 1000) :
    Calls Try.prog 47 #[.pointer (some ⟨g, 0, none⟩), .agg (nodArr n.dim (.slice M n.lists.length d) n.all)] w (AddPost w B g x most l n) := by
  have HLE : Hid (checkErr x n = 0 → ∀ W, Below w.heap.size w W → Calls Try.prog 76 #[.pointer (some ⟨g, 0, none⟩), .agg (nodArr n.dim (.slice M n.lists.length d) n.all)] W (RetV W (.bool (leadsB x l n)))) := fun hc W hW =>
    leads_any B g x most l n M d W F (ha.below hW) (hn.below hW hF) ho (fun b hb => by have := hF b hb; have := hW.size; omega) hlb hc (by unfold maxLen; omega) hx
  have HCL : Hid (∀ W, Below w.heap.size w W → Calls Try.prog 66 #[.agg (nodArr n.dim (.slice M n.lists.length d) n.all)] W (NewNod W n)) := fun W hW =>
    nclone_any n M d W F (hn.below hW hF) (fun b hb => by have := hF b hb; have := hW.size; omega) hlb hl3
  obtain ⟨SA, sc, NA, nc, ab, hgB, hBw, hS, hsc, hsm, hN⟩ := ha
  have HCK : Hid (∀ W, Below w.heap.size w W → Calls Try.prog 75 #[.agg #[.slice SA x.sizes.length sc, .int .i64 x.measures], .agg (nodArr n.dim (.slice M n.lists.length d) n.all)] W (RetV W (.int .i64 (checkErr x n)))) := fun W hW =>
    check_any SA sc x n M d W (· < w.heap.size) (hS.keep (fun p hp => hW.cell (by omega)) (fun b hb => by omega)) (hn.keep (fun p hp => hW.cell (hF _ hp)) hF) (fun b hb => by have := hW.size; omega) (by unfold maxLen; omega) hlb.1
  have AB := Lib.hid ab
  have HN := Lib.hid hN
  have HS := Lib.hid hS
  have g0 := ab.lt
  have HD := Lib.hid hnd
  have HO := Lib.hid ho
  obtain ⟨ae, hae⟩ : ∃ ae, ae = addErr x most l n := ⟨_, rfl⟩
  have hadd : Hid (ae = if checkErr x n ≠ 0 then checkErr x n else if leadsB x l n = false then 9 else if most ≤ l.length then 7 else 0) := hae
  generalize hce : checkErr x n = ce at *
  generalize hld : leadsB x l n = ld at *
  clear hce hld hN hS ab hn hF hlb
  obtain ⟨P, hP⟩ : ∃ P, P = AddPost w B g x most l n := ⟨_, rfl⟩
  have HP1 : Hid (∀ e w', ae ≠ 0 → RetV w (.tuple #[.int .i64 0, .int .i64 ae]) e w' → P e w') := by intro e w' h1 h2; rw [hae] at h1 h2; rw [hP]; exact .inl ⟨h1, h2⟩
  have HP2 : Hid (∀ e w', ae = 0 → e = .returned (.tuple #[.int .i64 l.length, .int .i64 0]) → ArM w' B g x most (l ++ [n]) → Kp (fun b => b = g ∨ B ≤ b) w w' → P e w') := by intro e w' h1 h2 h3 h4; rw [hP]; exact .inr ⟨hae.symm.trans h1, h2, h3, h4⟩
  rw [← hP]
  clear hP hae
  obtain ⟨dim, lists, all⟩ := n
  simp only at *
  have b0 : Hid (Below w.heap.size w (w.alloc (.cells (nodArr dim (.slice M lists.length d) all) 45))) := below1 _ _
  have s0 : Hid (Blk (w.alloc (.cells (nodArr dim (.slice M lists.length d) all) 45)) w.heap.size 45 (nodArr dim (.slice M lists.length d) all).toList) := Blk.newA _ _ _
  unfold nodArr at *
  go_enter Try.func47, Try.ntmps47
  go_wp2_with fail
  generalize w.alloc _ = w0 at b0 s0 ⊢
  have A0 := Lib.hid (AB.out.below b0.out g0)
  have z0 : w.heap.size < w0.heap.size := s0.out.lt
  have zg : g < w0.heap.size := by omega
  have q0 : w0.cell? ⟨g, 0, none⟩ = some (.slice SA x.sizes.length sc) := by rw [A0.out.cell]; rfl
  have q1 : w0.cell? ⟨g, 1, none⟩ = some (.int .i64 x.measures) := by rw [A0.out.cell]; rfl
  have n0 : w0.cell? ⟨w.heap.size, 0, none⟩ = some (.int .i64 dim) := by rw [s0.out.cell]; rfl
  have n1 : w0.cell? ⟨w.heap.size, 1, none⟩ = some (.slice M lists.length d) := by rw [s0.out.cell]; rfl
  have n2 : w0.cell? ⟨w.heap.size, 2, none⟩ = some (.int .i64 all.key) := by rw [s0.out.cell]; rfl
  have n3 : w0.cell? ⟨w.heap.size, 3, none⟩ = some (.int .i64 all.child) := by rw [s0.out.cell]; rfl
  have n4 : w0.cell? ⟨w.heap.size, 4, none⟩ = some (.int .i64 all.agg.n) := by rw [s0.out.cell]; rfl
  have n5 : w0.cell? ⟨w.heap.size, 5, none⟩ = some (.int .i64 all.agg.s0) := by rw [s0.out.cell]; rfl
  have n6 : w0.cell? ⟨w.heap.size, 6, none⟩ = some (.int .i64 all.agg.l0) := by rw [s0.out.cell]; rfl
  have n7 : w0.cell? ⟨w.heap.size, 7, none⟩ = some (.int .i64 all.agg.h0) := by rw [s0.out.cell]; rfl
  have n8 : w0.cell? ⟨w.heap.size, 8, none⟩ = some (.int .i64 all.agg.s1) := by rw [s0.out.cell]; rfl
  have n9 : w0.cell? ⟨w.heap.size, 9, none⟩ = some (.int .i64 all.agg.l1) := by rw [s0.out.cell]; rfl
  have n10 : w0.cell? ⟨w.heap.size, 10, none⟩ = some (.int .i64 all.agg.h1) := by rw [s0.out.cell]; rfl
  have n11 : w0.cell? ⟨w.heap.size, 11, none⟩ = some (.int .i64 all.agg.s2) := by rw [s0.out.cell]; rfl
  have n12 : w0.cell? ⟨w.heap.size, 12, none⟩ = some (.int .i64 all.agg.l2) := by rw [s0.out.cell]; rfl
  have n13 : w0.cell? ⟨w.heap.size, 13, none⟩ = some (.int .i64 all.agg.h2) := by rw [s0.out.cell]; rfl
  refine (there_yes g x.sizes.length sc SA w0 q0 hx1).mono ?_
  rintro e w' ⟨rfl, rfl⟩
  go_wp2_with fail
  go_still_tail 5, (by kernel_rfl)
  change wpList _ _ _ _ _ w0.drew
  go_wp2_with fail
  refine (HCK.out _ (bon b0.out (Below.refl _ _).drew)).mono ?_
  rintro e w1 h1
  obtain ⟨rfl, hb1, _, _, _⟩ := h1.imp
  have B1 : Hid (Below w0.heap.size w0 w1) := bon (Below.refl _ _).drew hb1
  have hz1 := B1.out.size
  clear h1 hb1 HCK q0 q1 n0 n1 n2 n3 n4 n5 n6 n7 n8 n9 n10 n11 n12 n13
  by_cases hc : ce = 0
  · have hbc : (ce != 0) = false := by simpa using hc
    have hadd2 : Hid (ae = if ld = false then 9 else if most ≤ l.length then 7 else 0) := hadd.out.trans (if_neg (by simpa using hc))
    have HLE2 := Lib.hid (HLE.out hc)
    clear hadd HLE hc
    have s1 := Lib.hid (s0.out.below B1.out z0)
    have n0 : w1.cell? ⟨w.heap.size, 0, none⟩ = some (.int .i64 dim) := by rw [s1.out.cell]; rfl
    have n1 : w1.cell? ⟨w.heap.size, 1, none⟩ = some (.slice M lists.length d) := by rw [s1.out.cell]; rfl
    have n2 : w1.cell? ⟨w.heap.size, 2, none⟩ = some (.int .i64 all.key) := by rw [s1.out.cell]; rfl
    have n3 : w1.cell? ⟨w.heap.size, 3, none⟩ = some (.int .i64 all.child) := by rw [s1.out.cell]; rfl
    have n4 : w1.cell? ⟨w.heap.size, 4, none⟩ = some (.int .i64 all.agg.n) := by rw [s1.out.cell]; rfl
    have n5 : w1.cell? ⟨w.heap.size, 5, none⟩ = some (.int .i64 all.agg.s0) := by rw [s1.out.cell]; rfl
    have n6 : w1.cell? ⟨w.heap.size, 6, none⟩ = some (.int .i64 all.agg.l0) := by rw [s1.out.cell]; rfl
    have n7 : w1.cell? ⟨w.heap.size, 7, none⟩ = some (.int .i64 all.agg.h0) := by rw [s1.out.cell]; rfl
    have n8 : w1.cell? ⟨w.heap.size, 8, none⟩ = some (.int .i64 all.agg.s1) := by rw [s1.out.cell]; rfl
    have n9 : w1.cell? ⟨w.heap.size, 9, none⟩ = some (.int .i64 all.agg.l1) := by rw [s1.out.cell]; rfl
    have n10 : w1.cell? ⟨w.heap.size, 10, none⟩ = some (.int .i64 all.agg.h1) := by rw [s1.out.cell]; rfl
    have n11 : w1.cell? ⟨w.heap.size, 11, none⟩ = some (.int .i64 all.agg.s2) := by rw [s1.out.cell]; rfl
    have n12 : w1.cell? ⟨w.heap.size, 12, none⟩ = some (.int .i64 all.agg.l2) := by rw [s1.out.cell]; rfl
    have n13 : w1.cell? ⟨w.heap.size, 13, none⟩ = some (.int .i64 all.agg.h2) := by rw [s1.out.cell]; rfl
    go_wp2_with fail
    refine (HLE2.out _ (bon b0.out B1.out)).mono ?_
    rintro e w2 h2
    obtain ⟨rfl, hb2, hz2, _, _⟩ := h2.imp
    have B2 : Hid (Below w0.heap.size w0 w2) := bon B1.out hb2
    clear h2 hb2 s1 n0 n1 n2 n3 n4 n5 n6 n7 n8 n9 n10 n11 n12 n13
    cases ld with
    | false =>
      have he : Hid (ae = 9) := hadd2.out.trans (if_pos rfl)
      clear hadd2
      go_wp2
      exact HP1.out _ _ (by rw [he.out]; decide) ⟨by rw [he.out]; rfl, bon b0.out B2.out⟩
    | true =>
      have hadd3 : Hid (ae = if most ≤ l.length then 7 else 0) := hadd2.out.trans (if_neg (by simp))
      clear hadd2
      have s2 := Lib.hid (s0.out.below B2.out z0)
      have A2 := Lib.hid (A0.out.below B2.out zg)
      have r2 : w2.cell? ⟨g, 2, none⟩ = some (.slice NA l.length nc) := by rw [A2.out.cell]; rfl
      have r3 : w2.cell? ⟨g, 3, none⟩ = some (.int .i64 most) := by rw [A2.out.cell]; rfl
      by_cases hm : most ≤ l.length
      · have he : Hid (ae = 7) := hadd3.out.trans (if_pos hm)
        clear hadd3
        go_wp2
        go_quiet (fail)
        go_wp2
        exact HP1.out _ _ (by rw [he.out]; decide) ⟨by rw [he.out]; rfl, bon b0.out (below_drewN B2.out _)⟩
      · have he : Hid (ae = 0) := hadd3.out.trans (if_neg hm)
        have hm2 : decide (most ≤ (l.length : Int)) = false := by simpa using hm
        clear hadd3 hm
        go_wp2
        go_quiet (fail)
        have B3 : Hid (Below w0.heap.size w0 (w2.drewN nq)) := below_drewN B2.out nq
        clear r2 r3 s2 A2
        generalize w2.drewN nq = w3 at B3 ⊢
        have s3 := Lib.hid (s0.out.below B3.out z0)
        have A3 := Lib.hid (A0.out.below B3.out zg)
        have HN3 : Hid (OwnG (fun b => B ≤ b) w3 B 45 (.slice NA l.length nc) l) := HN.out.below (bon b0.out B3.out)
        have r2 : w3.cell? ⟨g, 2, none⟩ = some (.slice NA l.length nc) := by rw [A3.out.cell]; rfl
        have f2 : w3.frozen? ⟨g, 2, none⟩ = false := A3.out.frozen 2
        have hz3 := B3.out.size
        have zg3 : g < w3.heap.size := by omega
        have zw3 : w.heap.size < w3.heap.size := by omega
        have hzb := b0.out.size
        have n0 : w3.cell? ⟨w.heap.size, 0, none⟩ = some (.int .i64 dim) := by rw [s3.out.cell]; rfl
        have n1 : w3.cell? ⟨w.heap.size, 1, none⟩ = some (.slice M lists.length d) := by rw [s3.out.cell]; rfl
        have n2 : w3.cell? ⟨w.heap.size, 2, none⟩ = some (.int .i64 all.key) := by rw [s3.out.cell]; rfl
        have n3 : w3.cell? ⟨w.heap.size, 3, none⟩ = some (.int .i64 all.child) := by rw [s3.out.cell]; rfl
        have n4 : w3.cell? ⟨w.heap.size, 4, none⟩ = some (.int .i64 all.agg.n) := by rw [s3.out.cell]; rfl
        have n5 : w3.cell? ⟨w.heap.size, 5, none⟩ = some (.int .i64 all.agg.s0) := by rw [s3.out.cell]; rfl
        have n6 : w3.cell? ⟨w.heap.size, 6, none⟩ = some (.int .i64 all.agg.l0) := by rw [s3.out.cell]; rfl
        have n7 : w3.cell? ⟨w.heap.size, 7, none⟩ = some (.int .i64 all.agg.h0) := by rw [s3.out.cell]; rfl
        have n8 : w3.cell? ⟨w.heap.size, 8, none⟩ = some (.int .i64 all.agg.s1) := by rw [s3.out.cell]; rfl
        have n9 : w3.cell? ⟨w.heap.size, 9, none⟩ = some (.int .i64 all.agg.l1) := by rw [s3.out.cell]; rfl
        have n10 : w3.cell? ⟨w.heap.size, 10, none⟩ = some (.int .i64 all.agg.h1) := by rw [s3.out.cell]; rfl
        have n11 : w3.cell? ⟨w.heap.size, 11, none⟩ = some (.int .i64 all.agg.s2) := by rw [s3.out.cell]; rfl
        have n12 : w3.cell? ⟨w.heap.size, 12, none⟩ = some (.int .i64 all.agg.l2) := by rw [s3.out.cell]; rfl
        have n13 : w3.cell? ⟨w.heap.size, 13, none⟩ = some (.int .i64 all.agg.h2) := by rw [s3.out.cell]; rfl
        obtain ⟨i0, hi, hj0, hj1, hj2⟩ := info_parts nod_info
        have HC3 : Hid (Calls Try.prog 66 #[.agg #[.int .i64 dim, .slice M lists.length d, .int .i64 all.key, .int .i64 all.child, .int .i64 all.agg.n, .int .i64 all.agg.s0, .int .i64 all.agg.l0, .int .i64 all.agg.h0, .int .i64 all.agg.s1, .int .i64 all.agg.l1, .int .i64 all.agg.h1, .int .i64 all.agg.s2, .int .i64 all.agg.l2, .int .i64 all.agg.h2]] w3.drew (NewNod w3.drew ⟨dim, lists, all⟩)) := HCL.out _ (bon b0.out B3.out).drew
        clear HCL B2 HN
        go_wp2_with fail
        go_region_law
          (first
            | (refine step_call (by rfl) 66 _ _ (by rfl) Try.f66 Try.func66 (by kernel_rfl) (by kernel_rfl) [.agg #[.int .i64 dim, .slice M lists.length d, .int .i64 all.key, .int .i64 all.child, .int .i64 all.agg.n, .int .i64 all.agg.s0, .int .i64 all.agg.l0, .int .i64 all.agg.h0, .int .i64 all.agg.s1, .int .i64 all.agg.l1, .int .i64 all.agg.h1, .int .i64 all.agg.s2, .int .i64 all.agg.l2, .int .i64 all.agg.h2]] (by rfl) HC3.out ?_; rintro e w4 ⟨A4, c4, rfl, hsl4, hb4⟩; refine ⟨_, rfl, ?_⟩; have hB4 : Below w3.heap.size w3 w4 := ⟨hb4.os, hb4.tape, hb4.output, hb4.size, hb4.block⟩; clear hb4; have HB4 := Lib.hid hB4; have n41 : w4.cell? ⟨g, 2, none⟩ = some (.slice NA l.length nc) := (hB4.cell (p := ⟨g, 2, none⟩) zg3).trans r2; have hz4 := hB4.size; have zw4 : g < w4.heap.size := (by omega); have HSL4 : Hid (SlAt w4 (fun b => w3.heap.size ≤ b ∧ b < w4.heap.size) (.slice A4 lists.length c4) lists) := hsl4; clear hsl4 hB4)
            | (refine step_append_el (G := fun b => B ≤ b) _ (by rfl) (.tmp 37) (.tmp 40) _ (by rfl) B 45 i0 _ 128 Try.underlying25 hi hj0 hj1 hj2 rfl (.slice NA l.length nc) l (by rfl) ((HN3.out.below HB4.out).alloc _) (some ⟨w4.heap.size, 0, none⟩) 1 1 [⟨dim, lists, all⟩] (by rfl) rfl (nel_of_new (n := ⟨dim, lists, all⟩) (wr := w3) (by omega) hz4 (fun b hb => (HN3.out.block b hb).2) HD.out HSL4.out HO.out) (by unfold maxLen; omega) (by omega) (by simp; omega) ?_; intro A5 c5 w5 hown5 hg5 hat5; have HK5 : Hid (Kp (fun b => (Value.slice NA l.length nc).ownBlock = some b) w3 w5) := ((Kp.of_below HB4.out).alloc _).grown hg5 (fun k hk => .inl hk); have HO5 := Lib.hid hown5; have hA5 := Lib.hid (A3.out.kp HK5.out (HN3.out.ne A3.out (by decide))); have n51 : w5.cell? ⟨g, 2, none⟩ = some (.slice NA l.length nc) := (by rw [hA5.out.cell]; rfl); have f5 : w5.frozen? ⟨g, 2, none⟩ = false := hA5.out.frozen 2; have hz5 := HK5.out.size; clear hown5 hg5 hat5)
            | fail)
        all_goals
          have hA6 := Lib.hid (hA5.out.set 2 (.slice A5 (l.length + 1) c5))
          have q62 : (w5.setCell ⟨g, 2, none⟩ (.slice A5 (l.length + 1) c5)).cell? ⟨g, 2, none⟩ = some (.slice A5 (l.length + 1) c5) := by rw [hA6.out.cell]; rfl
          have K6 : Hid (Kp (fun b => b = g ∨ B ≤ b) w (w5.setCell ⟨g, 2, none⟩ (.slice A5 (l.length + 1) c5))) := (((Kp.of_below (bon b0.out B3.out)).trans HK5.out (fun b hb e => .inr (HN3.out.block b e).1))).setCell (p := ⟨g, 2, none⟩) (.inl (.inl rfl)) _
          have HO6 := Lib.hid (HO5.out.setCell (p := ⟨g, 2, none⟩) (HO5.out.ne hA5.out (by decide)) (by show ¬ B ≤ g; omega) (.slice A5 (l.length + 1) c5))
          have hz6 := K6.out.size
          generalize w5.setCell ⟨g, 2, none⟩ (.slice A5 (l.length + 1) c5) = w6 at *
          go_wp2
          refine HP2.out _ _ he.out ?_ ⟨SA, sc, A5, c5, ?_, hgB, by omega, HS.out.kp K6.out (fun b hb => by omega), hsc, hsm, ?_⟩ K6.out
          · simp
          · rw [List.length_append]; exact hA6.out
          · rw [List.length_append]; exact HO6.out
  · have hbc : (ce != 0) = true := by simpa using hc
    have he : Hid (ae = ce) := hadd.out.trans (if_pos hc)
    have hc2 := Lib.hid hc
    clear hadd hc HLE
    go_wp2
    exact HP1.out _ _ (by rw [he.out]; exact hc2.out) ⟨by rw [he.out]; rfl, bon b0.out B1.out⟩
end Go.Proofs.Ytgnpihhakogeeaa
