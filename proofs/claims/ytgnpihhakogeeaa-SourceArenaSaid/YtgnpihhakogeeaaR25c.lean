/- Layer 25, the program: leads. -/
import Derived.Test.YtgnpihhakogeeaaP25b
import Derived.Test.YtgnpihhakogeeaaR25b
namespace Go.Proofs.Ytgnpihhakogeeaa
open Go.RowKit

/-- an arena that calls made: its block g, its own blocks from B on -/
def ArM (w : World) (B g : Nat) (x : Shp) (most : Int) (l : List Nod) : Prop :=
  ∃ SA sc NA nc, Blk w g 75 [.slice SA x.sizes.length sc, .int .i64 x.measures, .slice NA l.length nc, .int .i64 most] ∧ g < B ∧ B ≤ w.heap.size ∧ ElemsAt w (fun b => b < B ∧ b ≠ g) SA x.sizes ∧ x.sizes.length ≤ sc ∧ sc ≤ maxLen ∧
    OwnG (fun b => B ≤ b) w B 45 (.slice NA l.length nc) l
theorem ArM.below {w w' : World} {B g : Nat} {x : Shp} {most : Int} {l : List Nod} (h : ArM w B g x most l) (k : Below w.heap.size w w') : ArM w' B g x most l := by
  obtain ⟨SA, sc, NA, nc, h1, h2, h3, h4, h5, h6, h7⟩ := h
  exact ⟨SA, sc, NA, nc, h1.below k (by omega), h2, Nat.le_trans h3 k.size, h4.below k (fun b hb => by omega), h5, h6, h7.below k⟩

set_option maxHeartbeats 2000000 in
set_option maxRecDepth 100000 in
theorem leads1_any (ba bn g nc : Nat) (NA : Option Addr) (l : List Nod) (dim : Int) (c : Cel) (w : World) (F : Nat → Prop) (h1 : w.cell? ⟨ba, 0, none⟩ = some (.pointer (some ⟨g, 0, none⟩))) (h2 : w.cell? ⟨bn, 0, none⟩ = some (.int .i64 dim)) (h3 : w.cell? ⟨g, 2, none⟩ = some (.slice NA l.length nc)) (he : ElemsAt w F NA l)
    (hc : 0 ≤ c.child) (hd0 : 0 ≤ dim) (hd1 : dim < 1000000) (hl : l.length ≤ maxLen) :
    Calls Try.prog 101 #[.agg c.arr, .pointer (some ⟨ba, 0, none⟩), .pointer (some ⟨bn, 0, none⟩)] w (RetV w (.bool (leadB l dim c))) := by
  have za := cell_lt h1
  have zn := cell_lt h2
  have zg := cell_lt h3
  simp only at za zn zg
  have HE := Lib.hid he
  clear he
  unfold maxLen at hl
  obtain ⟨key, child, agg⟩ := c
  simp only at hc
  obtain ⟨i, rfl⟩ := Int.eq_ofNat_of_zero_le hc
  unfold Cel.arr
  simp only
  by_cases hi : i < l.length
  · obtain ⟨nb, no, N', nc', rfl, _, hnb, d0, _⟩ := HE.out.nod hi
    have hfin : Hid (leadB l dim ⟨key, i, agg⟩ = (l[i].dim == dim + 1)) := by
      unfold Hid leadB
      simp only
      rw [decide_eq_true (by omega)]
      simp [hi]
      rfl
    generalize l[i].dim = di at *
    have g1 : decide ((i : Int) < (l.length : Int)) = true := by simp; omega
    have g2 : decide (i < l.length) = true := by simp; omega
    go_enter Try.func101, Try.ntmps101
    go_wp2
    go_quiet (fail)
    go_wp2
    go_ret
    exact ⟨by rw [hfin.out]; rfl, below_drewN (below1 _ _) _⟩
  · have hfin : Hid (leadB l dim ⟨key, i, agg⟩ = false) := by
      unfold Hid leadB
      simp only
      rw [decide_eq_false (by omega)]; rfl
    have g1 : decide ((i : Int) < (l.length : Int)) = false := by simp; omega
    have g2 : decide (i < l.length) = false := by simp; omega
    clear hi
    go_enter Try.func101, Try.ntmps101
    go_wp2
    go_quiet (fail)
    go_wp2
    go_ret
    exact ⟨by rw [hfin.out]; rfl, below_drewN (below1 _ _) _⟩

set_option maxHeartbeats 4000000 in
set_option maxRecDepth 100000 in
theorem leads_any (B g : Nat) (x : Shp) (most : Int) (l : List Nod) (n : Nod) (M : Option Addr) (d : Nat) (w : World) (F : Nat → Prop) (ha : ArM w B g x most l) (hn : ElemsAt w F M n.lists) (ho : n.all.ok) (hF : ∀ b, F b → b < w.heap.size) (hlb : leBytes n) (hck : checkErr x n = 0) (hl : l.length ≤ maxLen) (hx : x.sizes.length ≤ 1000) :
    Calls Try.prog 76 #[.pointer (some ⟨g, 0, none⟩), .agg (nodArr n.dim (.slice M n.lists.length d) n.all)] w (RetV w (.bool (leadsB x l n))) := by
  have hd0 := (check_dim hck).1
  have hd1 := (check_dim hck).2.1
  have hch := check_child hck
  have hsp := leadsB_eq x l n
  obtain ⟨SA, sc, NA, nc, ab, hgB, hBw, hS, hsc, hsm, hN⟩ := ha
  have HEA : Hid (∀ W, Below w.heap.size w W → Calls Try.prog 84 #[.agg (nodArr n.dim (.slice M n.lists.length d) n.all)] W (NewL W 43 (each n))) := fun W hW => each_any n M d W F (hn.below hW hF) ho (fun b hb => by have := hF b hb; have := hW.size; omega) hlb
  have HNL : Hid (ElemsAt w (· < w.heap.size) NA l) := by
    obtain ⟨A', c', e, _, _, h⟩ := hN.sl
    injection e with e1 e2 e3
    rw [e1]; exact h
  generalize each n = E at *
  obtain ⟨dim, lists, all⟩ := n
  simp only at *
  have AB := Lib.hid ab
  have g0 := ab.lt
  have HSP := Lib.hid hsp
  have HCH := Lib.hid hch
  clear hsp hch
  clear hck hN hS ab hn ho hF hlb
  have b0 : Hid (Below w.heap.size w ((w.alloc (.cells #[.pointer (some ⟨g, 0, none⟩)] 30)).alloc (.cells (nodArr dim (.slice M lists.length d) all) 45))) := below2 _ _ _
  have s0 : Hid (Blk ((w.alloc (.cells #[.pointer (some ⟨g, 0, none⟩)] 30)).alloc (.cells (nodArr dim (.slice M lists.length d) all) 45)) w.heap.size 30 [.pointer (some ⟨g, 0, none⟩)]) := (Blk.new _ _ _).alloc _
  have s1 : Hid (Blk ((w.alloc (.cells #[.pointer (some ⟨g, 0, none⟩)] 30)).alloc (.cells (nodArr dim (.slice M lists.length d) all) 45)) (w.heap.size + 1) 45 (nodArr dim (.slice M lists.length d) all).toList) := by
    have := Blk.newA (w.alloc (.cells #[.pointer (some ⟨g, 0, none⟩)] 30)) 45 (nodArr dim (.slice M lists.length d) all)
    rw [World.size_alloc] at this
    exact this
  unfold nodArr at *
  go_enter Try.func76, Try.ntmps76
  go_wp2_with fail
  generalize (w.alloc (.cells #[.pointer (some ⟨g, 0, none⟩)] 30)).alloc _ = w0 at b0 s0 s1 ⊢
  have AB0 := Lib.hid (AB.out.below b0.out g0)
  have HNL0 := Lib.hid (HNL.out.below b0.out (fun b hb => hb))
  have z0 : w.heap.size < w0.heap.size := s0.out.lt
  have z1 : w.heap.size + 1 < w0.heap.size := s1.out.lt
  have zg : g < w0.heap.size := by omega
  have p0 : w0.cell? ⟨w.heap.size, 0, none⟩ = some (.pointer (some ⟨g, 0, none⟩)) := by rw [s0.out.cell]; rfl
  have n0 : w0.cell? ⟨w.heap.size + 1, 0, none⟩ = some (.int .i64 dim) := by rw [s1.out.cell]; rfl
  have q0 : w0.cell? ⟨g, 0, none⟩ = some (.slice SA x.sizes.length sc) := by rw [AB0.out.cell]; rfl
  have q1 : w0.cell? ⟨g, 1, none⟩ = some (.int .i64 x.measures) := by rw [AB0.out.cell]; rfl
  have q2 : w0.cell? ⟨g, 2, none⟩ = some (.slice NA l.length nc) := by rw [AB0.out.cell]; rfl
  clear AB HNL
  have HLA : Hid (∀ W, Calls Try.prog 83 #[.agg #[.slice SA x.sizes.length sc, .int .i64 x.measures], .int .i64 dim] W (RetV W (.bool (lastB x dim)))) := fun W => last_any SA sc x dim W (by unfold maxLen; omega)
  cases hlast : lastB x dim with
  | true =>
    rw [hlast] at HLA
    have hfin : Hid (leadsB x l ⟨dim, lists, all⟩ = true) := by unfold Hid; rw [HSP.out, hlast]; rfl
    clear hlast HSP
    go_still_tail 6, (by kernel_rfl)
    change wpList _ _ _ _ _ w0.drew
    go_wp2_with (go_at_call 83; refine (HLA.out _).mono ?_; rintro e w1 h1; obtain ⟨rfl, hb1, hz1, hc1, hf1⟩ := h1.imp; clear h1)
    go_ret
    exact ⟨by rw [hfin.out]; rfl, bon b0.out (bon (Below.refl _ _).drew hb1)⟩
  | false =>
    rw [hlast] at HLA
    have hfin : Hid (leadsB x l ⟨dim, lists, all⟩ = E.all (leadB l dim)) := by unfold Hid; rw [HSP.out, hlast]; rfl
    have HC2 := Lib.hid (HCH.out hlast)
    clear hlast HSP HCH
    go_still_tail 6, (by kernel_rfl)
    change wpList _ _ _ _ _ w0.drew
    go_wp2_with fail
    refine (HLA.out _).mono ?_
    rintro e w1 h1
    obtain ⟨rfl, hb1, _, _, _⟩ := h1.imp
    have B1 : Hid (Below w0.heap.size w0 w1) := bon (Below.refl _ _).drew hb1
    have hz1 := B1.out.size
    clear h1 hb1
    have s1r := Lib.hid (s1.out.below B1.out z1)
    have m0 : w1.cell? ⟨w.heap.size + 1, 0, none⟩ = some (.int .i64 dim) := by rw [s1r.out.cell]; rfl
    have m1 : w1.cell? ⟨w.heap.size + 1, 1, none⟩ = some (.slice M lists.length d) := by rw [s1r.out.cell]; rfl
    have m2 : w1.cell? ⟨w.heap.size + 1, 2, none⟩ = some (.int .i64 all.key) := by rw [s1r.out.cell]; rfl
    have m3 : w1.cell? ⟨w.heap.size + 1, 3, none⟩ = some (.int .i64 all.child) := by rw [s1r.out.cell]; rfl
    have m4 : w1.cell? ⟨w.heap.size + 1, 4, none⟩ = some (.int .i64 all.agg.n) := by rw [s1r.out.cell]; rfl
    have m5 : w1.cell? ⟨w.heap.size + 1, 5, none⟩ = some (.int .i64 all.agg.s0) := by rw [s1r.out.cell]; rfl
    have m6 : w1.cell? ⟨w.heap.size + 1, 6, none⟩ = some (.int .i64 all.agg.l0) := by rw [s1r.out.cell]; rfl
    have m7 : w1.cell? ⟨w.heap.size + 1, 7, none⟩ = some (.int .i64 all.agg.h0) := by rw [s1r.out.cell]; rfl
    have m8 : w1.cell? ⟨w.heap.size + 1, 8, none⟩ = some (.int .i64 all.agg.s1) := by rw [s1r.out.cell]; rfl
    have m9 : w1.cell? ⟨w.heap.size + 1, 9, none⟩ = some (.int .i64 all.agg.l1) := by rw [s1r.out.cell]; rfl
    have m10 : w1.cell? ⟨w.heap.size + 1, 10, none⟩ = some (.int .i64 all.agg.h1) := by rw [s1r.out.cell]; rfl
    have m11 : w1.cell? ⟨w.heap.size + 1, 11, none⟩ = some (.int .i64 all.agg.s2) := by rw [s1r.out.cell]; rfl
    have m12 : w1.cell? ⟨w.heap.size + 1, 12, none⟩ = some (.int .i64 all.agg.l2) := by rw [s1r.out.cell]; rfl
    have m13 : w1.cell? ⟨w.heap.size + 1, 13, none⟩ = some (.int .i64 all.agg.h2) := by rw [s1r.out.cell]; rfl
    have HL1 : Hid (∀ (c : Cel) (W : World), Below w0.heap.size w0 W → 0 ≤ c.child → Calls Try.prog 101 #[.agg c.arr, .pointer (some ⟨w.heap.size, 0, none⟩), .pointer (some ⟨w.heap.size + 1, 0, none⟩)] W (RetV W (.bool (leadB l dim c)))) := by
      intro c W hW hc
      exact leads1_any w.heap.size (w.heap.size + 1) g nc NA l dim c W _ ((hW.cell (p := ⟨w.heap.size, 0, none⟩) z0).trans p0) ((hW.cell (p := ⟨w.heap.size + 1, 0, none⟩) z1).trans n0) ((hW.cell (p := ⟨g, 2, none⟩) zg).trans q2) (HNL0.out.below hW (fun b hb => by omega)) hc hd0 (by omega) hl
    clear p0 n0 q0 q1 q2
    go_wp2_with fail
    refine (HEA.out w1 (b0.out.trans (B1.out.mono (by omega)))).mono ?_
    rintro e w2 ⟨v2, rfl, hown2, hb2⟩
    have B2 : Hid (Below w0.heap.size w0 w2) := bon B1.out hb2
    obtain ⟨A2, c2, rfl, hEc, hcm⟩ := hown2.form
    have HE2 : Hid (ElemsAt w2 (· < w2.heap.size) A2 E) := by
      obtain ⟨A', c', e, _, _, h⟩ := hown2.sl
      injection e with e1 e2 e3
      rw [e1]; exact h
    have hEl : E.length ≤ 9223372036854775807 := by unfold maxLen at hcm; omega
    have hz2 := hb2.size
    clear hown2 hb2 hEc hcm m0 m1 m2 m3 m4 m5 m6 m7 m8 m9 m10 m11 m12 m13 s1r
    have k0 : Hid (Below w2.heap.size w2 w2) := Below.refl _ _
    have hf0 : Hid (leadsB x l ⟨dim, lists, all⟩ = (E.drop 0).all (leadB l dim)) := hfin
    go_wp2_with fail
    go_loopw [19] (fun i wr => ∃ j : Nat, j ≤ E.length ∧ i = .int .i64 j ∧ Hid (leadsB x l ⟨dim, lists, all⟩ = (E.drop j).all (leadB l dim)) ∧ Hid (Below w2.heap.size w2 wr)) (fun i _ => E.length - (intOf i).toNat)
    case atStart => exact ⟨0, Nat.zero_le _, rfl, hf0, k0⟩
    case round =>
      clear hf0 hfin
      obtain ⟨j, hj, rfl, ht, hbr⟩ := hrel
      have hzr := hbr.out.size
      by_cases hjl : j < E.length
      · obtain ⟨cb, co, rfl, _, hcb, ⟨e0, e1, e2, e3, e4, e5, e6, e7, e8, e9, e10, e11⟩, _⟩ := (HE2.out.below hbr.out (fun b hb => hb)).cel hjl
        have hch := HC2.out _ (List.getElem_mem hjl)
        have HT : Hid (leadsB x l ⟨dim, lists, all⟩ = (leadB l dim E[j] && (E.drop (j + 1)).all (leadB l dim))) := by unfold Hid; rw [ht.out, List.drop_eq_getElem_cons hjl, List.all_cons]
        have HLL := Lib.hid (HL1.out E[j] (wr.alloc (.cells E[j].arr 43)) (bon B2.out (bon hbr.out (below1 _ _))) hch)
        clear ht hch
        generalize E[j] = c at *
        unfold Cel.arr at *
        cases hld : leadB l dim c with
        | false =>
          rw [hld] at HT HLL
          go_wp2_with (go_at_call 101; refine (HLL.out).mono ?_; rintro e w3 h3; obtain ⟨rfl, hb3, hz3, hc3, hf3⟩ := h3.imp; clear h3)
          go_ret
          exact ⟨by rw [HT.out]; rfl, bon b0.out (bon B2.out (bon hbr.out (bon (below1 _ _) hb3)))⟩
        | true =>
          rw [hld] at HT HLL
          go_wp2_with (go_at_call 101; refine (HLL.out).mono ?_; rintro e w3 h3; obtain ⟨rfl, hb3, hz3, hc3, hf3⟩ := h3.imp; clear h3)
          go_roundw
          case rel => exact ⟨j + 1, by omega, by go_num, HT.out, bon hbr.out (bon (below1 _ _) hb3)⟩
          case measure => simp [intOf]; omega
      · have hf2 : Hid (leadsB x l ⟨dim, lists, all⟩ = true) := by unfold Hid; rw [ht.out, List.drop_eq_nil_of_le (by omega)]; rfl
        go_wp2
        go_ret
        exact ⟨by rw [hf2.out]; rfl, bon b0.out (bon B2.out hbr.out)⟩
end Go.Proofs.Ytgnpihhakogeeaa
