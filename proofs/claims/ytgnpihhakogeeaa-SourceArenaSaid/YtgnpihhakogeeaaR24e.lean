/- node.Clone. -/
import Derived.Test.YtgnpihhakogeeaaSl24
import Derived.Test.YtgnpihhakogeeaaReg
import Derived.Deep.RegionHeld3
import Derived.Deep.RegionLaw
import Derived.Deep.DrawnRows
namespace Go.Proofs.Ytgnpihhakogeeaa
open Go.RowKit
attribute [local go_sem ↓] Go.wp_at_zero Go.wp_at_succ

/-- what a cell holds -/
def cellV (w : World) (p : Addr) : Value := (w.cell? p).getD undef
theorem cellV_is {w : World} {p : Addr} {v : Value} (h : w.cell? p = some v) : w.cell? p = some (cellV w p) := by unfold cellV; rw [h]; rfl
theorem cellV_eq {w : World} {p : Addr} {v : Value} (h : w.cell? p = some v) : cellV w.drew p = v := by unfold cellV; rw [show w.drew.cell? p = w.cell? p from rfl, h]; rfl
theorem cellV_alloc {w : World} {p : Addr} {v : Value} {o : Obj} (h : w.cell? p = some v) (hp : p.block < w.heap.size) : (w.alloc o).cell? p = some (cellV (w.alloc o) p) := cellV_is ((World.cell?_alloc_lt w o p hp).trans h)
theorem cellV_set {w : World} {g i : Nat} {t : TypeId} {cs : List Value} {u : Value} (h : Blk w g t cs) (hi : i < cs.length) : (w.setCell ⟨g, i, none⟩ u).cell? ⟨g, i, none⟩ = some (cellV (w.setCell ⟨g, i, none⟩ u) ⟨g, i, none⟩) := by
  refine cellV_is (v := u) ?_
  rw [(h.set i u).cell, List.getElem?_set_self hi]
theorem kpset {a w : World} {g : Nat} (h : Kp (fun b => b = g) a w) (i : Nat) (u : Value) : Kp (fun b => b = g) a (w.setCell ⟨g, i, none⟩ u) := h.setCell (p := ⟨g, i, none⟩) (.inl rfl) u
theorem cels_info : (Try.prog.info? 83).map (fun i => (i.zero, i.size, i.bytes)) = some (some (.slice none 0 0), Rep.size (List Cel), 24) := by kernel_rfl
theorem OwnG.cel {G : Nat → Prop} {w : World} {base : Nat} {E : TypeId} {v : Value} {l : List Cel} (h : OwnG G w base E v l) : SlAt w (fun b => base ≤ b ∧ b < w.heap.size) v l := by
  obtain ⟨css, h1, h2⟩ := h
  obtain ⟨A, c, rfl, h3, h4⟩ := own_form h1
  exact ⟨A, c, rfl, h3, h4, css, ⟨h2.1, fun i r x hr hx => h2.2 i r x hr hx⟩, Rd.of_own h1⟩
theorem el_made {w0 wr w1 : World} {v : Value} {L : List (List Cel)} {lk : List Cel} {A1 : Option Addr} {n1 c1 : Nat} (hz : w0.heap.size ≤ wr.heap.size) (hz1 : wr.heap.size ≤ w1.heap.size) (h : OwnG (fun b => w0.heap.size ≤ b) wr w0.heap.size 83 v L) (h1 : OwnL w1 wr.heap.size 43 (.slice A1 n1 c1) lk) :
    ElemsAt (w1.alloc (.cells #[.slice A1 n1 c1] 83)) (fun b => w0.heap.size ≤ b ∧ b < (w1.alloc (.cells #[.slice A1 n1 c1] 83)).heap.size ∧ v.ownBlock ≠ some b) (some ⟨w1.heap.size, 0, none⟩) [lk] := by
  have hv : ∀ b, v.ownBlock = some b → b < wr.heap.size := fun b hb => (h.block b hb).2
  refine ElemsAt.made ⟨_, rfl, ?_⟩ ⟨by omega, by simp, fun e => by have := hv _ e; omega⟩
  exact h1.cel.keep (fun p hp => World.cell?_alloc_lt _ _ _ hp.2) (fun b hb => ⟨by omega, by simp; omega, fun e => by have := hv _ e; omega⟩)
/-- a node's value, all in new memory -/
def NewNod (w : World) (n : Nod) (e : Ending) (w' : World) : Prop := ∃ A c, e = .returned (.agg (nodArr n.dim (.slice A n.lists.length c) n.all)) ∧ SlAt w' (fun b => w.heap.size ≤ b ∧ b < w'.heap.size) (.slice A n.lists.length c) n.lists ∧ Below w.heap.size w w'
set_option maxHeartbeats 4000000 in
set_option maxRecDepth 100000 in
theorem nclone_any (n : Nod) (B : Option Addr) (d : Nat) (w : World) (F : Nat → Prop) (h : ElemsAt w F B n.lists) (hF : ∀ b, F b → b < w.heap.size) (hl : leBytes n) (hl3 : n.lists.length ≤ 1000000) :
    Calls Try.prog 66 #[.agg (nodArr n.dim (.slice B n.lists.length d) n.all)] w (NewNod w n) := by
  obtain ⟨dim, lists, all⟩ := n
  obtain ⟨hl1, hl2⟩ := hl
  simp only at h hl1 hl2 hl3 ⊢
  have HE := Lib.hid h
  have HF := Lib.hid hF
  have HL := Lib.hid hl2
  clear h hF hl2 hl1
  obtain ⟨i0, hi, hj0, hj1, hj2⟩ := info_parts cels_info
  unfold nodArr
  go_enter Try.func66, Try.ntmps66
  go_wp2_with fail
  have b0 : Hid (Below w.heap.size w (((w.alloc (.cells #[.int .i64 dim, .slice B lists.length d, .int .i64 all.key, .int .i64 all.child, .int .i64 all.agg.n, .int .i64 all.agg.s0, .int .i64 all.agg.l0, .int .i64 all.agg.h0, .int .i64 all.agg.s1, .int .i64 all.agg.l1, .int .i64 all.agg.h1, .int .i64 all.agg.s2, .int .i64 all.agg.l2, .int .i64 all.agg.h2] 45)).alloc (.cells #[.int .i64 0, .slice none 0 0, .int .i64 0, .int .i64 0, .int .i64 0, .int .i64 0, .int .i64 0, .int .i64 0, .int .i64 0, .int .i64 0, .int .i64 0, .int .i64 0, .int .i64 0, .int .i64 0] 45)).alloc (.cells #[.int .i64 dim, .slice none 0 0, .int .i64 all.key, .int .i64 all.child, .int .i64 all.agg.n, .int .i64 all.agg.s0, .int .i64 all.agg.l0, .int .i64 all.agg.h0, .int .i64 all.agg.s1, .int .i64 all.agg.l1, .int .i64 all.agg.h1, .int .i64 all.agg.s2, .int .i64 all.agg.l2, .int .i64 all.agg.h2] 45))) := ((below2 _ _ _).alloc (by simp; omega) _)
  have s2 : Hid (Blk (((w.alloc (.cells #[.int .i64 dim, .slice B lists.length d, .int .i64 all.key, .int .i64 all.child, .int .i64 all.agg.n, .int .i64 all.agg.s0, .int .i64 all.agg.l0, .int .i64 all.agg.h0, .int .i64 all.agg.s1, .int .i64 all.agg.l1, .int .i64 all.agg.h1, .int .i64 all.agg.s2, .int .i64 all.agg.l2, .int .i64 all.agg.h2] 45)).alloc (.cells #[.int .i64 0, .slice none 0 0, .int .i64 0, .int .i64 0, .int .i64 0, .int .i64 0, .int .i64 0, .int .i64 0, .int .i64 0, .int .i64 0, .int .i64 0, .int .i64 0, .int .i64 0, .int .i64 0] 45)).alloc (.cells #[.int .i64 dim, .slice none 0 0, .int .i64 all.key, .int .i64 all.child, .int .i64 all.agg.n, .int .i64 all.agg.s0, .int .i64 all.agg.l0, .int .i64 all.agg.h0, .int .i64 all.agg.s1, .int .i64 all.agg.l1, .int .i64 all.agg.h1, .int .i64 all.agg.s2, .int .i64 all.agg.l2, .int .i64 all.agg.h2] 45)) (w.heap.size + 1) 45 (#[.int .i64 0, .slice none 0 0, .int .i64 0, .int .i64 0, .int .i64 0, .int .i64 0, .int .i64 0, .int .i64 0, .int .i64 0, .int .i64 0, .int .i64 0, .int .i64 0, .int .i64 0, .int .i64 0]).toList) := by
    have := (Blk.newA (w.alloc (.cells #[.int .i64 dim, .slice B lists.length d, .int .i64 all.key, .int .i64 all.child, .int .i64 all.agg.n, .int .i64 all.agg.s0, .int .i64 all.agg.l0, .int .i64 all.agg.h0, .int .i64 all.agg.s1, .int .i64 all.agg.l1, .int .i64 all.agg.h1, .int .i64 all.agg.s2, .int .i64 all.agg.l2, .int .i64 all.agg.h2] 45)) 45 #[.int .i64 0, .slice none 0 0, .int .i64 0, .int .i64 0, .int .i64 0, .int .i64 0, .int .i64 0, .int .i64 0, .int .i64 0, .int .i64 0, .int .i64 0, .int .i64 0, .int .i64 0, .int .i64 0]).alloc (.cells #[.int .i64 dim, .slice none 0 0, .int .i64 all.key, .int .i64 all.child, .int .i64 all.agg.n, .int .i64 all.agg.s0, .int .i64 all.agg.l0, .int .i64 all.agg.h0, .int .i64 all.agg.s1, .int .i64 all.agg.l1, .int .i64 all.agg.h1, .int .i64 all.agg.s2, .int .i64 all.agg.l2, .int .i64 all.agg.h2] 45)
    rw [World.size_alloc] at this
    exact this
  have s3 : Hid (Blk (((w.alloc (.cells #[.int .i64 dim, .slice B lists.length d, .int .i64 all.key, .int .i64 all.child, .int .i64 all.agg.n, .int .i64 all.agg.s0, .int .i64 all.agg.l0, .int .i64 all.agg.h0, .int .i64 all.agg.s1, .int .i64 all.agg.l1, .int .i64 all.agg.h1, .int .i64 all.agg.s2, .int .i64 all.agg.l2, .int .i64 all.agg.h2] 45)).alloc (.cells #[.int .i64 0, .slice none 0 0, .int .i64 0, .int .i64 0, .int .i64 0, .int .i64 0, .int .i64 0, .int .i64 0, .int .i64 0, .int .i64 0, .int .i64 0, .int .i64 0, .int .i64 0, .int .i64 0] 45)).alloc (.cells #[.int .i64 dim, .slice none 0 0, .int .i64 all.key, .int .i64 all.child, .int .i64 all.agg.n, .int .i64 all.agg.s0, .int .i64 all.agg.l0, .int .i64 all.agg.h0, .int .i64 all.agg.s1, .int .i64 all.agg.l1, .int .i64 all.agg.h1, .int .i64 all.agg.s2, .int .i64 all.agg.l2, .int .i64 all.agg.h2] 45)) (w.heap.size + 1 + 1) 45 (nodArr dim (.slice none 0 0) all).toList) := by
    have := Blk.newA ((w.alloc (.cells #[.int .i64 dim, .slice B lists.length d, .int .i64 all.key, .int .i64 all.child, .int .i64 all.agg.n, .int .i64 all.agg.s0, .int .i64 all.agg.l0, .int .i64 all.agg.h0, .int .i64 all.agg.s1, .int .i64 all.agg.l1, .int .i64 all.agg.h1, .int .i64 all.agg.s2, .int .i64 all.agg.l2, .int .i64 all.agg.h2] 45)).alloc (.cells #[.int .i64 0, .slice none 0 0, .int .i64 0, .int .i64 0, .int .i64 0, .int .i64 0, .int .i64 0, .int .i64 0, .int .i64 0, .int .i64 0, .int .i64 0, .int .i64 0, .int .i64 0, .int .i64 0] 45)) 45 #[.int .i64 dim, .slice none 0 0, .int .i64 all.key, .int .i64 all.child, .int .i64 all.agg.n, .int .i64 all.agg.s0, .int .i64 all.agg.l0, .int .i64 all.agg.h0, .int .i64 all.agg.s1, .int .i64 all.agg.l1, .int .i64 all.agg.h1, .int .i64 all.agg.s2, .int .i64 all.agg.l2, .int .i64 all.agg.h2]
    rw [World.size_alloc, World.size_alloc] at this
    exact this
  generalize ((w.alloc (.cells #[.int .i64 dim, .slice B lists.length d, .int .i64 all.key, .int .i64 all.child, .int .i64 all.agg.n, .int .i64 all.agg.s0, .int .i64 all.agg.l0, .int .i64 all.agg.h0, .int .i64 all.agg.s1, .int .i64 all.agg.l1, .int .i64 all.agg.h1, .int .i64 all.agg.s2, .int .i64 all.agg.l2, .int .i64 all.agg.h2] 45)).alloc (.cells #[.int .i64 0, .slice none 0 0, .int .i64 0, .int .i64 0, .int .i64 0, .int .i64 0, .int .i64 0, .int .i64 0, .int .i64 0, .int .i64 0, .int .i64 0, .int .i64 0, .int .i64 0, .int .i64 0] 45)).alloc (.cells #[.int .i64 dim, .slice none 0 0, .int .i64 all.key, .int .i64 all.child, .int .i64 all.agg.n, .int .i64 all.agg.s0, .int .i64 all.agg.l0, .int .i64 all.agg.h0, .int .i64 all.agg.s1, .int .i64 all.agg.l1, .int .i64 all.agg.h1, .int .i64 all.agg.s2, .int .i64 all.agg.l2, .int .i64 all.agg.h2] 45) = w0 at b0 s2 s3 ⊢
  have z3 : w.heap.size + 1 + 1 < w0.heap.size := s3.out.lt
  have HE0 := Lib.hid (HE.out.below b0.out HF.out)
  have k0 : Hid (Kp (fun b => b = w.heap.size + 1 + 1) w0 w0) := Kp.refl _ _
  go_loopw [14] (fun i wr => ∃ (k : Nat) (A : Option Addr) (c : Nat) (L : List (List Cel)), k ≤ lists.length ∧ i = .int .i64 k ∧ L.length ≤ k ∧ Hid (L = lists.take k) ∧ Hid (Blk wr (w.heap.size + 1 + 1) 45 (nodArr dim (.slice A L.length c) all).toList) ∧ Hid (OwnG (fun b => w0.heap.size ≤ b) wr w0.heap.size 83 (.slice A L.length c) L) ∧ Hid (Kp (fun b => b = w.heap.size + 1 + 1) w0 wr)) (fun i _ => lists.length - (intOf i).toNat)
  case atStart => exact ⟨0, none, 0, [], Nat.zero_le _, rfl, Nat.zero_le _, rfl, s3, OwnG.nil, k0⟩
  case round =>
    obtain ⟨k, A, c, L, hk, rfl, hLk, hL, hB3, hown, hkp⟩ := hrel
    have hzr := hkp.out.size
    have hFr : Hid (∀ b, F b → b < w0.heap.size ∧ ¬ b = w.heap.size + 1 + 1) := fun b hb => by have := HF.out b hb; omega
    have r1 : wr.cell? ⟨w.heap.size + 1 + 1, 1, none⟩ = some (.slice A L.length c) := by rw [hB3.out.cell]; rfl
    have f1 : wr.frozen? ⟨w.heap.size + 1 + 1, 1, none⟩ = false := hB3.out.frozen 1
    have zr : w.heap.size + 1 + 1 < wr.heap.size := by omega
    by_cases hlt : k < lists.length
    · obtain ⟨lb, lo, M, lc, rfl, _, hlb, cl, hlc, hlm, hM⟩ := (HE0.out.kp hkp.out hFr.out).sub hlt
      have hlen : lists[k].length ≤ 100000 := by
        have h1 := flat_snoc lists k hlt
        have h2 := flat_take_le lists (k + 1)
        rw [h1, List.length_append] at h2
        have := HL.out
        omega
      have HS : Hid (L ++ [lists[k]] = lists.take (k + 1)) := by unfold Hid; rw [List.take_succ_eq_append_getElem hlt, hL.out]
      have HC : Hid (∀ W, Below wr.heap.size wr W → Calls Try.prog 89 #[.slice M lists[k].length lc] W (NewL W 43 lists[k])) := by
        intro W hW
        exact clone_cel M lc lists[k] W F (hM.below hW (fun b hb => by have := hFr.out b hb; omega)) (fun b hb => by have := hFr.out b hb; have := hW.size; omega) (by omega)
      clear hM
      generalize lists[k] = lk at *
      go_wp2_with fail
      go_region_law
        (first
          | (refine step_call (by rfl) 89 _ _ (by rfl) Try.f89 Try.func89 (by kernel_rfl) (by kernel_rfl) [.slice M lk.length lc] (by rfl) (HC.out wr.drew (Below.refl _ _).drew) ?_; rintro e w1 ⟨v1, rfl, hown1, hb1⟩; refine ⟨_, rfl, ?_⟩; have hB1 : Below wr.heap.size wr w1 := ⟨hb1.os, hb1.tape, hb1.output, hb1.size, hb1.block⟩; clear hb1; have HB1 := Lib.hid hB1; have n1 : w1.cell? ⟨w.heap.size + 1 + 1, 1, none⟩ = some (.slice A L.length c) := (hB1.cell (p := ⟨w.heap.size + 1 + 1, 1, none⟩) zr).trans r1; have hO1 : OwnL w1 wr.heap.size 43 v1 lk := hown1; have HO1 := Lib.hid hO1; obtain ⟨A1, c1, rfl, _⟩ := hO1.form; have hz1 := hB1.size; have zw1 : w.heap.size + 1 + 1 < w1.heap.size := (by omega); clear hown1 hO1 hB1)
          | (refine step_append_el (G := fun b => w0.heap.size ≤ b) _ (by rfl) (.tmp 19) (.tmp 22) _ (by rfl) w0.heap.size 83 i0 _ 24 Try.underlying36 hi hj0 hj1 hj2 rfl (.slice A L.length c) L (by rfl) ((hown.out.below HB1.out).alloc _) (some ⟨w1.heap.size, 0, none⟩) 1 1 [lk] (by rfl) rfl (el_made hzr hz1 hown.out HO1.out) (by unfold maxLen; omega) (by omega) (by simp; omega) ?_; intro A4 c4 w4 hown4 hg4 hat4; have HK4 : Hid (Kp (fun b => (Value.slice A L.length c).ownBlock = some b) wr w4) := ((Kp.of_below HB1.out).alloc _).grown hg4 (fun k hk => .inl hk); have HO4 := Lib.hid hown4; have hB4 := Lib.hid (hB3.out.kp HK4.out (hown.out.ne hB3.out (by decide))); have n2 : w4.cell? ⟨w.heap.size + 1 + 1, 1, none⟩ = some (.slice A L.length c) := (by rw [hB4.out.cell]; rfl); have f4 : w4.frozen? ⟨w.heap.size + 1 + 1, 1, none⟩ = false := hB4.out.frozen 1; have hz4 := HK4.out.size; clear hown4 hg4 hat4)
          | fail)
      all_goals
        go_wp2
        go_roundw
        case rel =>
          refine ⟨k + 1, A4, c4, L ++ [lk], by omega, by go_num, by simp; omega, HS, ?_, ?_, ?_⟩
          · unfold Hid; rw [List.length_append]; exact hB4.out.set 1 _
          · unfold Hid; rw [List.length_append]; exact HO4.out.setCell (HO4.out.ne hB4.out (by decide)) (by show ¬ w0.heap.size ≤ w.heap.size + 1 + 1; omega) _
          · exact (hkp.out.trans HK4.out (fun b hb e => by have := (hown.out.block b e).1; omega)).setCell (p := ⟨w.heap.size + 1 + 1, 1, none⟩) (.inl rfl) _
        case measure => simp [intOf]; omega
    · have hfin : Hid (L = lists) := by unfold Hid; rw [hL.out, List.take_of_length_le (by omega)]
      have s2r := Lib.hid (s2.out.kp hkp.out (by omega))
      clear r1 f1
      have o0 : wr.cell? ⟨w.heap.size + 1 + 1, 0, none⟩ = some (.int .i64 dim) := by rw [hB3.out.cell]; rfl
      have o1 : wr.cell? ⟨w.heap.size + 1 + 1, 1, none⟩ = some (.slice A L.length c) := by rw [hB3.out.cell]; rfl
      have o2 : wr.cell? ⟨w.heap.size + 1 + 1, 2, none⟩ = some (.int .i64 all.key) := by rw [hB3.out.cell]; rfl
      have o3 : wr.cell? ⟨w.heap.size + 1 + 1, 3, none⟩ = some (.int .i64 all.child) := by rw [hB3.out.cell]; rfl
      have o4 : wr.cell? ⟨w.heap.size + 1 + 1, 4, none⟩ = some (.int .i64 all.agg.n) := by rw [hB3.out.cell]; rfl
      have o5 : wr.cell? ⟨w.heap.size + 1 + 1, 5, none⟩ = some (.int .i64 all.agg.s0) := by rw [hB3.out.cell]; rfl
      have o6 : wr.cell? ⟨w.heap.size + 1 + 1, 6, none⟩ = some (.int .i64 all.agg.l0) := by rw [hB3.out.cell]; rfl
      have o7 : wr.cell? ⟨w.heap.size + 1 + 1, 7, none⟩ = some (.int .i64 all.agg.h0) := by rw [hB3.out.cell]; rfl
      have o8 : wr.cell? ⟨w.heap.size + 1 + 1, 8, none⟩ = some (.int .i64 all.agg.s1) := by rw [hB3.out.cell]; rfl
      have o9 : wr.cell? ⟨w.heap.size + 1 + 1, 9, none⟩ = some (.int .i64 all.agg.l1) := by rw [hB3.out.cell]; rfl
      have o10 : wr.cell? ⟨w.heap.size + 1 + 1, 10, none⟩ = some (.int .i64 all.agg.h1) := by rw [hB3.out.cell]; rfl
      have o11 : wr.cell? ⟨w.heap.size + 1 + 1, 11, none⟩ = some (.int .i64 all.agg.s2) := by rw [hB3.out.cell]; rfl
      have o12 : wr.cell? ⟨w.heap.size + 1 + 1, 12, none⟩ = some (.int .i64 all.agg.l2) := by rw [hB3.out.cell]; rfl
      have o13 : wr.cell? ⟨w.heap.size + 1 + 1, 13, none⟩ = some (.int .i64 all.agg.h2) := by rw [hB3.out.cell]; rfl
      have q0 : wr.cell? ⟨w.heap.size + 1, 0, none⟩ = some (.int .i64 0) := by rw [s2r.out.cell]; rfl
      have p0 : wr.frozen? ⟨w.heap.size + 1, 0, none⟩ = false := s2r.out.frozen 0
      have q1 : wr.cell? ⟨w.heap.size + 1, 1, none⟩ = some (.slice none 0 0) := by rw [s2r.out.cell]; rfl
      have p1 : wr.frozen? ⟨w.heap.size + 1, 1, none⟩ = false := s2r.out.frozen 1
      have q2 : wr.cell? ⟨w.heap.size + 1, 2, none⟩ = some (.int .i64 0) := by rw [s2r.out.cell]; rfl
      have p2 : wr.frozen? ⟨w.heap.size + 1, 2, none⟩ = false := s2r.out.frozen 2
      have q3 : wr.cell? ⟨w.heap.size + 1, 3, none⟩ = some (.int .i64 0) := by rw [s2r.out.cell]; rfl
      have p3 : wr.frozen? ⟨w.heap.size + 1, 3, none⟩ = false := s2r.out.frozen 3
      have q4 : wr.cell? ⟨w.heap.size + 1, 4, none⟩ = some (.int .i64 0) := by rw [s2r.out.cell]; rfl
      have p4 : wr.frozen? ⟨w.heap.size + 1, 4, none⟩ = false := s2r.out.frozen 4
      have q5 : wr.cell? ⟨w.heap.size + 1, 5, none⟩ = some (.int .i64 0) := by rw [s2r.out.cell]; rfl
      have p5 : wr.frozen? ⟨w.heap.size + 1, 5, none⟩ = false := s2r.out.frozen 5
      have q6 : wr.cell? ⟨w.heap.size + 1, 6, none⟩ = some (.int .i64 0) := by rw [s2r.out.cell]; rfl
      have p6 : wr.frozen? ⟨w.heap.size + 1, 6, none⟩ = false := s2r.out.frozen 6
      have q7 : wr.cell? ⟨w.heap.size + 1, 7, none⟩ = some (.int .i64 0) := by rw [s2r.out.cell]; rfl
      have p7 : wr.frozen? ⟨w.heap.size + 1, 7, none⟩ = false := s2r.out.frozen 7
      have q8 : wr.cell? ⟨w.heap.size + 1, 8, none⟩ = some (.int .i64 0) := by rw [s2r.out.cell]; rfl
      have p8 : wr.frozen? ⟨w.heap.size + 1, 8, none⟩ = false := s2r.out.frozen 8
      have q9 : wr.cell? ⟨w.heap.size + 1, 9, none⟩ = some (.int .i64 0) := by rw [s2r.out.cell]; rfl
      have p9 : wr.frozen? ⟨w.heap.size + 1, 9, none⟩ = false := s2r.out.frozen 9
      have q10 : wr.cell? ⟨w.heap.size + 1, 10, none⟩ = some (.int .i64 0) := by rw [s2r.out.cell]; rfl
      have p10 : wr.frozen? ⟨w.heap.size + 1, 10, none⟩ = false := s2r.out.frozen 10
      have q11 : wr.cell? ⟨w.heap.size + 1, 11, none⟩ = some (.int .i64 0) := by rw [s2r.out.cell]; rfl
      have p11 : wr.frozen? ⟨w.heap.size + 1, 11, none⟩ = false := s2r.out.frozen 11
      have q12 : wr.cell? ⟨w.heap.size + 1, 12, none⟩ = some (.int .i64 0) := by rw [s2r.out.cell]; rfl
      have p12 : wr.frozen? ⟨w.heap.size + 1, 12, none⟩ = false := s2r.out.frozen 12
      have q13 : wr.cell? ⟨w.heap.size + 1, 13, none⟩ = some (.int .i64 0) := by rw [s2r.out.cell]; rfl
      have p13 : wr.frozen? ⟨w.heap.size + 1, 13, none⟩ = false := s2r.out.frozen 13
      have z2 : w.heap.size + 1 < wr.heap.size := by omega
      go_wp2
      refine bodyPost_ret (v := .agg (nodArr dim (.slice A L.length c) all)) (by simp [results, Try.results66, go_sem, q0, q1, q2, q3, q4, q5, q6, q7, q8, q9, q10, q11, q12, q13]) rfl ?_
      have hK : ∀ W, Kp (fun b => b = w.heap.size + 1) wr W → NewNod w ⟨dim, lists, all⟩ (.returned (.agg (nodArr dim (.slice A L.length c) all))) W := by
        intro W k
        have hf := hfin.out
        subst hf
        exact ⟨A, c, rfl, (hown.out.slG.kp k (fun b hb => by omega)).more (fun b hb => by have := k.size; omega), b0.out.trans ((hkp.out.to_below (Nat.le_of_lt (by omega)) (fun b hb => by omega)).trans (k.to_below (by omega) (fun b hb => by omega)))⟩
      refine hK _ ?_
      iterate 14 refine kpset ?_ _ _
      exact Kp.refl _ _
end Go.Proofs.Ytgnpihhakogeeaa
