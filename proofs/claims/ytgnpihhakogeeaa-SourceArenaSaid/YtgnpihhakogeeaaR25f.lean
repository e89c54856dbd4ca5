/- Layer 25, the program: Len, Top, Node. -/
import Derived.Test.YtgnpihhakogeeaaR25e
namespace Go.Proofs.Ytgnpihhakogeeaa
open Go.RowKit

theorem alen_yes (g : Nat) (x : Shp) (l : List Nod) (w : World) (h : ArR w g x l) (hx : 1 ≤ x.sizes.length) : Calls Try.prog 56 #[.pointer (some ⟨g, 0, none⟩)] w fun e w' => e = .returned (.int .i64 l.length) ∧ w = w' := by
  obtain ⟨SA, sc, NA, nc, most, ab, _⟩ := h
  have q0 : w.cell? ⟨g, 0, none⟩ = some (.slice SA x.sizes.length sc) := by rw [ab.cell]; rfl
  have q2 : w.cell? ⟨g, 2, none⟩ = some (.slice NA l.length nc) := by rw [ab.cell]; rfl
  clear ab
  go_enter Try.func56, Try.ntmps56
  go_wp2_with (go_at_call 65; refine (there_yes g _ _ _ _ q0 hx).mono ?_; rintro e w1 ⟨rfl, rfl⟩)
  go_ret
  exact ⟨rfl, rfl⟩
theorem alen_no (p : Option Addr) (w : World) (h : NoArena w p) : Calls Try.prog 56 #[.pointer p] w fun e w' => e = .returned (.int .i64 0) ∧ w = w' := by
  have H := Lib.hid h
  clear h
  go_enter Try.func56, Try.ntmps56
  go_wp2_with (go_at_call 65; refine (there_no p _ H.out).mono ?_; rintro e w1 ⟨rfl, rfl⟩)
  go_ret
  exact ⟨rfl, rfl⟩
theorem atop_yes (g : Nat) (x : Shp) (l : List Nod) (w : World) (h : ArR w g x l) (hx : 1 ≤ x.sizes.length) (hl : l.length ≤ 1000000000) : Calls Try.prog 49 #[.pointer (some ⟨g, 0, none⟩)] w fun e w' => e = .returned (.int .i64 ((l.length : Int) - 1)) ∧ w = w' := by
  have H := Lib.hid (alen_yes g x l w h hx)
  clear h
  go_enter Try.func49, Try.ntmps49
  go_wp2_with (go_at_call 56; refine H.out.mono ?_; rintro e w1 ⟨rfl, rfl⟩)
  go_ret
  exact ⟨rfl, rfl⟩
theorem atop_no (p : Option Addr) (w : World) (h : NoArena w p) : Calls Try.prog 49 #[.pointer p] w fun e w' => e = .returned (.int .i64 (-1)) ∧ w = w' := by
  have H := Lib.hid (alen_no p w h)
  clear h
  go_enter Try.func49, Try.ntmps49
  go_wp2_with (go_at_call 56; refine H.out.mono ?_; rintro e w1 ⟨rfl, rfl⟩)
  go_ret
  exact ⟨rfl, rfl⟩

def nod0 : Nod := ⟨0, [], cel0⟩
/-- a node and an error -/
def NodPost (w : World) (n : Nod) (er : Int) (e : Ending) (w' : World) : Prop := ∃ A c, e = .returned (.tuple #[.agg (nodArr n.dim (.slice A n.lists.length c) n.all), .int .i64 er]) ∧ SlAt w' (fun b => w.heap.size ≤ b ∧ b < w'.heap.size) (.slice A n.lists.length c) n.lists ∧ Below w.heap.size w w'
theorem NodPost.zero {w w' : World} {er : Int} (h : Below w.heap.size w w') : NodPost w nod0 er (.returned (.tuple #[.agg #[.int .i64 0, .slice none 0 0, .int .i64 0, .int .i64 0, .int .i64 0, .int .i64 0, .int .i64 0, .int .i64 0, .int .i64 0, .int .i64 0, .int .i64 0, .int .i64 0, .int .i64 0, .int .i64 0], .int .i64 er])) w' := ⟨none, 0, rfl, SlAt.nil, h⟩

set_option maxHeartbeats 1000000 in
set_option maxRecDepth 100000 in
theorem anode_no (p : Option Addr) (i : Int) (w : World) (h : NoArena w p) : Calls Try.prog 48 #[.pointer p, .int .i64 i] w (NodPost w nod0 1) := by
  have H : Hid (NoArena (w.alloc (.cells #[.int .i64 0, .slice none 0 0, .int .i64 0, .int .i64 0, .int .i64 0, .int .i64 0, .int .i64 0, .int .i64 0, .int .i64 0, .int .i64 0, .int .i64 0, .int .i64 0, .int .i64 0, .int .i64 0] 45)) p) := by
    rcases h with rfl | ⟨g, A, c, rfl, h1⟩
    · exact .inl rfl
    · exact .inr ⟨g, A, c, rfl, (World.cell?_alloc_lt _ _ _ (cell_lt h1)).trans h1⟩
  clear h
  go_enter Try.func48, Try.ntmps48
  go_wp2_with (go_at_call 65; refine (there_no p _ H.out).mono ?_; rintro e w1 ⟨rfl, rfl⟩)
  exact bodyPost_ret (v := .tuple #[.agg #[.int .i64 0, .slice none 0 0, .int .i64 0, .int .i64 0, .int .i64 0, .int .i64 0, .int .i64 0, .int .i64 0, .int .i64 0, .int .i64 0, .int .i64 0, .int .i64 0, .int .i64 0, .int .i64 0], .int .i64 1]) (by simp [results, Try.results48, go_sem]) rfl (NodPost.zero (below1 _ _))

set_option maxHeartbeats 4000000 in
set_option maxRecDepth 100000 in
theorem anode_yes (g : Nat) (x : Shp) (l : List Nod) (i : Int) (w : World) (h : ArR w g x l) (hx : 1 ≤ x.sizes.length) (hf : fewNods l) : Calls Try.prog 48 #[.pointer (some ⟨g, 0, none⟩), .int .i64 i] w (NodPost w (if 0 ≤ i ∧ i < l.length then l.getD i.toNat nod0 else nod0) (if 0 ≤ i ∧ i < l.length then 0 else 9)) := by
  obtain ⟨SA, sc, NA, nc, most, ab, _, hN, _, _, hnc, hncm⟩ := h
  have q0 : w.cell? ⟨g, 0, none⟩ = some (.slice SA x.sizes.length sc) := by rw [ab.cell]; rfl
  have q2 : w.cell? ⟨g, 2, none⟩ = some (.slice NA l.length nc) := by rw [ab.cell]; rfl
  have zg := ab.lt
  have HN := Lib.hid hN
  have HF := Lib.hid hf.2
  have hl := hf.1
  clear ab hN hf hncm hnc
  by_cases hr : 0 ≤ i ∧ i < l.length
  · rw [if_pos hr, if_pos hr]
    obtain ⟨k, rfl⟩ := Int.eq_ofNat_of_zero_le hr.1
    have hk : k < l.length := by omega
    obtain ⟨nb, no, NB, nd, rfl, _, hnb, d0, d1, ⟨a0, a1, a2, a3, a4, a5, a6, a7, a8, a9, a10, a11⟩, hdi, hlc1, hlc2, hNB, hok⟩ := HN.out.nod hk
    have hwl := HF.out _ (List.getElem_mem hk)
    have e0 : l.getD (k : Int).toNat nod0 = l[k] := by simp [hk]
    rw [e0]
    have HC : Hid (∀ W, Below w.heap.size w W → Calls Try.prog 66 #[.agg (nodArr l[k].dim (.slice NB l[k].lists.length nd) l[k].all)] W (NewNod W l[k])) := fun W hW =>
      nclone_any l[k] NB nd W (· < w.heap.size) (hNB.below hW (fun b hb => hb)) (fun b hb => by have := hW.size; omega) hwl.1 hwl.2
    have g1 : decide ((k : Int) < 0) = false := by simp
    have g2 : decide ((l.length : Int) ≤ (k : Int)) = false := by simp; omega
    have g3 : decide (l.length ≤ k) = false := by simp; omega
    clear e0 hr hwl hNB hdi hok hlc1 hlc2
    generalize l[k] = n at *
    obtain ⟨dim, lists, all⟩ := n
    simp only at d0 d1 a0 a1 a2 a3 a4 a5 a6 a7 a8 a9 a10 a11 HC
    unfold nodArr at HC
    have b0 : Hid (Below w.heap.size w (w.alloc (.cells #[.int .i64 0, .slice none 0 0, .int .i64 0, .int .i64 0, .int .i64 0, .int .i64 0, .int .i64 0, .int .i64 0, .int .i64 0, .int .i64 0, .int .i64 0, .int .i64 0, .int .i64 0, .int .i64 0] 45))) := below1 _ _
    have s0 : Hid (Blk (w.alloc (.cells #[.int .i64 0, .slice none 0 0, .int .i64 0, .int .i64 0, .int .i64 0, .int .i64 0, .int .i64 0, .int .i64 0, .int .i64 0, .int .i64 0, .int .i64 0, .int .i64 0, .int .i64 0, .int .i64 0] 45)) w.heap.size 45 (#[.int .i64 0, .slice none 0 0, .int .i64 0, .int .i64 0, .int .i64 0, .int .i64 0, .int .i64 0, .int .i64 0, .int .i64 0, .int .i64 0, .int .i64 0, .int .i64 0, .int .i64 0, .int .i64 0]).toList) := Blk.newA _ _ _
    go_enter Try.func48, Try.ntmps48
    go_wp2_with (go_at_call 65; refine (there_yes g x.sizes.length sc SA _ ((World.cell?_alloc_lt _ _ _ zg).trans q0) hx).mono ?_; rintro e w' ⟨rfl, rfl⟩)
    refine (HC.out _ b0.out).mono ?_
    rintro e w1 ⟨A1, c1, rfl, hsl1, hb1⟩
    have s1 := Lib.hid (s0.out.below hb1 s0.out.lt)
    have B1 : Hid (Below w.heap.size w w1) := bon b0.out hb1
    have hz := hb1.size
    have hz0 : w.heap.size < w1.heap.size := s1.out.lt
    have HSL1 : Hid (SlAt w1 (fun b => w.heap.size < b ∧ b < w1.heap.size) (.slice A1 lists.length c1) lists) := hsl1.more (fun b hb => by have := s0.out.lt; omega)
    clear hsl1 hb1 s0 b0 HC
    have q0' : w1.cell? ⟨w.heap.size, 0, none⟩ = some (.int .i64 0) := by rw [s1.out.cell]; rfl
    have p0 : w1.frozen? ⟨w.heap.size, 0, none⟩ = false := s1.out.frozen 0
    have q1' : w1.cell? ⟨w.heap.size, 1, none⟩ = some (.slice none 0 0) := by rw [s1.out.cell]; rfl
    have p1 : w1.frozen? ⟨w.heap.size, 1, none⟩ = false := s1.out.frozen 1
    have q2' : w1.cell? ⟨w.heap.size, 2, none⟩ = some (.int .i64 0) := by rw [s1.out.cell]; rfl
    have p2 : w1.frozen? ⟨w.heap.size, 2, none⟩ = false := s1.out.frozen 2
    have q3' : w1.cell? ⟨w.heap.size, 3, none⟩ = some (.int .i64 0) := by rw [s1.out.cell]; rfl
    have p3 : w1.frozen? ⟨w.heap.size, 3, none⟩ = false := s1.out.frozen 3
    have q4' : w1.cell? ⟨w.heap.size, 4, none⟩ = some (.int .i64 0) := by rw [s1.out.cell]; rfl
    have p4 : w1.frozen? ⟨w.heap.size, 4, none⟩ = false := s1.out.frozen 4
    have q5' : w1.cell? ⟨w.heap.size, 5, none⟩ = some (.int .i64 0) := by rw [s1.out.cell]; rfl
    have p5 : w1.frozen? ⟨w.heap.size, 5, none⟩ = false := s1.out.frozen 5
    have q6' : w1.cell? ⟨w.heap.size, 6, none⟩ = some (.int .i64 0) := by rw [s1.out.cell]; rfl
    have p6 : w1.frozen? ⟨w.heap.size, 6, none⟩ = false := s1.out.frozen 6
    have q7' : w1.cell? ⟨w.heap.size, 7, none⟩ = some (.int .i64 0) := by rw [s1.out.cell]; rfl
    have p7 : w1.frozen? ⟨w.heap.size, 7, none⟩ = false := s1.out.frozen 7
    have q8' : w1.cell? ⟨w.heap.size, 8, none⟩ = some (.int .i64 0) := by rw [s1.out.cell]; rfl
    have p8 : w1.frozen? ⟨w.heap.size, 8, none⟩ = false := s1.out.frozen 8
    have q9' : w1.cell? ⟨w.heap.size, 9, none⟩ = some (.int .i64 0) := by rw [s1.out.cell]; rfl
    have p9 : w1.frozen? ⟨w.heap.size, 9, none⟩ = false := s1.out.frozen 9
    have q10' : w1.cell? ⟨w.heap.size, 10, none⟩ = some (.int .i64 0) := by rw [s1.out.cell]; rfl
    have p10 : w1.frozen? ⟨w.heap.size, 10, none⟩ = false := s1.out.frozen 10
    have q11' : w1.cell? ⟨w.heap.size, 11, none⟩ = some (.int .i64 0) := by rw [s1.out.cell]; rfl
    have p11 : w1.frozen? ⟨w.heap.size, 11, none⟩ = false := s1.out.frozen 11
    have q12' : w1.cell? ⟨w.heap.size, 12, none⟩ = some (.int .i64 0) := by rw [s1.out.cell]; rfl
    have p12 : w1.frozen? ⟨w.heap.size, 12, none⟩ = false := s1.out.frozen 12
    have q13' : w1.cell? ⟨w.heap.size, 13, none⟩ = some (.int .i64 0) := by rw [s1.out.cell]; rfl
    have p13 : w1.frozen? ⟨w.heap.size, 13, none⟩ = false := s1.out.frozen 13
    go_wp2
    refine bodyPost_ret (v := .tuple #[.agg (nodArr dim (.slice A1 lists.length c1) all), .int .i64 0]) (by simp [results, Try.results48, go_sem, q0', q1', q2', q3', q4', q5', q6', q7', q8', q9', q10', q11', q12', q13']) rfl ?_
    have hK : ∀ W, Kp (fun b => b = w.heap.size) w1 W → NodPost w ⟨dim, lists, all⟩ 0 (.returned (.tuple #[.agg (nodArr dim (.slice A1 lists.length c1) all), .int .i64 0])) W := by
      intro W k
      exact ⟨A1, c1, rfl, (HSL1.out.kp k (fun b hb => by omega)).more (fun b hb => by have := k.size; omega), B1.out.trans (k.to_below B1.out.size (fun b hb => by omega))⟩
    refine hK _ ?_
    iterate 14 refine kpset ?_ _ _
    exact Kp.refl _ _
  · rw [if_neg hr, if_neg hr]
    by_cases h0 : i < 0
    · clear hr
      go_enter Try.func48, Try.ntmps48
      go_wp2_with (go_at_call 65; refine (there_yes g x.sizes.length sc SA _ ((World.cell?_alloc_lt _ _ _ zg).trans q0) hx).mono ?_; rintro e w' ⟨rfl, rfl⟩)
      exact bodyPost_ret (v := .tuple #[.agg #[.int .i64 0, .slice none 0 0, .int .i64 0, .int .i64 0, .int .i64 0, .int .i64 0, .int .i64 0, .int .i64 0, .int .i64 0, .int .i64 0, .int .i64 0, .int .i64 0, .int .i64 0, .int .i64 0], .int .i64 9]) (by simp [results, Try.results48, go_sem]) rfl (NodPost.zero (below1 _ _))
    · have g1 : decide (i < 0) = false := by simpa using h0
      have g2 : (l.length : Int) ≤ i := by omega
      clear hr h0
      go_enter Try.func48, Try.ntmps48
      go_wp2_with (go_at_call 65; refine (there_yes g x.sizes.length sc SA _ ((World.cell?_alloc_lt _ _ _ zg).trans q0) hx).mono ?_; rintro e w' ⟨rfl, rfl⟩)
      exact bodyPost_ret (v := .tuple #[.agg #[.int .i64 0, .slice none 0 0, .int .i64 0, .int .i64 0, .int .i64 0, .int .i64 0, .int .i64 0, .int .i64 0, .int .i64 0, .int .i64 0, .int .i64 0, .int .i64 0, .int .i64 0, .int .i64 0], .int .i64 9]) (by simp [results, Try.results48, go_sem]) rfl (NodPost.zero (below1 _ _))
end Go.Proofs.Ytgnpihhakogeeaa
