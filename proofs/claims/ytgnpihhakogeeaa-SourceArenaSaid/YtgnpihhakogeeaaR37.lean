/- Layer 37, the program: a source of an arena. -/
import Derived.Test.YtgnpihhakogeeaaF24b
namespace Go.Proofs.Ytgnpihhakogeeaa
open Go.RowKit

theorem fn_nil0 (d : Nat) (w : World) (f : FuncId) (a b : Array Value) : (Op.equalIn (d + 1) 47 (.func (.func f) a b) .nilFunc).run Try.prog w = .ok false w := by
  simp [Op.equalIn, run_underlying Try.underlying47]
theorem fn_nil (w : World) (f : FuncId) (a b : Array Value) : (binOp .eql 47 (.func (.func f) a b) .nilFunc).run Try.prog w = .ok (.bool false) w := by
  simp only [binOp]
  have h := fn_nil0 9999 w f a b
  simp only [Nat.reduceAdd] at h
  unfold Op.equal Op.maxDepth
  simp only [Sem.run_bind, h, Result.andThen_ok, Sem.run_pure]
theorem ArR.kp {w w' : World} {S : Nat → Prop} {g : Nat} {x : Shp} {l : List Nod} (h : ArR w g x l) (k : Kp S w w') (hS : ∀ b, b < w.heap.size → ¬ S b) : ArR w' g x l :=
  h.below (k.to_below (Nat.le_refl _) hS)
/-- the source of an arena, so often read -/
def srcCells (g : Nat) (top reads : Int) : List Value := [.func (.func 48) #[.pointer (some ⟨g, 0, none⟩)] #[], .int .i64 top, .int .i64 reads]
def SrcPost (w : World) (g : Nat) (top : Int) (e : Ending) (w' : World) : Prop := ∃ gs, e = .returned (.pointer (some ⟨gs, 0, none⟩)) ∧ w.heap.size ≤ gs ∧ Blk w' gs 87 (srcCells g top 0) ∧ Below w.heap.size w w'
theorem sarena_yes (g : Nat) (x : Shp) (l : List Nod) (w : World) (h : ArR w g x l) (hx : 1 ≤ x.sizes.length) (hl : l.length ≤ 1000000000) : Calls Try.prog 15 #[.pointer (some ⟨g, 0, none⟩)] w (SrcPost w g ((l.length : Int) - 1)) := by
  have H := Lib.hid (atop_yes g x l w h hx hl)
  clear h
  go_enter Try.func15, Try.ntmps15
  go_wp2_with (go_at_call 49; refine H.out.mono ?_; rintro e w1 ⟨rfl, rfl⟩)
  go_ret
  exact ⟨w.heap.size, rfl, Nat.le_refl _, Blk.new w 87 (srcCells g ((l.length : Int) - 1) 0), below1 _ _⟩
set_option maxRecDepth 100000 in
theorem stop_yes (gs g : Nat) (top reads : Int) (w : World) (h : Blk w gs 87 (srcCells g top reads)) : Calls Try.prog 18 #[.pointer (some ⟨gs, 0, none⟩)] w fun e w' => e = .returned (.int .i64 top) ∧ w = w' := by
  have c0 : w.cell? ⟨gs, 0, none⟩ = some (.func (.func 48) #[.pointer (some ⟨g, 0, none⟩)] #[]) := by rw [h.cell]; rfl
  have c1 : w.cell? ⟨gs, 1, none⟩ = some (.int .i64 top) := by rw [h.cell]; rfl
  clear h
  have hfn := fn_nil
  go_enter Try.func18, Try.ntmps18
  go_wp2
  go_ret
  exact ⟨rfl, rfl⟩
set_option maxRecDepth 100000 in
theorem sreads_yes (gs g : Nat) (top reads : Int) (w : World) (h : Blk w gs 87 (srcCells g top reads)) : Calls Try.prog 19 #[.pointer (some ⟨gs, 0, none⟩)] w fun e w' => e = .returned (.int .i64 reads) ∧ w = w' := by
  have c2 : w.cell? ⟨gs, 2, none⟩ = some (.int .i64 reads) := by rw [h.cell]; rfl
  clear h
  go_enter Try.func19, Try.ntmps19
  go_wp2
  go_ret
  exact ⟨rfl, rfl⟩

def SNodPost (w : World) (gs g : Nat) (top reads : Int) (n : Nod) (er : Int) (e : Ending) (w' : World) : Prop := ∃ A c, e = .returned (.tuple #[.agg (nodArr n.dim (.slice A n.lists.length c) n.all), .int .i64 er]) ∧ SlAt w' (fun b => w.heap.size ≤ b ∧ b < w'.heap.size) (.slice A n.lists.length c) n.lists ∧ Kp (fun b => b = gs) w w' ∧ Blk w' gs 87 (srcCells g top (reads + 1))
set_option maxHeartbeats 4000000 in
set_option maxRecDepth 100000 in
theorem snode_yes (gs g : Nat) (top reads : Int) (x : Shp) (l : List Nod) (i : Int) (w w0 : World) (h : Blk w gs 87 (srcCells g top reads)) (ha : ArR w0 g x l) (hk : Kp (fun b => b = gs) w0 w) (hgs : w0.heap.size ≤ gs) (hx : 1 ≤ x.sizes.length) (hf : fewNods l) (hr0 : 0 ≤ reads) (hr1 : reads ≤ 1000000) :
    Calls Try.prog 16 #[.pointer (some ⟨gs, 0, none⟩), .int .i64 i] w (SNodPost w gs g top reads (if 0 ≤ i ∧ i < l.length then l.getD i.toNat nod0 else nod0) (if 0 ≤ i ∧ i < l.length then 0 else 9)) := by
  have c0 : w.cell? ⟨gs, 0, none⟩ = some (.func (.func 48) #[.pointer (some ⟨g, 0, none⟩)] #[]) := by rw [h.cell]; rfl
  have c2 : w.cell? ⟨gs, 2, none⟩ = some (.int .i64 reads) := by rw [h.cell]; rfl
  have f2 : w.frozen? ⟨gs, 2, none⟩ = false := h.frozen 2
  have zg := h.lt
  have HB := Lib.hid h
  clear h
  have kz : Hid (Kp (fun b => b = gs) w ((w.setCell ⟨gs, 2, none⟩ (.int .i64 (reads + 1))).alloc (.cells #[.int .i64 0, .slice none 0 0, .int .i64 0, .int .i64 0, .int .i64 0, .int .i64 0, .int .i64 0, .int .i64 0, .int .i64 0, .int .i64 0, .int .i64 0, .int .i64 0, .int .i64 0, .int .i64 0] 45))) := by unfold Hid; exact ((Kp.refl (fun b => b = gs) w).setCell (p := ⟨gs, 2, none⟩) (.inl rfl) _).alloc _
  have bz : Hid (Blk ((w.setCell ⟨gs, 2, none⟩ (.int .i64 (reads + 1))).alloc (.cells #[.int .i64 0, .slice none 0 0, .int .i64 0, .int .i64 0, .int .i64 0, .int .i64 0, .int .i64 0, .int .i64 0, .int .i64 0, .int .i64 0, .int .i64 0, .int .i64 0, .int .i64 0, .int .i64 0] 45)) gs 87 (srcCells g top (reads + 1))) := (HB.out.set 2 _).alloc _
  have sz : Hid (Blk ((w.setCell ⟨gs, 2, none⟩ (.int .i64 (reads + 1))).alloc (.cells #[.int .i64 0, .slice none 0 0, .int .i64 0, .int .i64 0, .int .i64 0, .int .i64 0, .int .i64 0, .int .i64 0, .int .i64 0, .int .i64 0, .int .i64 0, .int .i64 0, .int .i64 0, .int .i64 0] 45)) w.heap.size 45 (#[.int .i64 0, .slice none 0 0, .int .i64 0, .int .i64 0, .int .i64 0, .int .i64 0, .int .i64 0, .int .i64 0, .int .i64 0, .int .i64 0, .int .i64 0, .int .i64 0, .int .i64 0, .int .i64 0]).toList) := by
    have := Blk.newA (w.setCell ⟨gs, 2, none⟩ (.int .i64 (reads + 1))) 45 #[.int .i64 0, .slice none 0 0, .int .i64 0, .int .i64 0, .int .i64 0, .int .i64 0, .int .i64 0, .int .i64 0, .int .i64 0, .int .i64 0, .int .i64 0, .int .i64 0, .int .i64 0, .int .i64 0]
    rw [show (w.setCell ⟨gs, 2, none⟩ (.int .i64 (reads + 1))).heap.size = w.heap.size by simp [World.setCell]] at this
    exact this
  by_cases h0 : i < 0
  · rw [if_neg (by omega), if_neg (by omega)]
    have hfn := fn_nil
    go_enter Try.func16, Try.ntmps16
    go_wp2
    refine bodyPost_ret (v := .tuple #[.agg #[.int .i64 0, .slice none 0 0, .int .i64 0, .int .i64 0, .int .i64 0, .int .i64 0, .int .i64 0, .int .i64 0, .int .i64 0, .int .i64 0, .int .i64 0, .int .i64 0, .int .i64 0, .int .i64 0], .int .i64 9]) (by simp [results, Try.results16, go_sem]) rfl ?_
    exact ⟨none, 0, rfl, SlAt.nil, kz.out, bz.out⟩
  · have h1 : decide (i < 0) = false := by simpa using h0
    clear h0
    have HN : Hid (∀ W, Kp (fun b => b = gs) w0 W → Calls Try.prog 48 #[.pointer (some ⟨g, 0, none⟩), .int .i64 i] W (NodPost W (if 0 ≤ i ∧ i < l.length then l.getD i.toNat nod0 else nod0) (if 0 ≤ i ∧ i < l.length then 0 else 9))) := fun W hW => anode_yes g x l i W (ha.kp hW (fun b hb => by omega)) hx hf
    have HKw := Lib.hid hk
    clear hk ha hf
    generalize (if 0 ≤ i ∧ i < l.length then l.getD i.toNat nod0 else nod0) = n at *
    generalize (if 0 ≤ i ∧ i < (l.length : Int) then (0 : Int) else 9) = er at *
    have hfn := fn_nil
    go_enter Try.func16, Try.ntmps16
    go_wp2_with fail
    generalize (w.setCell ⟨gs, 2, none⟩ (.int .i64 (reads + 1))).alloc _ = wz at kz bz sz ⊢
    refine (HN.out wz (HKw.out.trans kz.out (fun b _ h => h))).mono ?_
    rintro e w1 ⟨A1, c1, rfl, hsl1, hb1⟩
    have s1 := Lib.hid (sz.out.below hb1 sz.out.lt)
    have g1 := Lib.hid (bz.out.below hb1 bz.out.lt)
    have K1 : Hid (Kp (fun b => b = gs) w w1) := kz.out.trans (Kp.of_below (S := fun _ => False) hb1) (fun b _ h => h.elim)
    have hz0 : w.heap.size < w1.heap.size := s1.out.lt
    have hzz : w.heap.size < wz.heap.size := sz.out.lt
    have HSL1 : Hid (SlAt w1 (fun b => w.heap.size < b ∧ b < w1.heap.size) (.slice A1 n.lists.length c1) n.lists) := hsl1.more (fun b hb => by omega)
    clear hsl1 hb1 sz bz kz HN
    obtain ⟨dim, lists, all⟩ := n
    simp only at *
    unfold nodArr
    have q0' : w1.cell? ⟨w.heap.size, 0, none⟩ = some (.int .i64 0) := by rw [s1.out.cell]; rfl
    have p0 : w1.frozen? ⟨w.heap.size, 0, none⟩ = false := s1.out.frozen 0
    have q1' : w1.cell? ⟨w.heap.size, 1, none⟩ = some (.slice none 0 0) := by rw [s1.out.cell]; rfl
    have p1 : w1.frozen? ⟨w.heap.size, 1, none⟩ = false := s1.out.frozen 1
    have q2' : w1.cell? ⟨w.heap.size, 2, none⟩ = some (.int .i64 0) := by rw [s1.out.cell]; rfl
    have p2 : w1.frozen? ⟨w.heap.size, 2, none⟩ = false := s1.out.frozen 2
    have q3' : w1.cell? ⟨w.heap.size, 3, none⟩ = some (.int .i64 0) := by rw [s1.out.cell]; rfl
    have p3 : w1.frozen? ⟨w.heap.size, 3, none⟩ = false := s1.out.frozen 3
    have q4' : w1.cell? ⟨w.heap.size, 4, none⟩ = some (.int .i64 0) := by rw [s1.out.cell]; rfl
    have p4 : w1.frozen? ⟨w.heap.size, 4, none⟩ = false := s1.out.frozen 4
    have q5' : w1.cell? ⟨w.heap.size, 5, none⟩ = some (.int .i64 0) := by rw [s1.out.cell]; rfl
    have p5 : w1.frozen? ⟨w.heap.size, 5, none⟩ = false := s1.out.frozen 5
    have q6' : w1.cell? ⟨w.heap.size, 6, none⟩ = some (.int .i64 0) := by rw [s1.out.cell]; rfl
    have p6 : w1.frozen? ⟨w.heap.size, 6, none⟩ = false := s1.out.frozen 6
    have q7' : w1.cell? ⟨w.heap.size, 7, none⟩ = some (.int .i64 0) := by rw [s1.out.cell]; rfl
    have p7 : w1.frozen? ⟨w.heap.size, 7, none⟩ = false := s1.out.frozen 7
    have q8' : w1.cell? ⟨w.heap.size, 8, none⟩ = some (.int .i64 0) := by rw [s1.out.cell]; rfl
    have p8 : w1.frozen? ⟨w.heap.size, 8, none⟩ = false := s1.out.frozen 8
    have q9' : w1.cell? ⟨w.heap.size, 9, none⟩ = some (.int .i64 0) := by rw [s1.out.cell]; rfl
    have p9 : w1.frozen? ⟨w.heap.size, 9, none⟩ = false := s1.out.frozen 9
    have q10' : w1.cell? ⟨w.heap.size, 10, none⟩ = some (.int .i64 0) := by rw [s1.out.cell]; rfl
    have p10 : w1.frozen? ⟨w.heap.size, 10, none⟩ = false := s1.out.frozen 10
    have q11' : w1.cell? ⟨w.heap.size, 11, none⟩ = some (.int .i64 0) := by rw [s1.out.cell]; rfl
    have p11 : w1.frozen? ⟨w.heap.size, 11, none⟩ = false := s1.out.frozen 11
    have q12' : w1.cell? ⟨w.heap.size, 12, none⟩ = some (.int .i64 0) := by rw [s1.out.cell]; rfl
    have p12 : w1.frozen? ⟨w.heap.size, 12, none⟩ = false := s1.out.frozen 12
    have q13' : w1.cell? ⟨w.heap.size, 13, none⟩ = some (.int .i64 0) := by rw [s1.out.cell]; rfl
    have p13 : w1.frozen? ⟨w.heap.size, 13, none⟩ = false := s1.out.frozen 13
    go_wp2
    refine bodyPost_ret (v := .tuple #[.agg (nodArr dim (.slice A1 lists.length c1) all), .int .i64 er]) (by simp [results, Try.results16, go_sem, q0', q1', q2', q3', q4', q5', q6', q7', q8', q9', q10', q11', q12', q13']) rfl ?_
    have hK : ∀ W, Kp (fun b => b = w.heap.size) w1 W → SNodPost w gs g top reads ⟨dim, lists, all⟩ er (.returned (.tuple #[.agg (nodArr dim (.slice A1 lists.length c1) all), .int .i64 er])) W := by
      intro W k
      exact ⟨A1, c1, rfl, (HSL1.out.kp k (fun b hb => by omega)).more (fun b hb => by have := k.size; omega), K1.out.trans k (fun b hb h => by omega), g1.out.kp k (by omega)⟩
    refine hK _ ?_
    iterate 14 refine kpset ?_ _ _
    exact Kp.refl _ _
end Go.Proofs.Ytgnpihhakogeeaa
