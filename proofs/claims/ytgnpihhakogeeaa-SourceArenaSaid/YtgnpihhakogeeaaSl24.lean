/- slices.Clone, Grow (of nil), Concat; node.Each, node.Clone. -/
import Derived.Test.YtgnpihhakogeeaaR24d
import Derived.Lib.AppendZerosOnto
namespace Go.Proofs.Ytgnpihhakogeeaa
open Go.RowKit

/-- returns a slice of its own that reads so; what was there stays -/
def NewL {α : Type} [Rep α] (w : World) (E : TypeId) (l : List α) (e : Ending) (w' : World) : Prop := ∃ v', e = .returned v' ∧ OwnL w' w.heap.size E v' l ∧ Below w.heap.size w w'
theorem below_lit {w w1 : World} {o : Obj} {row : Option Nat} (hg : (w.alloc o).grownBy w1 row) (hr : ∀ k, row = some k → w.heap.size ≤ k := by intro k hk; injection hk with hk; exact Nat.le_of_eq hk) : Below w.heap.size w w1 :=
  (below1 w o).grown hg (by rw [World.size_alloc]; exact Nat.le_succ _) hr
theorem OwnL.empty {α : Type} [Rep α] (w : World) (E : TypeId) : OwnL (w.alloc (.cells #[] E)) w.heap.size E (.slice (some ⟨w.heap.size, 0, none⟩) 0 0) ([] : List α) :=
  ⟨[], by simpa using World.ownsRow_lit (e := E) (size := Rep.size α) w #[] 0 (Nat.le_refl _) (by unfold maxLen; omega) (by simp), Rws.nil⟩
theorem ElemsAt.none {α : Type} [Rep α] {w : World} {F : Nat → Prop} {l : List α} (h : ElemsAt w F Option.none l) : l = [] := by
  rcases Nat.eq_zero_or_pos l.length with h0 | h0
  · exact List.eq_nil_of_length_eq_zero h0
  · obtain ⟨b, o, r, e, _⟩ := h.get h0
    cases e
theorem cel_info : (Try.prog.info? 43).map (fun i => (i.zero, i.size, i.bytes)) = some (some (.agg #[.int .i64 0, .int .i64 0, .int .i64 0, .int .i64 0, .int .i64 0, .int .i64 0, .int .i64 0, .int .i64 0, .int .i64 0, .int .i64 0, .int .i64 0, .int .i64 0]), Rep.size Cel, 96) := by kernel_rfl
set_option maxHeartbeats 400000 in
set_option maxRecDepth 100000 in
theorem clone_cel (A : Option Addr) (c : Nat) (l : List Cel) (w : World) (F : Nat → Prop) (h : ElemsAt w F A l) (hF : ∀ b, F b → b < w.heap.size) (hlen : l.length ≤ 1000000) :
    Calls Try.prog 89 #[.slice A l.length c] w (NewL w 43 l) := by
  have HR := Lib.hid h
  have HF := Lib.hid hF
  clear h hF
  obtain ⟨i0, hi, hz0, hz1, hz2⟩ := info_parts cel_info
  have hq := fun W : World => Lib.run_eql_slice_nil (P := Try.prog) W 83 43 A l.length c 0 0 Try.underlying83
  cases A with
  | none =>
    have hl : l = [] := HR.out.none
    subst hl
    have hq' := hq
    simp only [Option.isNone_none, List.length_nil] at hq'
    clear hq
    go_enter Try.func89, Try.ntmps89
    go_wp2
    go_ret
    exact ⟨_, rfl, OwnL.nil, Below.refl _ _⟩
  | some a =>
    simp only [Option.isNone_some] at hq
    go_enter Try.func89, Try.ntmps89
    go_wp2_with (at_builtin; refine wpList_append_el _ rfl (.tmp 5) (.tmp 6) _ rfl w.heap.size 43 i0 _ 96 Try.underlying83 hi hz0 hz1 hz2 rfl (.slice (some ⟨w.heap.size, 0, none⟩) 0 0) ([] : List Cel) rfl (OwnL.empty w _) (some a) l.length c l rfl rfl ?c1 ?c2 ?c3 ?c4 ?_)
    case c1 => exact HR.out.keep (fun p hp => World.cell?_alloc_lt _ _ _ (HF.out _ hp)) (fun b hb => by have := HF.out b hb; exact ⟨trivial, by simp; omega, fun e => by injection e with e; have e : w.heap.size = b := e; omega⟩)
    case c2 => simp only [List.length_nil, Nat.zero_add]; unfold maxLen; omega
    case c3 => simp only [List.length_nil, Nat.zero_add]; omega
    case c4 => simp
    intro v1 w1 hown1 hg1 hat1
    have hbw1 := Lib.hid (below_lit hg1)
    have hown1' := Lib.hid hown1
    clear hg1 hown1 hat1
    go_wp2
    go_ret
    exact ⟨v1, rfl, hown1'.out, hbw1.out⟩

theorem int_info : (Try.prog.info? 3).map (fun i => (i.zero, i.size, i.bytes)) = some (some (.int .i64 0), Rep.size Int, 8) := by kernel_rfl
set_option maxHeartbeats 400000 in
set_option maxRecDepth 100000 in
theorem clone_int (A : Option Addr) (c : Nat) (l : List Int) (w : World) (F : Nat → Prop) (h : ElemsAt w F A l) (hF : ∀ b, F b → b < w.heap.size) (hlen : l.length ≤ 1000000) :
    Calls Try.prog 74 #[.slice A l.length c] w (NewL w 3 l) := by
  have HR := Lib.hid h
  have HF := Lib.hid hF
  clear h hF
  obtain ⟨i0, hi, hz0, hz1, hz2⟩ := info_parts int_info
  have hq := fun W : World => Lib.run_eql_slice_nil (P := Try.prog) W 26 3 A l.length c 0 0 Try.underlying26
  cases A with
  | none =>
    have hl : l = [] := HR.out.none
    subst hl
    have hq' := hq
    simp only [Option.isNone_none, List.length_nil] at hq'
    clear hq
    go_enter Try.func74, Try.ntmps74
    go_wp2
    go_ret
    exact ⟨_, rfl, OwnL.nil, Below.refl _ _⟩
  | some a =>
    simp only [Option.isNone_some] at hq
    go_enter Try.func74, Try.ntmps74
    go_wp2_with (at_builtin; refine wpList_append_el _ rfl (.tmp 5) (.tmp 6) _ rfl w.heap.size 3 i0 _ 8 Try.underlying26 hi hz0 hz1 hz2 rfl (.slice (some ⟨w.heap.size, 0, none⟩) 0 0) ([] : List Int) rfl (OwnL.empty w _) (some a) l.length c l rfl rfl ?c1 ?c2 ?c3 ?c4 ?_)
    case c1 => exact HR.out.keep (fun p hp => World.cell?_alloc_lt _ _ _ (HF.out _ hp)) (fun b hb => by have := HF.out b hb; exact ⟨trivial, by simp; omega, fun e => by injection e with e; have e : w.heap.size = b := e; omega⟩)
    case c2 => simp only [List.length_nil, Nat.zero_add]; unfold maxLen; omega
    case c3 => simp only [List.length_nil, Nat.zero_add]; omega
    case c4 => simp
    intro v1 w1 hown1 hg1 hat1
    have hbw1 := Lib.hid (below_lit hg1)
    have hown1' := Lib.hid hown1
    clear hg1 hown1 hat1
    go_wp2
    go_ret
    exact ⟨v1, rfl, hown1'.out, hbw1.out⟩


/-- slices.Grow of no slice -/
def GrowPost (w : World) (e : Ending) (w' : World) : Prop := ∃ v', e = .returned v' ∧ OwnL w' w.heap.size 43 v' ([] : List Cel) ∧ Below w.heap.size w w'
theorem zeroCells_size (z : Array Value) (n : Nat) : (Builtin.zeroCells z n).size = n * z.size := by simp [Builtin.zeroCells]
theorem grown_cap (w : World) (need old : Nat) (e : TypeId) (h : need < 9223372036854775808) : need ≤ grownCap w need old e ∧ grownCap w need old e ≤ maxLen := by
  have he : grownCap w need old e = need + (w.tape w.drawn (.appendCap need old e)) % (2 ^ 63 - need) := rfl
  rw [he]
  unfold maxLen
  have : (w.tape w.drawn (.appendCap need old e)) % (2 ^ 63 - need) < 2 ^ 63 - need := Nat.mod_lt _ (by omega)
  constructor
  · exact Nat.le_add_right _ _
  · omega
set_option maxHeartbeats 400000 in
set_option maxRecDepth 100000 in
theorem grow_cel (n : Nat) (w : World) (hn : n ≤ 1000000) : Calls Try.prog 112 #[.slice none 0 0, .int .i64 n] w (GrowPost w) := by
  obtain ⟨i0, hi, hz0, hz1, hz2⟩ := info_parts cel_info
  by_cases h0 : n = 0
  · subst h0
    go_enter Try.func112, Try.ntmps112
    go_wp2
    go_ret
    exact ⟨_, rfl, OwnL.nil, Below.refl _ _⟩
  · have hr := Lib.run_append_grow_zeros (P := Try.prog) w 83 3 83 43 i0 _ .i64 .i64 Try.underlying83 Try.underlying3 hi hz0 none 0 0 [] (by simp [Builtin.firstCells]) n (by omega) (by rw [hz1]; exact Rep.pos) (by omega) (by omega) (by rw [hz2]; omega) (by rw [hz2]; unfold Builtin.nextslicecap; rw [if_pos (by omega)]; omega)
    have hc := grown_cap w (0 + n) 0 43 (by omega)
    generalize grownCap w (0 + n) 0 43 = cap at hr hc
    have hp : 0 < n := by omega
    have hpi : (0 : Int) < n := by omega
    simp only [Nat.zero_add] at hr hc
    have HR := Lib.hid hr
    have ho : Hid (OwnL (w.drew.alloc (.cells (#[] ++ Builtin.zeroCells (Value.agg #[.int .i64 0, .int .i64 0, .int .i64 0, .int .i64 0, .int .i64 0, .int .i64 0, .int .i64 0, .int .i64 0, .int .i64 0, .int .i64 0, .int .i64 0, .int .i64 0]).cells n ++ Builtin.zeroCells (Value.agg #[.int .i64 0, .int .i64 0, .int .i64 0, .int .i64 0, .int .i64 0, .int .i64 0, .int .i64 0, .int .i64 0, .int .i64 0, .int .i64 0, .int .i64 0, .int .i64 0]).cells (cap - n)) 43)) w.heap.size 43 (.slice (some ⟨w.heap.size, 0, none⟩) 0 cap) ([] : List Cel)) := by
      refine ⟨[], ⟨by simp, .inr ⟨w.heap.size, cap, _, rfl, Nat.le_refl _, heap_alloc_new w.drew _, Nat.zero_le _, hc.2, ?_, by simp⟩⟩, Rws.nil⟩
      rw [Array.size_append, Array.size_append, zeroCells_size, zeroCells_size]
      simp [Value.cells, Rep.size]
      omega
    have hb : Hid (Below w.heap.size w (w.drew.alloc (.cells (#[] ++ Builtin.zeroCells (Value.agg #[.int .i64 0, .int .i64 0, .int .i64 0, .int .i64 0, .int .i64 0, .int .i64 0, .int .i64 0, .int .i64 0, .int .i64 0, .int .i64 0, .int .i64 0, .int .i64 0]).cells n ++ Builtin.zeroCells (Value.agg #[.int .i64 0, .int .i64 0, .int .i64 0, .int .i64 0, .int .i64 0, .int .i64 0, .int .i64 0, .int .i64 0, .int .i64 0, .int .i64 0, .int .i64 0, .int .i64 0]).cells (cap - n)) 43))) := ((Below.refl _ w).drew).alloc (Nat.le_refl _) _
    generalize w.drew.alloc _ = w1 at HR ho hb
    have hcc : n ≤ cap := hc.1
    clear h0 hr hc
    go_enter Try.func112, Try.ntmps112
    go_wp2_with (at_builtin; refine wpList_append_run rfl (.tmp 20) (.tmp 21) _ _ rfl rfl rfl HR.out ?_)
    go_ret
    exact ⟨_, rfl, ho.out, hb.out⟩
theorem flat_snoc (l : List (List Cel)) (k : Nat) (h : k < l.length) : (l.take (k + 1)).flatten = (l.take k).flatten ++ l[k] := by
  rw [List.take_succ_eq_append_getElem h, List.flatten_append]; simp
theorem flat_take_le (l : List (List Cel)) (k : Nat) : (l.take k).flatten.length ≤ l.flatten.length := by
  conv => rhs; rw [← List.take_append_drop k l, List.flatten_append, List.length_append]
  omega
set_option maxHeartbeats 1000000 in
set_option maxRecDepth 100000 in
theorem concat_cel (B : Option Addr) (c : Nat) (l : List (List Cel)) (w : World) (F : Nat → Prop) (h : ElemsAt w F B l) (hF : ∀ b, F b → b < w.heap.size) (hl : l.length ≤ maxLen) (hlen : l.flatten.length ≤ 1000000) :
    Calls Try.prog 103 #[.slice B l.length c] w (NewL w 43 l.flatten) := by
  have HE := Lib.hid h
  have HF := Lib.hid hF
  clear h hF
  unfold maxLen at hl
  obtain ⟨i0, hi, hz0, hz1, hz2⟩ := info_parts cel_info
  go_enter Try.func103, Try.ntmps103
  go_wp2
  go_loop [3, 11] (fun s i => ∃ k : Nat, k ≤ l.length ∧ i = .int .i64 k ∧ s = .int .i64 ((l.take k).flatten.length : Nat)) (fun _ i => l.length - (intOf i).toNat)
  case atStart => exact ⟨0, Nat.zero_le _, rfl, by simp⟩
  case round =>
    obtain ⟨k, hk, rfl, rfl⟩ := hrel
    have hb := flat_take_le l k
    by_cases hlt : k < l.length
    · obtain ⟨b, o, L, lc, rfl, _, hbl, cl, hlc, hlm, _⟩ := HE.out.sub hlt
      have hs := flat_snoc l k hlt
      have hb1 := flat_take_le l (k + 1)
      have HS : Hid ((l.take (k + 1)).flatten.length = (l.take k).flatten.length + l[k].length) := by unfold Hid; rw [hs, List.length_append]
      have hb2 : (l.take k).flatten.length + l[k].length ≤ 1000000 := by rw [HS.out] at hb1; omega
      clear hs hb1
      generalize l[k] = lk at *
      generalize (l.take k).flatten.length = n at *
      go_wp2
      go_round
      case rel => exact ⟨k + 1, by omega, by go_num, by rw [HS.out]; go_num⟩
      case measure => simp [intOf]; omega
    · have hke : Hid ((l.take k).flatten.length = l.flatten.length) := by unfold Hid; rw [List.take_of_length_le (by omega)]
      generalize (l.take k).flatten.length = n at *
      go_wp2_with (go_at_call 112; refine (grow_cel n _ (by omega)).mono ?_; rintro e w1 ⟨v1, rfl, hown1, hb1⟩; have HO1 := Lib.hid hown1; have HB1 := Lib.hid hb1; clear hown1 hb1)
      obtain ⟨A1, c1, hv1, _⟩ := HO1.out.form
      rw [List.length_nil] at hv1
      subst hv1
      go_loopw [6, 27] (fun v i wr => ∃ (j : Nat) (L : List Cel), j ≤ l.length ∧ i = .int .i64 j ∧ L.length ≤ 1000000 ∧ Hid (L = (l.take j).flatten) ∧ Hid (OwnL wr w.heap.size 43 v L) ∧ Hid (Below w.heap.size w wr)) (fun _ i _ => l.length - (intOf i).toNat)
      case atStart => exact ⟨0, [], Nat.zero_le _, rfl, by simp, by unfold Hid; simp, HO1, HB1⟩
      case round =>
        clear HO1 HB1
        obtain ⟨j, L, hj, rfl, hLl, hL, hown, hbr⟩ := hrel
        obtain ⟨A2, c2, rfl, _⟩ := hown.out.form
        have hzr := hbr.out.size
        by_cases hjl : j < l.length
        · obtain ⟨b, o, M, lc, rfl, _, hbl, cl, hlc, hlm, hM⟩ := (HE.out.below hbr.out HF.out).sub hjl
          have hs := flat_snoc l j hjl
          have hb1 := flat_take_le l (j + 1)
          have HS : Hid (L ++ l[j] = (l.take (j + 1)).flatten) := by unfold Hid; rw [hs, hL.out]
          have hb2 : L.length + l[j].length ≤ 1000000 := by rw [← HS.out, List.length_append] at hb1; omega
          clear hs hb1
          generalize l[j] = lj at *
          have HM := Lib.hid hM
          clear hM
          go_wp2_with (at_builtin; refine wpList_append_el _ rfl (.tmp 31) (.tmp 32) _ rfl w.heap.size 43 i0 _ 96 Try.underlying83 hi hz0 hz1 hz2 rfl (.slice A2 L.length c2) L rfl hown.out M lj.length lc lj rfl rfl ?c1 ?c2 ?c3 ?c4 ?_)
          case c1 => exact HM.out.more (fun b hb => ⟨trivial, by have := HF.out b hb; omega, fun e => by have := HF.out b hb; have := (hown.out.block b e).1; omega⟩)
          case c2 => unfold maxLen; omega
          case c3 => omega
          case c4 => omega
          intro v1 w1 hown1 hg1 hat1
          have HB1 : Hid (Below w.heap.size w w1) := hbr.out.grown hg1 hzr (fun b hb2 => (hown.out.block b hb2).1)
          have HO1 := Lib.hid hown1
          clear hown1 hg1 hat1
          go_wp2
          go_roundw
          case rel => exact ⟨j + 1, L ++ lj, by omega, by go_num, by simp; omega, HS, HO1, HB1⟩
          case measure => simp [intOf]; omega
        · have hfin : Hid (L = l.flatten) := by unfold Hid; rw [hL.out, List.take_of_length_le (by omega)]
          go_wp2
          go_ret
          rw [← hfin.out]
          exact ⟨_, rfl, hown.out, hbr.out⟩

def leBytes (n : Nod) : Prop := n.lists.length ≤ maxLen ∧ n.lists.flatten.length ≤ 100000
set_option maxHeartbeats 1000000 in
set_option maxRecDepth 100000 in
theorem each_any (n : Nod) (B : Option Addr) (d : Nat) (w : World) (F : Nat → Prop) (h : ElemsAt w F B n.lists) (ho : n.all.ok) (hF : ∀ b, F b → b < w.heap.size) (hl : leBytes n) :
    Calls Try.prog 84 #[.agg (nodArr n.dim (.slice B n.lists.length d) n.all)] w (NewL w 43 (each n)) := by
  obtain ⟨dim, lists, all⟩ := n
  obtain ⟨hl1, hl2⟩ := hl
  simp only at h ho hl1 hl2 ⊢
  have HO := Lib.hid ho
  obtain ⟨i0, hi, hz0, hz1, hz2⟩ := info_parts cel_info
  have b0 : Hid (Below w.heap.size w (w.alloc (.cells (nodArr dim (.slice B lists.length d) all) 45))) := below1 _ _
  have s0 : Hid (Blk (w.alloc (.cells (nodArr dim (.slice B lists.length d) all) 45)) w.heap.size 45 (nodArr dim (.slice B lists.length d) all).toList) := Blk.newA _ _ _
  have HC := Lib.hid (concat_cel B d lists _ F (h.below b0.out hF) (fun b hb => by have := hF b hb; have := b0.out.size; omega) hl1 (by omega))
  obtain ⟨FL, hFL⟩ : ∃ FL, FL = lists.flatten := ⟨_, rfl⟩
  rw [← hFL] at HC hl2
  have HFL := Lib.hid hFL
  unfold nodArr at *
  clear h ho hFL
  go_enter Try.func84, Try.ntmps84
  go_wp2_with fail
  generalize w.alloc _ = w0 at b0 s0 HC ⊢
  refine HC.out.mono ?_
  rintro e w1 ⟨v1, rfl, hown1, hb1⟩
  have HO1 := Lib.hid hown1
  have HB1 : Hid (Below w.heap.size w w1) := bon b0.out hb1
  have hs1 := Lib.hid (s0.out.below hb1 s0.out.lt)
  have hz := hb1.size
  have hz2' := b0.out.size
  obtain ⟨A1, c1, rfl, _⟩ := hown1.form
  clear hown1 hb1 s0 b0 HC
  have a0 : w1.cell? ⟨w.heap.size, 2, none⟩ = some (.int .i64 all.key) := by rw [hs1.out.cell]; rfl
  have a1 : w1.cell? ⟨w.heap.size, 3, none⟩ = some (.int .i64 all.child) := by rw [hs1.out.cell]; rfl
  have a2 : w1.cell? ⟨w.heap.size, 4, none⟩ = some (.int .i64 all.agg.n) := by rw [hs1.out.cell]; rfl
  have a3 : w1.cell? ⟨w.heap.size, 5, none⟩ = some (.int .i64 all.agg.s0) := by rw [hs1.out.cell]; rfl
  have a4 : w1.cell? ⟨w.heap.size, 6, none⟩ = some (.int .i64 all.agg.l0) := by rw [hs1.out.cell]; rfl
  have a5 : w1.cell? ⟨w.heap.size, 7, none⟩ = some (.int .i64 all.agg.h0) := by rw [hs1.out.cell]; rfl
  have a6 : w1.cell? ⟨w.heap.size, 8, none⟩ = some (.int .i64 all.agg.s1) := by rw [hs1.out.cell]; rfl
  have a7 : w1.cell? ⟨w.heap.size, 9, none⟩ = some (.int .i64 all.agg.l1) := by rw [hs1.out.cell]; rfl
  have a8 : w1.cell? ⟨w.heap.size, 10, none⟩ = some (.int .i64 all.agg.h1) := by rw [hs1.out.cell]; rfl
  have a9 : w1.cell? ⟨w.heap.size, 11, none⟩ = some (.int .i64 all.agg.s2) := by rw [hs1.out.cell]; rfl
  have a10 : w1.cell? ⟨w.heap.size, 12, none⟩ = some (.int .i64 all.agg.l2) := by rw [hs1.out.cell]; rfl
  have a11 : w1.cell? ⟨w.heap.size, 13, none⟩ = some (.int .i64 all.agg.h2) := by rw [hs1.out.cell]; rfl
  go_wp2_with (at_builtin; refine wpList_append_el _ rfl (.tmp 7) (.tmp 10) _ rfl w0.heap.size 43 i0 _ 96 Try.underlying83 hi hz0 hz1 hz2 rfl (.slice A1 FL.length c1) FL rfl (HO1.out.alloc _) (some ⟨w1.heap.size, 0, none⟩) 1 1 [all] rfl rfl ?c1 ?c2 ?c3 ?c4 ?_)
  case c1 => exact ElemsAt.made ⟨rfl, HO.out⟩ ⟨trivial, by simp, fun e => by have := (HO1.out.block _ e).2; omega⟩
  case c2 => unfold maxLen; omega
  case c3 => omega
  case c4 => simp; omega
  intro v2 w2 hown2 hg2 hat2
  have HB2 : Hid (Below w.heap.size w w2) := (HB1.out.alloc (by omega) _).grown hg2 (by simp; omega) (fun b hb2 => by have := (HO1.out.block b hb2).1; omega)
  have HO2 := Lib.hid hown2
  clear hown2 hg2 hat2
  go_wp2
  go_ret
  refine ⟨_, rfl, ?_, HB2.out⟩
  unfold each
  rw [← HFL.out]
  exact HO2.out.weaken (by omega)
end Go.Proofs.Ytgnpihhakogeeaa
