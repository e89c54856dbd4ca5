/- Aggregates, cells, nodes, shapes: as data, in memory, and as they came in. -/
import Derived.Test.YtgnpihhakogeeaaRep
import Derived.Test.YtgnpihhakogeeaaChecked
namespace Go.Proofs.Ytgnpihhakogeeaa
set_option linter.unusedSimpArgs false
set_option linter.unusedVariables false
open Go.RowKit

structure Ag where
  (n s0 l0 h0 s1 l1 h1 s2 l2 h2 : Int)
  deriving DecidableEq
structure Cel where
  (key child : Int)
  (agg : Ag)
  deriving DecidableEq
structure Nod where
  dim : Int
  lists : List (List Cel)
  all : Cel
  deriving DecidableEq
structure Shp where
  sizes : List (List Int)
  measures : Int
  deriving DecidableEq

abbrev Ag.arr (a : Ag) : Array Value := #[.int .i64 a.n, .int .i64 a.s0, .int .i64 a.l0, .int .i64 a.h0, .int .i64 a.s1, .int .i64 a.l1, .int .i64 a.h1, .int .i64 a.s2, .int .i64 a.l2, .int .i64 a.h2]
abbrev Cel.arr (c : Cel) : Array Value := #[.int .i64 c.key, .int .i64 c.child, .int .i64 c.agg.n, .int .i64 c.agg.s0, .int .i64 c.agg.l0, .int .i64 c.agg.h0, .int .i64 c.agg.s1, .int .i64 c.agg.l1, .int .i64 c.agg.h1, .int .i64 c.agg.s2, .int .i64 c.agg.l2, .int .i64 c.agg.h2]
abbrev nodArr (d : Int) (v : Value) (c : Cel) : Array Value := #[.int .i64 d, v, .int .i64 c.key, .int .i64 c.child, .int .i64 c.agg.n, .int .i64 c.agg.s0, .int .i64 c.agg.l0, .int .i64 c.agg.h0, .int .i64 c.agg.s1, .int .i64 c.agg.l1, .int .i64 c.agg.h1, .int .i64 c.agg.s2, .int .i64 c.agg.l2, .int .i64 c.agg.h2]
def Ag.ok (a : Ag) : Prop := I64 a.n ∧ (I64 a.s0 ∧ I64 a.l0 ∧ I64 a.h0) ∧ (I64 a.s1 ∧ I64 a.l1 ∧ I64 a.h1) ∧ (I64 a.s2 ∧ I64 a.l2 ∧ I64 a.h2)
def Cel.ok (c : Cel) : Prop := I64 c.key ∧ I64 c.child ∧ c.agg.ok
def ag0 : Ag := ⟨0, 0, 0, 0, 0, 0, 0, 0, 0, 0⟩
def cel0 : Cel := ⟨0, 0, ag0⟩

theorem int_cells_one (l : List Int) : ∀ u ∈ l.map (Value.int .i64), u.oneCell' = true := by
  intro u hu
  obtain ⟨x, _, rfl⟩ := List.mem_map.1 hu
  rfl
instance : Rep Ag where
  size := 10
  pos := by decide
  Is _ _ cs x := cs = x.arr.toList ∧ x.ok
  len h := by rw [h.1]; rfl
  one {_ _ _ x} h u hu := by rw [h.1] at hu; exact int_cells_one [x.n, x.s0, x.l0, x.h0, x.s1, x.l1, x.h1, x.s2, x.l2, x.h2] u hu
  keep _ _ h := h
instance : Rep Cel where
  size := 12
  pos := by decide
  Is _ _ cs x := cs = x.arr.toList ∧ x.ok
  len h := by rw [h.1]; rfl
  one {_ _ _ x} h u hu := by rw [h.1] at hu; exact int_cells_one [x.key, x.child, x.agg.n, x.agg.s0, x.agg.l0, x.agg.h0, x.agg.s1, x.agg.l1, x.agg.h1, x.agg.s2, x.agg.l2, x.agg.h2] u hu
  keep _ _ h := h
instance : Rep Nod where
  size := 14
  pos := by decide
  Is w F cs x := ∃ v, cs = (nodArr x.dim v x.all).toList ∧ I64 x.dim ∧ SlAt w F v x.lists ∧ x.all.ok
  len h := by obtain ⟨v, e, _⟩ := h; rw [e]; rfl
  one {_ _ _ x} h u hu := by
    obtain ⟨v, e, _, hv, _⟩ := h
    obtain ⟨A, c, rfl, _⟩ := hv
    rw [e] at hu
    simp only [List.mem_cons, List.not_mem_nil, or_false] at hu
    rcases hu with h | h | h | h | h | h | h | h | h | h | h | h | h | h <;> (rw [h]; rfl)
  keep hk hF h := by
    obtain ⟨v, e, h1, h2, h3⟩ := h
    exact ⟨v, e, h1, h2.keep hk hF, h3⟩
instance : Rep Shp where
  size := 2
  pos := by decide
  Is w F cs x := ∃ v, cs = [v, .int .i64 x.measures] ∧ SlAt w F v x.sizes ∧ I64 x.measures
  len h := by obtain ⟨v, e, _⟩ := h; rw [e]; rfl
  one {_ _ _ x} h u hu := by
    obtain ⟨v, e, hv, _⟩ := h
    obtain ⟨A, c, rfl, _⟩ := hv
    rw [e] at hu
    simp only [List.mem_cons, List.not_mem_nil, or_false] at hu
    rcases hu with h | h <;> (rw [h]; rfl)
  keep hk hF h := by
    obtain ⟨v, e, h1, h2⟩ := h
    exact ⟨v, e, h1.keep hk hF, h2⟩

/-- the twelve cells of a cell at an address -/
def CelAt (w : World) (b o : Nat) (c : Cel) : Prop :=
  w.cell? ⟨b, o, none⟩ = some (.int .i64 c.key) ∧ w.cell? ⟨b, o + 1, none⟩ = some (.int .i64 c.child) ∧ w.cell? ⟨b, o + 2, none⟩ = some (.int .i64 c.agg.n) ∧
  w.cell? ⟨b, o + 3, none⟩ = some (.int .i64 c.agg.s0) ∧ w.cell? ⟨b, o + 4, none⟩ = some (.int .i64 c.agg.l0) ∧ w.cell? ⟨b, o + 5, none⟩ = some (.int .i64 c.agg.h0) ∧
  w.cell? ⟨b, o + 6, none⟩ = some (.int .i64 c.agg.s1) ∧ w.cell? ⟨b, o + 7, none⟩ = some (.int .i64 c.agg.l1) ∧ w.cell? ⟨b, o + 8, none⟩ = some (.int .i64 c.agg.h1) ∧
  w.cell? ⟨b, o + 9, none⟩ = some (.int .i64 c.agg.s2) ∧ w.cell? ⟨b, o + 10, none⟩ = some (.int .i64 c.agg.l2) ∧ w.cell? ⟨b, o + 11, none⟩ = some (.int .i64 c.agg.h2)
section
variable {w w' : World} {F F' : Nat → Prop} {A : Option Addr} {v : Value}
theorem ElemsAt.cel {l : List Cel} (h : ElemsAt w F A l) {i : Nat} (hi : i < l.length) : ∃ b o, A = some ⟨b, o, none⟩ ∧ F b ∧ b < w.heap.size ∧ CelAt w b (o + i * 12) l[i] ∧ l[i].ok := by
  obtain ⟨b, o, r, e, hF, ⟨hr, h64⟩, hc⟩ := h.get hi
  subst hr
  exact ⟨b, o, e, hF, cell_lt (hc 0 _ rfl), ⟨hc 0 _ rfl, hc 1 _ rfl, hc 2 _ rfl, hc 3 _ rfl, hc 4 _ rfl, hc 5 _ rfl, hc 6 _ rfl, hc 7 _ rfl, hc 8 _ rfl, hc 9 _ rfl, hc 10 _ rfl, hc 11 _ rfl⟩, h64⟩
theorem ElemsAt.nod {l : List Nod} (h : ElemsAt w F A l) {i : Nat} (hi : i < l.length) : ∃ b o B c, A = some ⟨b, o, none⟩ ∧ F b ∧ b < w.heap.size ∧ w.cell? ⟨b, o + i * 14, none⟩ = some (.int .i64 l[i].dim) ∧
    w.cell? ⟨b, o + i * 14 + 1, none⟩ = some (.slice B l[i].lists.length c) ∧ CelAt w b (o + i * 14 + 2) l[i].all ∧ I64 l[i].dim ∧ l[i].lists.length ≤ c ∧ c ≤ maxLen ∧ ElemsAt w F B l[i].lists ∧ l[i].all.ok := by
  obtain ⟨b, o, r, e, hF, ⟨v, hr, h1, ⟨B, c, rfl, h2, h3, h4⟩, h5⟩, hc⟩ := h.get hi
  subst hr
  exact ⟨b, o, B, c, e, hF, cell_lt (hc 0 _ rfl), hc 0 _ rfl, hc 1 _ rfl, ⟨hc 2 _ rfl, hc 3 _ rfl, hc 4 _ rfl, hc 5 _ rfl, hc 6 _ rfl, hc 7 _ rfl, hc 8 _ rfl, hc 9 _ rfl, hc 10 _ rfl, hc 11 _ rfl, hc 12 _ rfl, hc 13 _ rfl⟩, h1, h2, h3, h4, h5⟩
end

/-- a row of one datum, just made -/
theorem ElemsAt.made {α : Type} [Rep α] {w : World} {F : Nat → Prop} {cs : Array Value} {x : α} {t : TypeId} (h : Rep.Is (w.alloc (.cells cs t)) F cs.toList x) (hF : F w.heap.size) : ElemsAt (w.alloc (.cells cs t)) F (some ⟨w.heap.size, 0, none⟩) [x] := by
  refine ⟨[cs.toList], Rws.single h, by simp [Rep.len h], fun _ => ⟨_, rfl, hF, fun j u hu => ?_⟩⟩
  have hb : Blk (w.alloc (.cells cs t)) w.heap.size t cs.toList := heap_alloc_new w _
  have : (⟨w.heap.size, 0, none⟩ : Addr).add j = ⟨w.heap.size, j, none⟩ := by unfold Addr.add; split <;> simp_all
  rw [this, hb.cell]
  simpa using hu
/-! as they came in -/
theorem wf_I64 {n : Int} (h : (Lit.int .i64 n).wf = true) : I64 n := by
  simp [Lit.wf, IntKind.min, IntKind.max, IntKind.signed, IntKind.bits] at h
  exact h
def i64Sh : Sh := .int .i64
def partSh : Sh := .pair i64Sh (.pair i64Sh (.pair i64Sh .unit))
def agSh : Sh := .pair i64Sh (.pair (.arr 3 partSh) .unit)
def celSh : Sh := .pair i64Sh (.pair i64Sh (.pair agSh .unit))
def nodSh : Sh := .pair i64Sh (.pair (.slice (.slice celSh)) (.pair celSh .unit))
def shpSh : Sh := .pair (.slice (.slice i64Sh)) (.pair i64Sh .unit)
section
variable {w : World} {F : Nat → Prop}
theorem int_of_sh {cs : List Value} {x : i64Sh.D} (h : i64Sh.Is w F cs x) : ∃ y : Int, Rep.Is w F cs y := ⟨x, h.1, wf_I64 h.2⟩
theorem part_of_sh {cs : List Value} {x : partSh.D} (h : partSh.Is w F cs x) : ∃ a b c : Int, cs = [.int .i64 a, .int .i64 b, .int .i64 c] ∧ I64 a ∧ I64 b ∧ I64 c := by
  obtain ⟨c1, c2, rfl, ⟨rfl, h1⟩, c3, c4, rfl, ⟨rfl, h2⟩, c5, c6, rfl, ⟨rfl, h3⟩, rfl⟩ := h
  exact ⟨_, _, _, rfl, wf_I64 h1, wf_I64 h2, wf_I64 h3⟩
theorem ag_of_sh {cs : List Value} {x : agSh.D} (h : agSh.Is w F cs x) : ∃ y : Ag, Rep.Is w F cs y := by
  obtain ⟨c1, c2, rfl, ⟨rfl, h1⟩, c3, c4, rfl, ⟨css, rfl, h2, h3, h4, h5⟩, rfl⟩ := h
  rcases css with _ | ⟨r0, _ | ⟨r1, _ | ⟨r2, _ | ⟨r3, rest⟩⟩⟩⟩ <;> simp at h2
  generalize hl : x.2.1 = l at h3 h5
  have hl3 : List.length l = 3 := h3
  obtain ⟨y0, hy0⟩ : ∃ y, (show List partSh.D from l)[0]? = some y := ⟨_, List.getElem?_eq_getElem (show 0 < List.length l by omega)⟩
  obtain ⟨y1, hy1⟩ : ∃ y, (show List partSh.D from l)[1]? = some y := ⟨_, List.getElem?_eq_getElem (show 1 < List.length l by omega)⟩
  obtain ⟨y2, hy2⟩ : ∃ y, (show List partSh.D from l)[2]? = some y := ⟨_, List.getElem?_eq_getElem (show 2 < List.length l by omega)⟩
  obtain ⟨a0, b0, d0, rfl, k0⟩ := part_of_sh (h5 0 r0 y0 rfl hy0)
  obtain ⟨a1, b1, d1, rfl, k1⟩ := part_of_sh (h5 1 r1 y1 rfl hy1)
  obtain ⟨a2, b2, d2, rfl, k2⟩ := part_of_sh (h5 2 r2 y2 rfl hy2)
  exact ⟨⟨_, a0, b0, d0, a1, b1, d1, a2, b2, d2⟩, rfl, wf_I64 h1, k0, k1, k2⟩
theorem cel_of_sh {cs : List Value} {x : celSh.D} (h : celSh.Is w F cs x) : ∃ y : Cel, Rep.Is w F cs y := by
  obtain ⟨c1, c2, rfl, ⟨rfl, h1⟩, c3, c4, rfl, ⟨rfl, h2⟩, c5, c6, rfl, h3, rfl⟩ := h
  obtain ⟨a, rfl, ha⟩ := ag_of_sh h3
  exact ⟨⟨_, _, a⟩, rfl, wf_I64 h1, wf_I64 h2, ha⟩
theorem sl_of_sh {α : Type} [Rep α] {s : Sh} (hsz : s.size = Rep.size α) (f : ∀ (cs : List Value) (x : s.D), s.Is w F cs x → ∃ y : α, Rep.Is w F cs y) (ne : Nonempty α) {cs : List Value} {x : (Sh.slice s).D} (h : (Sh.slice s).Is w F cs x) : ∃ y : List α, Rep.Is w F cs y := by
  obtain ⟨A, c, css, h1, h2, h3, h4, h5, h6⟩ := h
  have hel : ∀ i, ∃ y : α, i < css.length → ∀ r, css[i]? = some r → Rep.Is w F r y := by
    intro i
    by_cases hi : i < css.length
    · have hi2 : i < List.length x := by omega
      obtain ⟨y, hy⟩ := f css[i] (List.get x ⟨i, hi2⟩) (h6 i _ _ (List.getElem?_eq_getElem hi) (List.getElem?_eq_getElem hi2))
      refine ⟨y, fun _ r hr => ?_⟩
      rw [List.getElem?_eq_getElem hi] at hr
      injection hr with hr
      subst hr
      exact hy
    · exact ne.elim fun y => ⟨y, fun h => absurd h hi⟩
  obtain ⟨g, hg⟩ := Classical.axiomOfChoice hel
  refine ⟨(List.range css.length).map g, _, h1, A, c, by simp [h4], by simp [h4]; exact h2, h3, css, ⟨by simp, fun i r y hr hy => ?_⟩, by simp only [List.length_map, List.length_range]; rw [← hsz, h4]; exact h5⟩
  have hi : i < css.length := (List.getElem?_eq_some_iff.1 hr).1
  rw [List.getElem?_map, List.getElem?_range hi] at hy
  injection hy with hy
  subst hy
  exact hg i hi r hr
theorem nod_of_sh {cs : List Value} {x : nodSh.D} (h : nodSh.Is w F cs x) : ∃ y : Nod, Rep.Is w F cs y := by
  obtain ⟨c1, c2, rfl, ⟨rfl, h1⟩, c3, c4, rfl, h2, c5, c6, rfl, h3, rfl⟩ := h
  obtain ⟨l, v, rfl, hl⟩ := sl_of_sh (α := List Cel) rfl (fun cs x hx => sl_of_sh (α := Cel) rfl (fun cs x hx => cel_of_sh hx) ⟨cel0⟩ hx) ⟨[]⟩ h2
  obtain ⟨a, rfl, ha⟩ := cel_of_sh h3
  exact ⟨⟨_, l, a⟩, v, rfl, wf_I64 h1, hl, ha⟩
theorem nods_of_sh {cs : List Value} {x : (Sh.slice nodSh).D} (h : (Sh.slice nodSh).Is w F cs x) : ∃ y : List Nod, Rep.Is w F cs y :=
  sl_of_sh (α := Nod) rfl (fun cs x hx => nod_of_sh hx) ⟨⟨0, [], cel0⟩⟩ h
theorem ints_of_sh {cs : List Value} {x : (Sh.slice i64Sh).D} (h : (Sh.slice i64Sh).Is w F cs x) : ∃ y : List Int, Rep.Is w F cs y :=
  sl_of_sh (α := Int) rfl (fun cs x hx => int_of_sh hx) ⟨0⟩ h
theorem shp_of_sh {cs : List Value} {x : shpSh.D} (h : shpSh.Is w F cs x) : ∃ y : Shp, Rep.Is w F cs y := by
  obtain ⟨c1, c2, rfl, h1, c3, c4, rfl, ⟨rfl, h2⟩, rfl⟩ := h
  obtain ⟨l, v, rfl, hl⟩ := sl_of_sh (α := List Int) rfl (fun cs x hx => ints_of_sh hx) ⟨[]⟩ h1
  exact ⟨⟨l, _⟩, v, rfl, hl, wf_I64 h2⟩
end
theorem fits_ints : (Sh.slice i64Sh).Fits Try.prog (.inl 26) := ⟨3, Try.underlying26, by kernel_rfl, by decide, Try.underlying3⟩
theorem fits_intss : (Sh.slice (.slice i64Sh)).Fits Try.prog (.inl 22) := ⟨26, Try.underlying22, by kernel_rfl, by decide, fits_ints⟩
theorem fits_part : partSh.Fits Try.prog (.inl 38) :=
  ⟨_, _, Try.underlying38, by kernel_rfl, rfl, by kernel_rfl, Try.underlying2, _, _, rfl, rfl, by kernel_rfl, Try.underlying2, _, _, rfl, rfl, by kernel_rfl, Try.underlying2, rfl⟩
theorem fits_ag : agSh.Fits Try.prog (.inl 41) :=
  ⟨_, _, Try.underlying41, by kernel_rfl, rfl, by kernel_rfl, Try.underlying2, _, _, rfl, rfl, by kernel_rfl, ⟨_, Try.underlying39, by kernel_rfl, by kernel_rfl, fits_part⟩, rfl⟩
theorem fits_cel : celSh.Fits Try.prog (.inl 43) :=
  ⟨_, _, Try.underlying43, by kernel_rfl, rfl, by kernel_rfl, Try.underlying3, _, _, rfl, rfl, by kernel_rfl, Try.underlying3, _, _, rfl, rfl, by kernel_rfl, fits_ag, rfl⟩
theorem fits_cels : (Sh.slice celSh).Fits Try.prog (.inl 83) := ⟨43, Try.underlying83, by kernel_rfl, by decide, fits_cel⟩
theorem fits_celss : (Sh.slice (.slice celSh)).Fits Try.prog (.inl 36) := ⟨83, Try.underlying36, by kernel_rfl, by decide, fits_cels⟩
theorem fits_nod : nodSh.Fits Try.prog (.inl 45) :=
  ⟨_, _, Try.underlying45, by kernel_rfl, rfl, by kernel_rfl, Try.underlying3, _, _, rfl, rfl, by kernel_rfl, fits_celss, _, _, rfl, rfl, by kernel_rfl, fits_cel, rfl⟩
theorem fits_nods : (Sh.slice nodSh).Fits Try.prog (.inl 25) := ⟨45, Try.underlying25, by kernel_rfl, by decide, fits_nod⟩
theorem fits_shp : shpSh.Fits Try.prog (.inl 24) :=
  ⟨_, _, Try.underlying24, by kernel_rfl, rfl, by kernel_rfl, fits_intss, _, _, rfl, rfl, by kernel_rfl, Try.underlying3, rfl⟩
end Go.Proofs.Ytgnpihhakogeeaa
