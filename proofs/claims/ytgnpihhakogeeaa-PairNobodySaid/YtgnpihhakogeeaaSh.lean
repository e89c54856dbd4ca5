/- Shapes of plain data: how a value of ints, bools, texts, slices and structs reads, whatever its depth; what came in reads so. -/
import Derived.Test.YtgnpihhakogeeaaV
import Derived.Deep.Slices
import Derived.ChangeArms
import Derived.OpenShut
namespace Go.Proofs.Ytgnpihhakogeeaa
set_option linter.unusedSimpArgs false
set_option linter.unusedVariables false
open Go.RowKit Go.Deep

inductive Sh where
  | int (k : IntKind)
  | bool
  | str
  | slice (e : Sh)
  | unit
  | pair (a b : Sh)
  | arr (n : Nat) (e : Sh)

def Sh.size : Sh → Nat
  | .unit => 0
  | .arr n e => n * e.size
  | .pair a b => a.size + b.size
  | _ => 1
def Sh.D : Sh → Type
  | .int _ => Int
  | .bool => Bool
  | .str => ByteArray
  | .slice e => List e.D
  | .unit => Unit
  | .pair a b => a.D × b.D
  | .arr _ e => List e.D

/-- The cells cs read as x; what they lead to lies in blocks of F. -/
def Sh.Is (w : World) (F : Nat → Prop) : (s : Sh) → List Value → s.D → Prop
  | .int k, cs, n => cs = [.int k n] ∧ (Lit.int k n).wf = true
  | .bool, cs, b => cs = [.bool b]
  | .str, cs, s => cs = [.string s] ∧ ByteArray.size s ≤ maxLen
  | .slice e, cs, l => ∃ (A : Option Addr) (c : Nat) (css : List (List Value)), cs = [.slice A (List.length l) c] ∧ List.length l ≤ c ∧ c ≤ maxLen ∧ css.length = List.length l ∧
      Rd w F e.size A (List.length l) css.flatten ∧ ∀ (i : Nat) (r : List Value) (x : e.D), css[i]? = some r → (show List e.D from l)[i]? = some x → Sh.Is w F e r x
  | .unit, cs, _ => cs = []
  | .pair a b, cs, x => ∃ c1 c2, cs = c1 ++ c2 ∧ Sh.Is w F a c1 x.1 ∧ Sh.Is w F b c2 x.2
  | .arr n e, cs, l => ∃ (css : List (List Value)), cs = css.flatten ∧ css.length = n ∧ List.length l = n ∧ (∀ r ∈ css, r.length = e.size) ∧
      ∀ (i : Nat) (r : List Value) (x : e.D), css[i]? = some r → (show List e.D from l)[i]? = some x → Sh.Is w F e r x

/-- how much it holds -/
def Sh.bulk : (s : Sh) → s.D → Nat
  | .int _, _ => 1
  | .bool, _ => 1
  | .str, s => ByteArray.size s + 1
  | .slice e, l => ((show List e.D from l).map e.bulk).sum + 1
  | .unit, _ => 0
  | .pair a b, x => a.bulk x.1 + b.bulk x.2
  | .arr _ e, l => ((show List e.D from l).map e.bulk).sum

theorem flat_len {css : List (List Value)} {m : Nat} (h : ∀ r ∈ css, r.length = m) : css.flatten.length = css.length * m := by
  induction css with
  | nil => simp
  | cons x r ih =>
    rw [List.flatten_cons, List.length_append, h x List.mem_cons_self, ih (fun y hy => h y (List.mem_cons_of_mem _ hy)), List.length_cons, Nat.add_mul]; omega
section
variable {w w' : World} {F F' : Nat → Prop}
theorem Sh.Is.len : ∀ {s : Sh} {cs : List Value} {x : s.D}, s.Is w F cs x → cs.length = s.size
  | .int _, _, _, h => by rw [h.1]; rfl
  | .bool, _, _, h => by rw [show _ = [_] from h]; rfl
  | .str, _, _, h => by rw [h.1]; rfl
  | .slice _, _, _, h => by obtain ⟨A, c, css, h, _⟩ := h; rw [h]; rfl
  | .unit, _, _, h => by rw [show _ = [] from h]; rfl
  | .pair a b, _, _, h => by
    obtain ⟨c1, c2, rfl, h1, h2⟩ := h
    rw [List.length_append, h1.len, h2.len]; rfl
  | .arr n e, _, _, h => by
    obtain ⟨css, rfl, h1, h2, h3, h4⟩ := h
    rw [flat_len h3, h1]; rfl
theorem Sh.Is.keep (hk : ∀ p : Addr, F p.block → w'.cell? p = w.cell? p) (hF : ∀ b, F b → F' b) : ∀ {s : Sh} {cs : List Value} {x : s.D}, s.Is w F cs x → s.Is w' F' cs x
  | .int _, _, _, h => h
  | .bool, _, _, h => h
  | .str, _, _, h => h
  | .slice _, _, _, h => by
    obtain ⟨A, c, css, h1, h2, h3, h4, h5, h6⟩ := h
    exact ⟨A, c, css, h1, h2, h3, h4, (h5.keep hk).more hF, fun i r x hr hx => (h6 i r x hr hx).keep hk hF⟩
  | .unit, _, _, h => h
  | .pair a b, _, _, h => by
    obtain ⟨c1, c2, h0, h1, h2⟩ := h
    exact ⟨c1, c2, h0, h1.keep hk hF, h2.keep hk hF⟩
  | .arr n e, _, _, h => by
    obtain ⟨css, h0, h1, h2, h3, h4⟩ := h
    exact ⟨css, h0, h1, h2, h3, fun i r x hr hx => (h4 i r x hr hx).keep hk hF⟩
theorem Sh.Is.kp {S : Nat → Prop} {s : Sh} {cs : List Value} {x : s.D} (h : s.Is w F cs x) (k : Kp S w w') (hF : ∀ b, F b → b < w.heap.size ∧ ¬ S b) : s.Is w' F cs x :=
  h.keep (fun _ hp => k.cell (hF _ hp).1 (hF _ hp).2) (fun _ h => h)
theorem Sh.Is.below {B : Nat} {s : Sh} {cs : List Value} {x : s.D} (h : s.Is w F cs x) (k : Below B w w') (hF : ∀ b, F b → b < B) : s.Is w' F cs x :=
  h.keep (fun _ hp => k.cell (hF _ hp)) (fun _ h => h)
theorem Sh.Is.more {s : Sh} {cs : List Value} {x : s.D} (h : s.Is w F cs x) (hF : ∀ b, F b → F' b) : s.Is w F' cs x :=
  h.keep (fun _ _ => rfl) hF
/-- every cell is one cell's value -/
theorem Sh.Is.one : ∀ {s : Sh} {cs : List Value} {x : s.D}, s.Is w F cs x → ∀ u ∈ cs, u.oneCell' = true
  | .int _, _, _, h, u, hu => by rw [h.1] at hu; simp at hu; subst hu; rfl
  | .bool, _, _, h, u, hu => by rw [show _ = [_] from h] at hu; simp at hu; subst hu; rfl
  | .str, _, _, h, u, hu => by rw [h.1] at hu; simp at hu; subst hu; rfl
  | .slice _, _, _, h, u, hu => by obtain ⟨A, c, css, h, _⟩ := h; rw [h] at hu; simp at hu; subst hu; rfl
  | .unit, _, _, h, u, hu => by rw [show _ = [] from h] at hu; cases hu
  | .pair a b, _, _, h, u, hu => by
    obtain ⟨c1, c2, rfl, h1, h2⟩ := h
    rcases List.mem_append.1 hu with hu | hu
    · exact h1.one u hu
    · exact h2.one u hu
  | .arr n e, _, l, h, u, hu => by
    obtain ⟨css, rfl, h1, h2, h3, h4⟩ := h
    obtain ⟨r, hr, hur⟩ := List.mem_flatten.1 hu
    obtain ⟨i, hi, rfl⟩ := List.getElem_of_mem hr
    have hi2 : i < List.length l := by omega
    exact (h4 i css[i] (List.get l ⟨i, hi2⟩) (List.getElem?_eq_getElem hi) (List.getElem?_eq_getElem hi2)).one u hur
end

/-- the type t (or, behind a place, the fields fs) is of that shape -/
def Sh.Fits (P : Program) : Sh → Sum TypeId (List Field × Nat) → Prop
  | .int k, .inl t => P.underlying t = some (.int k)
  | .bool, .inl t => P.underlying t = some .bool
  | .str, .inl t => P.underlying t = some .string
  | .slice e, .inl t => ∃ te, P.underlying t = some (.slice te) ∧ P.cellsOf te = e.size ∧ 0 < e.size ∧ e.Fits P (.inl te)
  | .unit, .inl t => P.underlying t = some (.struct #[]) ∧ P.cellsOf t = 0
  | .unit, .inr (fs, _) => fs = []
  | .pair a b, .inl t => ∃ f fs, P.underlying t = some (.struct (f :: fs).toArray) ∧ P.cellsOf t = a.size + b.size ∧ f.offset = 0 ∧ P.cellsOf f.type = a.size ∧ a.Fits P (.inl f.type) ∧ b.Fits P (.inr (fs, a.size))
  | .pair a b, .inr (fs, o) => ∃ f r, fs = f :: r ∧ f.offset = o ∧ P.cellsOf f.type = a.size ∧ a.Fits P (.inl f.type) ∧ b.Fits P (.inr (r, o + a.size))
  | .arr n e, .inl t => ∃ te, P.underlying t = some (.array n te) ∧ P.cellsOf t = n * e.size ∧ P.cellsOf te = e.size ∧ e.Fits P (.inl te)
  | _, _ => False

theorem cell_lt {w : World} {p : Addr} {v : Value} (h : w.cell? p = some v) : p.block < w.heap.size := by
  rcases Nat.lt_or_ge p.block w.heap.size with hlt | hge
  · exact hlt
  · unfold World.cell? at h
    rw [Array.getElem?_eq_none hge] at h
    cases h

theorem flatten_get {l : List (List Value)} {m : Nat} (h : ∀ r ∈ l, r.length = m) (hm : 0 < m) (j : Nat) : l.flatten[j]? = (l[j / m]?).bind (fun r => r[j % m]?) := by
  induction l generalizing j with
  | nil => simp
  | cons x r ih =>
    have hx := h x List.mem_cons_self
    rw [List.flatten_cons]
    by_cases hj : j < m
    · rw [List.getElem?_append_left (by omega), Nat.div_eq_of_lt hj, Nat.mod_eq_of_lt hj]
      simp
    · rw [List.getElem?_append_right (by omega), hx, ih (fun y hy => h y (List.mem_cons_of_mem _ hy))]
      have e1 : j / m = (j - m) / m + 1 := by
        rw [Nat.div_eq_sub_div hm (by omega)]
      have e2 : j % m = (j - m) % m := by
        rw [Nat.mod_eq_sub_mod (by omega)]
      rw [e1, e2]
      simp

theorem chunk_all (cs : List Value) (n m : Nat) (h : cs.length = n * m) : cs = ((List.range n).map fun i => (cs.drop (i * m)).take m).flatten := by
  induction n generalizing cs with
  | zero => simp at h ⊢; exact h
  | succ n ih =>
    rw [List.range_succ_eq_map, List.map_cons, List.flatten_cons, List.map_map]
    simp only [Nat.zero_mul, List.drop_zero]
    have h2 : (cs.drop m).length = n * m := by rw [List.length_drop, h, Nat.add_mul]; omega
    have := ih (cs.drop m) h2
    conv => lhs; rw [← List.take_append_drop m cs, this]
    congr 2
    apply List.map_congr_left
    intro i _
    simp only [Function.comp]
    rw [List.drop_drop, Nat.succ_mul, Nat.add_comm]

section
variable {H : Type} {enc : TypeId × Value → H} {P : Program} {w : World} {spare : Nat → Bool} {held : Bool}
/-- what can be read as data of a type of that shape reads so -/
theorem Sh.of_trod : ∀ (s : Sh) (t : TypeId) (fuel : Nat) (cs : List Value) (x : DataW H × List MemPlace), s.Fits P (.inl t) → DataW.trod enc P w 0 spare held fuel t cs = some x → ∃ y : s.D, s.Is w (· < w.heap.size) cs y := by
  intro s
  suffices hs : (∀ (t : TypeId) (fuel : Nat) (cs : List Value) (x : DataW H × List MemPlace), s.Fits P (.inl t) → DataW.trod enc P w 0 spare held fuel t cs = some x → ∃ y : s.D, s.Is w (· < w.heap.size) cs y) ∧
      (∀ (fs : List Field) (o fuel : Nat) (cs : List Value), s.Fits P (.inr (fs, o)) → o + s.size ≤ cs.length → (∀ f ∈ fs, ∃ x, DataW.trod enc P w 0 spare held fuel f.type ((cs.drop f.offset).take (P.cellsOf f.type)) = some x) → ∃ y : s.D, s.Is w (· < w.heap.size) ((cs.drop o).take s.size) y) from hs.1
  induction s with
  | int k =>
    refine ⟨fun t fuel cs x hf h => ?_, fun fs o fuel cs hf => by cases hf⟩
    obtain ⟨n, rfl, _, hw⟩ := DataW.trod_int hf h
    exact ⟨n, rfl, hw⟩
  | bool =>
    refine ⟨fun t fuel cs x hf h => ?_, fun fs o fuel cs hf => by cases hf⟩
    obtain ⟨b, rfl, _⟩ := DataW.trod_bool hf h
    exact ⟨b, rfl⟩
  | str =>
    refine ⟨fun t fuel cs x hf h => ?_, fun fs o fuel cs hf => by cases hf⟩
    obtain ⟨s, rfl, _, hw⟩ := DataW.trod_string hf h
    exact ⟨s, rfl, hw⟩
  | slice e ih =>
    refine ⟨fun t fuel cs x hf h => ?_, fun fs o fuel cs hf => by cases hf⟩
    obtain ⟨te, hte, hsz, hpos, hfe⟩ := hf
    rcases open_slice hte h with ⟨rfl, _⟩ | ⟨a, len, cap, m, n, Dd, Pl, rfl, _, hl, hm, hmm, _, hi⟩
    · exact ⟨([] : List e.D), none, 0, [], rfl, Nat.le_refl _, by unfold maxLen; omega, rfl, Rd.nil, fun i r x hr => by simp at hr⟩
    · have hmle : len ≤ m := by rw [hmm]; split <;> omega
      have hel : ∀ i, ∃ cy : List Value × e.D, i < len → (w.cells? 0 (a.add (i * e.size)) e.size = some cy.1 ∧ e.Is w (· < w.heap.size) cy.1 cy.2) := by
        intro i
        by_cases hlt : i < len
        · obtain ⟨cs', hc, ht'⟩ := hi i (by omega)
          rw [hsz] at hc
          obtain ⟨y, hy⟩ := ih.1 te n cs' _ hfe ht'
          exact ⟨(cs', y), fun _ => ⟨hc, hy⟩⟩
        · have hne : Nonempty e.D := by
            clear ih hfe hi hpos hsz
            induction e with
            | int k => exact ⟨(0 : Int)⟩
            | bool => exact ⟨false⟩
            | str => exact ⟨ByteArray.empty⟩
            | slice e _ => exact ⟨([] : List e.D)⟩
            | unit => exact ⟨()⟩
            | pair a b iha ihb => exact iha.elim fun x => ihb.elim fun y => ⟨(x, y)⟩
            | arr n e _ => exact ⟨([] : List e.D)⟩
          exact hne.elim fun y => ⟨([], y), fun h => absurd h hlt⟩
      obtain ⟨f, hf⟩ := Classical.axiomOfChoice hel
      have hlen1 : ∀ r ∈ (List.range len).map (fun i => (f i).1), r.length = e.size := by
        intro r hr
        obtain ⟨i, hi1, rfl⟩ := List.mem_map.1 hr
        exact (hf i (List.mem_range.1 hi1)).2.len
      refine ⟨(List.range len).map (fun i => (f i).2), some a, cap, (List.range len).map (fun i => (f i).1), ?_, ?_, hm, ?_, ?_, ?_⟩
      · simp
      · simpa using hl
      · simp
      · refine ⟨?_, fun hn => ⟨a, rfl, ?_, fun j u hu => ?_⟩⟩
        · rw [List.length_flatten]
          have : List.map List.length ((List.range len).map (fun i => (f i).1)) = List.replicate len e.size := by
            rw [List.eq_replicate_iff]
            refine ⟨by simp, fun b hb => ?_⟩
            obtain ⟨r, hr, rfl⟩ := List.mem_map.1 hb
            exact hlen1 r hr
          rw [this]
          simp
        · have hn' : 0 < len := by simpa using hn
          obtain ⟨hc, hy⟩ := hf 0 hn'
          obtain ⟨_, hcl, hat⟩ := World.cells?_some hc
          have h0 := hat 0 hpos
          have hl0 : 0 < (f 0).1.length := by rw [hy.len]; exact hpos
          rw [List.getElem?_eq_getElem hl0] at h0
          have := cell_lt h0
          rw [add_block, add_block] at this
          exact this
        · rw [flatten_get hlen1 hpos] at hu
          rcases hg : ((List.range len).map (fun i => (f i).1))[j / e.size]? with _ | r
          · rw [hg] at hu; cases hu
          · rw [hg] at hu
            simp only [Option.bind_some] at hu
            rw [List.getElem?_map] at hg
            rcases hg2 : (List.range len)[j / e.size]? with _ | i
            · rw [hg2] at hg; cases hg
            · rw [hg2] at hg
              obtain ⟨hi1, hi2⟩ := List.getElem?_eq_some_iff.1 hg2
              simp at hi1 hi2
              subst hi2
              simp at hg
              subst hg
              obtain ⟨hc, hy⟩ := hf _ hi1
              obtain ⟨_, hcl, hat⟩ := World.cells?_some hc
              have := hat (j % e.size) (Nat.mod_lt _ hpos)
              rw [add_add] at this
              rw [← hu, ← this]
              congr 2
              rw [Nat.mul_comm]
              exact (Nat.div_add_mod j e.size).symm
      · intro i r x hr hx
        rw [List.getElem?_map] at hr
        have hx' : ((List.range len).map (fun i => (f i).2))[i]? = some x := hx
        rw [List.getElem?_map] at hx'
        rcases hg : (List.range len)[i]? with _ | k
        · rw [hg] at hr; cases hr
        · rw [hg] at hr hx'
          simp at hr hx'
          subst hr hx'
          obtain ⟨hk1, hk2⟩ := List.getElem?_eq_some_iff.1 hg
          simp at hk1 hk2
          subst hk2
          exact (hf _ hk1).2
  | unit =>
    refine ⟨fun t fuel cs x hf h => ?_, fun fs o fuel cs hf _ _ => ⟨(), by simp [Sh.Is, Sh.size]⟩⟩
    obtain ⟨xs, n, _, _, hl, _⟩ := DataW.trod_struct hf.1 h
    exact ⟨(), List.eq_nil_of_length_eq_zero (by rw [hl, hf.2])⟩
  | pair a b iha ihb =>
    have hfields : ∀ (fs : List Field) (o fuel : Nat) (cs : List Value), (Sh.pair a b).Fits P (.inr (fs, o)) → o + (Sh.pair a b).size ≤ cs.length → (∀ f ∈ fs, ∃ x, DataW.trod enc P w 0 spare held fuel f.type ((cs.drop f.offset).take (P.cellsOf f.type)) = some x) → ∃ y : (Sh.pair a b).D, (Sh.pair a b).Is w (· < w.heap.size) ((cs.drop o).take (Sh.pair a b).size) y := by
      intro fs o fuel cs hf hl h
      obtain ⟨f, r, rfl, ho, hc, hfa, hfb⟩ := hf
      simp only [Sh.size] at hl
      obtain ⟨xa, hxa⟩ := h f List.mem_cons_self
      rw [ho, hc] at hxa
      obtain ⟨ya, hya⟩ := iha.1 f.type fuel _ xa hfa hxa
      obtain ⟨yb, hyb⟩ := ihb.2 r (o + a.size) fuel cs hfb (by omega) (fun g hg => h g (List.mem_cons_of_mem _ hg))
      refine ⟨(ya, yb), _, _, ?_, hya, hyb⟩
      simp only [Sh.size]
      rw [← List.drop_drop, List.take_add]
    refine ⟨fun t fuel cs x hf h => ?_, hfields⟩
    obtain ⟨f, fs, hu, hct, ho, hc, hfa, hfb⟩ := hf
    obtain ⟨xs, n, _, _, hl, hxl, hall⟩ := DataW.trod_struct hu h
    have := hfields (f :: fs) 0 n cs ⟨f, fs, rfl, ho, hc, hfa, by simpa using hfb⟩ (by simp only [Sh.size]; omega) (fun g hg => by
      obtain ⟨i, hi, rfl⟩ := List.getElem_of_mem hg
      have h1 := hall i (f :: fs)[i] (by simp [hi])
      rw [List.getElem?_eq_getElem (by rw [hxl]; simpa using hi)] at h1
      exact ⟨_, h1⟩)
    obtain ⟨y, hy⟩ := this
    refine ⟨y, ?_⟩
    rw [List.drop_zero, List.take_of_length_le (by simp only [Sh.size]; omega)] at hy
    exact hy
  | arr n e ih =>
    refine ⟨fun t fuel cs x hf h => ?_, fun fs o fuel cs hf => by cases hf⟩
    obtain ⟨te, hte, hct, hce, hfe⟩ := hf
    obtain ⟨xs, m, _, _, hl, hxl, hall⟩ := DataW.trod_array hte h
    rw [hct] at hl
    have hel : ∀ i, ∃ y : e.D, i < n → e.Is w (· < w.heap.size) ((cs.drop (i * e.size)).take e.size) y := by
      intro i
      by_cases hi : i < n
      · have h1 := hall i hi
        rw [hce, List.getElem?_eq_getElem (by omega)] at h1
        obtain ⟨y, hy⟩ := ih.1 te m _ _ hfe h1
        exact ⟨y, fun _ => hy⟩
      · have hne : Nonempty e.D := by
          clear ih hfe hall hl hct hce
          induction e with
          | int k => exact ⟨(0 : Int)⟩
          | bool => exact ⟨false⟩
          | str => exact ⟨ByteArray.empty⟩
          | slice e _ => exact ⟨([] : List e.D)⟩
          | unit => exact ⟨()⟩
          | pair a b iha ihb => exact iha.elim fun x => ihb.elim fun y => ⟨(x, y)⟩
          | arr n e _ => exact ⟨([] : List e.D)⟩
        exact hne.elim fun y => ⟨y, fun h => absurd h hi⟩
    obtain ⟨f, hf⟩ := Classical.axiomOfChoice hel
    refine ⟨(List.range n).map f, (List.range n).map (fun i => (cs.drop (i * e.size)).take e.size), ?_, by simp, by simp, ?_, ?_⟩
    · exact chunk_all cs n e.size hl
    · intro r hr
      obtain ⟨i, hi, rfl⟩ := List.mem_map.1 hr
      exact (hf i (List.mem_range.1 hi)).len
    · intro i r x hr hx
      have hx' : ((List.range n).map f)[i]? = some x := hx
      rw [List.getElem?_map] at hr hx'
      rcases hg : (List.range n)[i]? with _ | k
      · rw [hg] at hr; cases hr
      · rw [hg] at hr hx'
        simp at hr hx'
        subst hr hx'
        obtain ⟨hk1, hk2⟩ := List.getElem?_eq_some_iff.1 hg
        simp at hk1 hk2
        subst hk2
        exact hf _ hk1
end
end Go.Proofs.Ytgnpihhakogeeaa
