/- How plain data lie in memory: a class; slices of it; slices of one's own. -/
import Derived.Test.YtgnpihhakogeeaaSh
namespace Go.Proofs.Ytgnpihhakogeeaa
set_option linter.unusedSimpArgs false
set_option linter.unusedVariables false
open Go.RowKit

theorem bcell {W w1 : World} (hb : Below W.heap.size W w1) : (∀ b o, b < W.heap.size → w1.cell? ⟨b, o, none⟩ = W.cell? ⟨b, o, none⟩) ∧ (∀ b o, b < W.heap.size → w1.frozen? ⟨b, o, none⟩ = W.frozen? ⟨b, o, none⟩) :=
  ⟨fun b o h => hb.cell (p := ⟨b, o, none⟩) h, fun b o h => hb.frozen (p := ⟨b, o, none⟩) h⟩

def I64 (n : Int) : Prop := -9223372036854775808 ≤ n ∧ n ≤ 9223372036854775807

class Rep (α : Type) where
  size : Nat
  pos : 0 < size
  Is : World → (Nat → Prop) → List Value → α → Prop
  len : ∀ {w F cs x}, Is w F cs x → cs.length = size
  one : ∀ {w F cs x}, Is w F cs x → ∀ u ∈ cs, u.oneCell' = true
  keep : ∀ {w w' F F' cs x}, (∀ p : Addr, F p.block → w'.cell? p = w.cell? p) → (∀ b, F b → F' b) → Is w F cs x → Is w' F' cs x

section
variable {α : Type} [Rep α] {w w' : World} {F F' : Nat → Prop} {cs : List Value} {x : α}
theorem Rep.kp {S : Nat → Prop} (h : Rep.Is w F cs x) (k : Kp S w w') (hF : ∀ b, F b → b < w.heap.size ∧ ¬ S b) : Rep.Is w' F cs x :=
  Rep.keep (fun _ hp => k.cell (hF _ hp).1 (hF _ hp).2) (fun _ h => h) h
theorem Rep.below {B : Nat} (h : Rep.Is w F cs x) (k : Below B w w') (hF : ∀ b, F b → b < B) : Rep.Is w' F cs x :=
  Rep.keep (fun _ hp => k.cell (hF _ hp)) (fun _ h => h) h
theorem Rep.more (h : Rep.Is w F cs x) (hF : ∀ b, F b → F' b) : Rep.Is w F' cs x := Rep.keep (fun _ _ => rfl) hF h
end

/-- rows of cells, one for each datum -/
def Rws {α : Type} [Rep α] (w : World) (F : Nat → Prop) (css : List (List Value)) (l : List α) : Prop :=
  css.length = l.length ∧ ∀ (i : Nat) (r : List Value) (x : α), css[i]? = some r → l[i]? = some x → Rep.Is w F r x
section
variable {α : Type} [Rep α] {w w' : World} {F F' : Nat → Prop} {css css' : List (List Value)} {l l' : List α}
theorem Rws.nil : Rws w F [] ([] : List α) := ⟨rfl, fun i r x h => by simp at h⟩
theorem Rws.keep (hk : ∀ p : Addr, F p.block → w'.cell? p = w.cell? p) (hF : ∀ b, F b → F' b) (h : Rws w F css l) : Rws w' F' css l :=
  ⟨h.1, fun i r x hr hx => Rep.keep hk hF (h.2 i r x hr hx)⟩
theorem Rws.app (h : Rws w F css l) (h' : Rws w F css' l') : Rws w F (css ++ css') (l ++ l') := by
  refine ⟨by rw [List.length_append, List.length_append, h.1, h'.1], fun i r x hr hx => ?_⟩
  by_cases hi : i < css.length
  · rw [List.getElem?_append_left hi] at hr
    rw [List.getElem?_append_left (by rw [← h.1]; exact hi)] at hx
    exact h.2 i r x hr hx
  · rw [List.getElem?_append_right (by omega)] at hr
    rw [List.getElem?_append_right (by rw [← h.1]; omega), ← h.1] at hx
    exact h'.2 _ r x hr hx
theorem Rws.single {cs : List Value} {x : α} (h : Rep.Is w F cs x) : Rws w F [cs] [x] := by
  refine ⟨rfl, fun i r y hr hy => ?_⟩
  cases i with
  | zero => simp at hr hy; subst hr hy; exact h
  | succ i => simp at hr
theorem Rws.lens (h : Rws w F css l) : ∀ r ∈ css, r.length = Rep.size α := by
  intro r hr
  obtain ⟨i, hi, rfl⟩ := List.getElem_of_mem hr
  exact Rep.len (h.2 i css[i] (l[i]'(by rw [← h.1]; exact hi)) (List.getElem?_eq_getElem hi) (List.getElem?_eq_getElem _))
theorem Rws.flat (h : Rws w F css l) : css.flatten.length = l.length * Rep.size α := by rw [flat_len h.lens, h.1]
theorem Rws.one (h : Rws w F css l) : ∀ u ∈ css.flatten, u.oneCell' = true := by
  intro u hu
  obtain ⟨r, hr, hur⟩ := List.mem_flatten.1 hu
  obtain ⟨i, hi, rfl⟩ := List.getElem_of_mem hr
  exact Rep.one (h.2 i css[i] (l[i]'(by rw [← h.1]; exact hi)) (List.getElem?_eq_getElem hi) (List.getElem?_eq_getElem _)) u hur
theorem Rws.get (h : Rws w F css l) {i : Nat} (hi : i < l.length) : ∃ r, css[i]? = some r ∧ Rep.Is w F r l[i] ∧ ∀ j u, r[j]? = some u → css.flatten[i * Rep.size α + j]? = some u := by
  have hi2 : i < css.length := by rw [h.1]; exact hi
  have hr := h.2 i css[i] l[i] (List.getElem?_eq_getElem hi2) (List.getElem?_eq_getElem hi)
  refine ⟨css[i], List.getElem?_eq_getElem hi2, hr, fun j u hu => ?_⟩
  have hj : j < Rep.size α := by
    have := (List.getElem?_eq_some_iff.1 hu).1
    rw [Rep.len hr] at this; exact this
  rw [flatten_get h.lens Rep.pos]
  have e1 : (i * Rep.size α + j) / Rep.size α = i := by
    rw [Nat.mul_comm, Nat.mul_add_div Rep.pos, Nat.div_eq_of_lt hj]; rfl
  have e2 : (i * Rep.size α + j) % Rep.size α = j := by
    rw [Nat.mul_comm, Nat.mul_add_mod, Nat.mod_eq_of_lt hj]
  rw [e1, e2, List.getElem?_eq_getElem hi2]
  exact hu
theorem Rws.drop (h : Rws w F css l) (k : Nat) : Rws w F (css.drop k) (l.drop k) :=
  ⟨by simp [h.1], fun i r x hr hx => by rw [List.getElem?_drop] at hr hx; exact h.2 _ r x hr hx⟩
theorem Rws.take (h : Rws w F css l) (k : Nat) : Rws w F (css.take k) (l.take k) :=
  ⟨by simp [h.1], fun i r x hr hx => by
    rw [List.getElem?_take] at hr hx
    split at hr
    · rename_i hlt; rw [if_pos hlt] at hx; exact h.2 _ r x hr hx
    · cases hr⟩
end

/-- the elements of a slice at A -/
def ElemsAt {α : Type} [Rep α] (w : World) (F : Nat → Prop) (A : Option Addr) (l : List α) : Prop := ∃ css, Rws w F css l ∧ Rd w F (Rep.size α) A l.length css.flatten
/-- a slice value that reads as data -/
def SlAt {α : Type} [Rep α] (w : World) (F : Nat → Prop) (v : Value) (l : List α) : Prop := ∃ A c, v = .slice A l.length c ∧ l.length ≤ c ∧ c ≤ maxLen ∧ ElemsAt w F A l
section
variable {α : Type} [Rep α] {w w' : World} {F F' : Nat → Prop} {A : Option Addr} {v : Value} {l : List α}
theorem ElemsAt.keep (hk : ∀ p : Addr, F p.block → w'.cell? p = w.cell? p) (hF : ∀ b, F b → F' b) (h : ElemsAt w F A l) : ElemsAt w' F' A l := by
  obtain ⟨css, h1, h2⟩ := h
  exact ⟨css, h1.keep hk hF, (h2.keep hk).more hF⟩
theorem SlAt.keep (hk : ∀ p : Addr, F p.block → w'.cell? p = w.cell? p) (hF : ∀ b, F b → F' b) (h : SlAt w F v l) : SlAt w' F' v l := by
  obtain ⟨A, c, e, h1, h2, h3⟩ := h
  exact ⟨A, c, e, h1, h2, h3.keep hk hF⟩
theorem SlAt.kp {S : Nat → Prop} (h : SlAt w F v l) (k : Kp S w w') (hF : ∀ b, F b → b < w.heap.size ∧ ¬ S b) : SlAt w' F v l := h.keep (fun _ hp => k.cell (hF _ hp).1 (hF _ hp).2) (fun _ h => h)
theorem SlAt.below {B : Nat} (h : SlAt w F v l) (k : Below B w w') (hF : ∀ b, F b → b < B) : SlAt w' F v l := h.keep (fun _ hp => k.cell (hF _ hp)) (fun _ h => h)
theorem SlAt.more (h : SlAt w F v l) (hF : ∀ b, F b → F' b) : SlAt w F' v l := h.keep (fun _ _ => rfl) hF
theorem ElemsAt.kp {S : Nat → Prop} (h : ElemsAt w F A l) (k : Kp S w w') (hF : ∀ b, F b → b < w.heap.size ∧ ¬ S b) : ElemsAt w' F A l := h.keep (fun _ hp => k.cell (hF _ hp).1 (hF _ hp).2) (fun _ h => h)
theorem ElemsAt.below {B : Nat} (h : ElemsAt w F A l) (k : Below B w w') (hF : ∀ b, F b → b < B) : ElemsAt w' F A l := h.keep (fun _ hp => k.cell (hF _ hp)) (fun _ h => h)
theorem ElemsAt.more (h : ElemsAt w F A l) (hF : ∀ b, F b → F' b) : ElemsAt w F' A l := h.keep (fun _ _ => rfl) hF
theorem SlAt.nil : SlAt w F (.slice none 0 0) ([] : List α) := ⟨none, 0, rfl, Nat.le_refl _, by unfold maxLen; omega, [], Rws.nil, Rd.nil⟩
theorem ElemsAt.nil : ElemsAt w F A ([] : List α) := ⟨[], Rws.nil, Rd.nil⟩
theorem SlAt.mk' {c : Nat} (h : ElemsAt w F A l) (h1 : l.length ≤ c) (h2 : c ≤ maxLen) : SlAt w F (.slice A l.length c) l := ⟨A, c, rfl, h1, h2, h⟩
/-- the i-th element -/
theorem ElemsAt.get (h : ElemsAt w F A l) {i : Nat} (hi : i < l.length) : ∃ b o r, A = some ⟨b, o, none⟩ ∧ F b ∧ Rep.Is w F r l[i] ∧ ∀ j u, r[j]? = some u → w.cell? ⟨b, o + i * Rep.size α + j, none⟩ = some u := by
  obtain ⟨css, h1, h2⟩ := h
  obtain ⟨b, o, e, hF, hc⟩ := h2.lit (by omega) Rep.pos
  obtain ⟨r, _, hr, hj⟩ := h1.get hi
  exact ⟨b, o, r, e, hF, hr, fun j u hu => by rw [Nat.add_assoc]; exact hc _ u (hj j u hu)⟩
theorem ElemsAt.lt (h : ElemsAt w F A l) {b o : Nat} (hA : A = some ⟨b, o, none⟩) (hl : 0 < l.length) : b < w.heap.size := by
  obtain ⟨b', o', r, e, hF, hr, hc⟩ := h.get hl
  rw [hA] at e
  injection e with e
  injection e with e1 e2
  subst e1
  have hp : 0 < r.length := by rw [Rep.len hr]; exact Rep.pos
  exact cell_lt (hc 0 r[0] (List.getElem?_eq_getElem hp))
end

instance : Rep Int where
  size := 1
  pos := Nat.one_pos
  Is _ _ cs x := cs = [.int .i64 x] ∧ I64 x
  len h := by rw [h.1]; rfl
  one h u hu := by rw [h.1] at hu; simp at hu; subst hu; rfl
  keep _ _ h := h
instance : Rep Bool where
  size := 1
  pos := Nat.one_pos
  Is _ _ cs x := cs = [.bool x]
  len h := by rw [h]; rfl
  one h u hu := by rw [h] at hu; simp at hu; subst hu; rfl
  keep _ _ h := h
instance : Rep ByteArray where
  size := 1
  pos := Nat.one_pos
  Is _ _ cs x := cs = [.string x] ∧ x.size ≤ maxLen
  len h := by rw [h.1]; rfl
  one h u hu := by rw [h.1] at hu; simp at hu; subst hu; rfl
  keep _ _ h := h
instance {α : Type} [Rep α] : Rep (List α) where
  size := 1
  pos := Nat.one_pos
  Is w F cs l := ∃ v, cs = [v] ∧ SlAt w F v l
  len h := by obtain ⟨v, e, _⟩ := h; rw [e]; rfl
  one h u hu := by obtain ⟨v, e, A, c, e2, _⟩ := h; rw [e] at hu; simp at hu; subst hu; rw [e2]; rfl
  keep hk hF h := by obtain ⟨v, e, h⟩ := h; exact ⟨v, e, h.keep hk hF⟩

section
variable {w w' : World} {F F' : Nat → Prop} {A : Option Addr} {v : Value}
theorem ElemsAt.int {l : List Int} (h : ElemsAt w F A l) {i : Nat} (hi : i < l.length) : ∃ b o, A = some ⟨b, o, none⟩ ∧ F b ∧ b < w.heap.size ∧ w.cell? ⟨b, o + i, none⟩ = some (.int .i64 l[i]) ∧ I64 l[i] := by
  obtain ⟨b, o, r, e, hF, ⟨hr, h64⟩, hc⟩ := h.get hi
  subst hr
  have := hc 0 _ rfl
  simp only [Rep.size, Nat.mul_one, Nat.add_zero] at this
  exact ⟨b, o, e, hF, cell_lt this, this, h64⟩
theorem ElemsAt.sub {α : Type} [Rep α] {l : List (List α)} (h : ElemsAt w F A l) {i : Nat} (hi : i < l.length) : ∃ b o B c, A = some ⟨b, o, none⟩ ∧ F b ∧ b < w.heap.size ∧ w.cell? ⟨b, o + i, none⟩ = some (.slice B l[i].length c) ∧ l[i].length ≤ c ∧ c ≤ maxLen ∧ ElemsAt w F B l[i] := by
  obtain ⟨b, o, r, e, hF, ⟨v, hr, B, c, rfl, h1, h2, h3⟩, hc⟩ := h.get hi
  subst hr
  have := hc 0 _ rfl
  simp only [Rep.size, Nat.mul_one, Nat.add_zero] at this
  exact ⟨b, o, B, c, e, hF, cell_lt this, this, h1, h2, h3⟩
end

/-- a slice of one's own, in construction: its elements lead to other blocks than its own, blocks of G -/
def OwnG {α : Type} [Rep α] (G : Nat → Prop) (w : World) (base : Nat) (E : TypeId) (v : Value) (l : List α) : Prop :=
  ∃ css, w.ownsRow base E (Rep.size α) v l.length css.flatten ∧ Rws w (fun b => G b ∧ b < w.heap.size ∧ v.ownBlock ≠ some b) css l
abbrev OwnL {α : Type} [Rep α] (w : World) (base : Nat) (E : TypeId) (v : Value) (l : List α) : Prop := OwnG (fun _ => True) w base E v l
section
variable {α : Type} [Rep α] {G G' : Nat → Prop} {w w' : World} {base : Nat} {E : TypeId} {v : Value} {l : List α}
theorem OwnG.nil : OwnG G w base E (.slice none 0 0) ([] : List α) := ⟨[], World.ownsRow_nil _ _ _ _, Rws.nil⟩
theorem OwnL.nil : OwnL w base E (.slice none 0 0) ([] : List α) := OwnG.nil
theorem OwnG.form (h : OwnG G w base E v l) : ∃ A c, v = .slice A l.length c ∧ l.length ≤ c ∧ c ≤ maxLen := by
  obtain ⟨css, h1, h2⟩ := h
  exact own_form h1
theorem OwnG.block (h : OwnG G w base E v l) : ∀ k, v.ownBlock = some k → base ≤ k ∧ k < w.heap.size := by
  obtain ⟨css, h1, h2⟩ := h
  exact own_block h1
theorem OwnG.more (h : OwnG G w base E v l) (hG : ∀ b, b < w.heap.size → G b → G' b) : OwnG G' w base E v l := by
  obtain ⟨css, h1, h2⟩ := h
  exact ⟨css, h1, h2.keep (fun _ _ => rfl) (fun b hb => ⟨hG b hb.2.1 hb.1, hb.2⟩)⟩
theorem OwnG.sl (h : OwnG G w base E v l) : SlAt w (· < w.heap.size) v l := by
  obtain ⟨css, h1, h2⟩ := h
  obtain ⟨A, c, rfl, h3, h4⟩ := own_form h1
  exact ⟨A, c, rfl, h3, h4, css, h2.keep (fun _ _ => rfl) (fun b hb => hb.2.1), (Rd.of_own h1).more (fun b hb => hb.2)⟩
/-- all of it lies in new blocks -/
theorem OwnG.slG (h : OwnG (fun b => base ≤ b) w base E v l) : SlAt w (fun b => base ≤ b ∧ b < w.heap.size) v l := by
  obtain ⟨css, h1, h2⟩ := h
  obtain ⟨A, c, rfl, h3, h4⟩ := own_form h1
  exact ⟨A, c, rfl, h3, h4, css, h2.keep (fun _ _ => rfl) (fun b hb => ⟨hb.1, hb.2.1⟩), Rd.of_own h1⟩
theorem OwnG.kpS {S : Nat → Prop} (h : OwnG G w base E v l) (k : Kp S w w') (hv : ∀ b, v.ownBlock = some b → ¬ S b) (hS : ∀ b, b < w.heap.size → G b → ¬ S b) : OwnG G w' base E v l := by
  obtain ⟨css, h1, h2⟩ := h
  refine ⟨css, ?_, h2.keep (fun p hp => k.cell hp.2.1 (hS _ hp.2.1 hp.1)) (fun b hb => ⟨hb.1, Nat.lt_of_lt_of_le hb.2.1 k.size, hb.2.2⟩)⟩
  refine ⟨h1.1, ?_⟩
  rcases h1.2 with h3 | ⟨g, cap, cur, e, hg, hc, r⟩
  · exact .inl h3
  · refine .inr ⟨g, cap, cur, e, hg, ?_, r⟩
    have hlt : g < w.heap.size := by
      rcases Nat.lt_or_ge g w.heap.size with hlt | hge
      · exact hlt
      · rw [Array.getElem?_eq_none hge] at hc; cases hc
    rw [k.block g hlt (hv g (by rw [e]; rfl))]
    exact hc
theorem OwnG.kp {S : Nat → Prop} (h : OwnG G w base E v l) (k : Kp S w w') (hS : ∀ b, b < w.heap.size → ¬ S b) : OwnG G w' base E v l :=
  h.kpS k (fun b hb => hS b (h.block b hb).2) (fun b hb _ => hS b hb)
theorem OwnG.below (h : OwnG G w base E v l) (k : Below w.heap.size w w') : OwnG G w' base E v l := h.kp (Kp.of_below (S := fun _ => False) k) (fun _ _ h => h)
theorem OwnG.alloc (h : OwnG G w base E v l) (o : Obj) : OwnG G (w.alloc o) base E v l := h.kp ((Kp.refl (fun _ => False) w).alloc o) (fun _ _ h => h)
theorem OwnG.drewN (h : OwnG G w base E v l) (n : Nat) : OwnG G (w.drewN n) base E v l := h.kp ((Kp.refl (fun _ => False) w).drewN n) (fun _ _ h => h)
theorem OwnG.drew (h : OwnG G w base E v l) : OwnG G w.drew base E v l := h.kp ((Kp.refl (fun _ => False) w).drew) (fun _ _ h => h)
theorem OwnG.setCell (h : OwnG G w base E v l) {p : Addr} (hp : v.ownBlock ≠ some p.block) (hG : ¬ G p.block) (u : Value) : OwnG G (w.setCell p u) base E v l :=
  h.kpS ((Kp.refl (fun b => b = p.block) w).setCell (p := p) (.inl rfl) u) (fun b hb e => hp (by rw [← e]; exact hb)) (fun b _ hb e => hG (by rw [← e]; exact hb))
theorem OwnG.weaken {base' : Nat} (h : OwnG G w base E v l) (hb : base' ≤ base) : OwnG G w base' E v l := by
  obtain ⟨css, h1, h2⟩ := h
  refine ⟨css, ⟨h1.1, ?_⟩, h2⟩
  rcases h1.2 with h3 | ⟨g, cap, cur, e, hg, r⟩
  · exact .inl h3
  · exact .inr ⟨g, cap, cur, e, by omega, r⟩
/-- its block is of that element type -/
theorem OwnG.ne {g : Nat} {t : TypeId} {cs : List Value} (h : OwnG G w base E v l) (hb : Blk w g t cs) (hne : E ≠ t) : v.ownBlock ≠ some g := by
  obtain ⟨css, h1, h2⟩ := h
  intro e
  rcases h1.2 with ⟨rfl, _⟩ | ⟨g', cap, cur, rfl, hg, hc, r⟩
  · cases e
  · have e : g' = g := by injection e
    subst e
    unfold Blk at hb
    rw [hb] at hc
    injection hc with hc
    injection hc with _ ht
    exact hne ht.symm
end

section
variable {P : Program} {α : Type} [Rep α] {G : Nat → Prop} (w : World)
theorem run_append_el (base : Nat) (t ty e : TypeId) (i : TypeInfo) (z : Value) (bytes : Nat) (ht : P.underlying t = some (.slice e)) (hi : P.info? e = some i) (hz : i.zero = some z)
    (hsize : i.size = Rep.size α) (hby : i.bytes = bytes) (hzs : z.cells.size = Rep.size α)
    (v : Value) (l : List α) (hown : OwnG G w base e v l)
    (A : Option Addr) (c : Nat) (news : List α) (hr : ElemsAt w (fun b => G b ∧ b < w.heap.size ∧ v.ownBlock ≠ some b) A news)
    (h63 : l.length + news.length ≤ maxLen) (hbytes : (l.length + news.length) * bytes ≤ 140737488355328) (hbase : base ≤ w.heap.size) :
    ∃ v' w', (Builtin.append_ #[t, t] ty #[v, .slice A news.length c]).run P w = .ok v' w' ∧ OwnG G w' base e v' (l ++ news) ∧ w.grownBy w' v.ownBlock ∧ (v'.ownBlock = v.ownBlock ∨ v'.ownBlock = some w.heap.size) := by
  obtain ⟨css, h1, h2⟩ := hown
  obtain ⟨csn, h3, h4⟩ := hr
  obtain ⟨v', w', hrun, h5, h6, h7⟩ := run_append_rd (P := P) w base t ty e i z (Rep.size α) bytes ht hi hz hsize hby hzs Rep.pos v l.length css.flatten h1 _ A news.length c csn.flatten h4 h3.one h63 hbytes hbase
  refine ⟨v', w', hrun, ⟨css ++ csn, by rw [List.length_append, List.flatten_append]; exact h5, ?_⟩, h6, h7⟩
  have hk : ∀ p : Addr, (G p.block ∧ p.block < w.heap.size ∧ v.ownBlock ≠ some p.block) → w'.cell? p = w.cell? p := fun p hp => World.cell?_of_block (h6.block _ hp.2.1 (fun e => hp.2.2 (by rw [← e])))
  have hF : ∀ b, (G b ∧ b < w.heap.size ∧ v.ownBlock ≠ some b) → (G b ∧ b < w'.heap.size ∧ v'.ownBlock ≠ some b) := by
    intro b hb
    refine ⟨hb.1, Nat.lt_of_lt_of_le hb.2.1 h6.size, fun e => ?_⟩
    rcases h7 with h7 | h7
    · exact hb.2.2 (by rw [← h7]; exact e)
    · rw [h7] at e; injection e with e; omega
  exact (h2.app h3).keep hk hF
/-- append to a slice of one's own, of a slice that reads as data whose own blocks are others -/
theorem wpList_append_el {ops : Array Oper} {rest : List Oper} {o : Oper} {a : Act} {Q : Exit → Act → World → Prop} (hgd : o.guard = none) (s x : Operand) (t : TypeId)
    (ho : o.op = .call { callee := .builtin .append, args := #[s, x], argTypes := #[t, t] })
    (base : Nat) (e : TypeId) (i : TypeInfo) (z : Value) (bytes : Nat) (ht : P.underlying t = some (.slice e)) (hi : P.info? e = some i) (hz : i.zero = some z)
    (hsize : i.size = Rep.size α) (hby : i.bytes = bytes) (hzs : z.cells.size = Rep.size α)
    (v : Value) (l : List α) (hs : a.eval s = v) (hown : OwnG G w base e v l)
    (A : Option Addr) (m c : Nat) (news : List α) (hx : a.eval x = .slice A m c) (hm : news.length = m) (hr : ElemsAt w (fun b => G b ∧ b < w.heap.size ∧ v.ownBlock ≠ some b) A news)
    (h63 : l.length + m ≤ maxLen) (hbytes : (l.length + m) * bytes ≤ 140737488355328) (hbase : base ≤ w.heap.size)
    (h : ∀ v' w', OwnG G w' base e v' (l ++ news) → w.grownBy w' v.ownBlock → (v'.ownBlock = v.ownBlock ∨ v'.ownBlock = some w.heap.size) → wpList P ops Q rest (a.put o.dst v') w') : wpList P ops Q (o :: rest) a w := by
  subst hm
  obtain ⟨v', w', hrun, h5, h6, h7⟩ := run_append_el (P := P) w base t o.type e i z bytes ht hi hz hsize hby hzs v l hown A c news hr h63 hbytes hbase
  refine wpList_plain hgd fun _ hK => ?_
  unfold Oper.wp execOp
  simp only [ho, resolve, invoke, builtin, Sem.run_bind, Sem.run_pure, Result.andThen_ok, List.map_toArray, List.map_cons, List.map_nil, hs, hx, hrun]
  exact hK _ _ (h v' w' h5 h6 h7)
/-- the same, at a step of a region that draws its order; the new value is written out -/
theorem step_append_el {ops : Array Oper} {o : Oper} {a : Act} {K : Act → World → Prop} {Q : Exit → Act → World → Prop} {X : Prop} (hgd : o.guard = none) (s x : Operand) (t : TypeId)
    (ho : o.op = .call { callee := .builtin .append, args := #[s, x], argTypes := #[t, t] })
    (base : Nat) (e : TypeId) (i : TypeInfo) (z : Value) (bytes : Nat) (ht : P.underlying t = some (.slice e)) (hi : P.info? e = some i) (hz : i.zero = some z)
    (hsize : i.size = Rep.size α) (hby : i.bytes = bytes) (hzs : z.cells.size = Rep.size α)
    (v : Value) (l : List α) (hs : a.eval s = v) (hown : OwnG G w base e v l)
    (A : Option Addr) (m c : Nat) (news : List α) (hx : a.eval x = .slice A m c) (hm : news.length = m) (hr : ElemsAt w (fun b => G b ∧ b < w.heap.size ∧ v.ownBlock ≠ some b) A news)
    (h63 : l.length + m ≤ maxLen) (hbytes : (l.length + m) * bytes ≤ 140737488355328) (hbase : base ≤ w.heap.size)
    (h : ∀ A' c' w', OwnG G w' base e (.slice A' (l.length + m) c') (l ++ news) → w.grownBy w' v.ownBlock → ((Value.slice A' (l.length + m) c').ownBlock = v.ownBlock ∨ (Value.slice A' (l.length + m) c').ownBlock = some w.heap.size) → K (a.put o.dst (.slice A' (l.length + m) c')) w') :
    if Region.wanted o (yielded ops a.tmps) = true then Oper.wp P o a w K Q else X := by
  subst hm
  obtain ⟨v', w', hrun, h5, h6, h7⟩ := run_append_el (P := P) w base t o.type e i z bytes ht hi hz hsize hby hzs v l hown A c news hr h63 hbytes hbase
  have hw : Region.wanted o (yielded ops a.tmps) = true := by simp [Region.wanted, hgd]
  rw [if_pos hw]
  obtain ⟨A', c', rfl, _⟩ := h5.form
  rw [List.length_append] at h5 h7 hrun
  unfold Oper.wp execOp
  simp only [ho, resolve, invoke, builtin, Sem.run_bind, Sem.run_pure, Result.andThen_ok, List.map_toArray, List.map_cons, List.map_nil, hs, hx, hrun]
  exact h A' c' w' h5 h6 h7
end
/-- append, by what it computes -/
theorem wpList_append_run {P : Program} {w w' : World} {ops : Array Oper} {rest : List Oper} {o : Oper} {a : Act} {Q : Exit → Act → World → Prop} (hgd : o.guard = none) (s x : Operand) (t u : TypeId)
    (ho : o.op = .call { callee := .builtin .append, args := #[s, x], argTypes := #[t, u] }) {vs vx v : Value} (hs : a.eval s = vs) (hx : a.eval x = vx)
    (hrun : (Builtin.append_ #[t, u] o.type #[vs, vx]).run P w = .ok v w') (h : wpList P ops Q rest (a.put o.dst v) w') : wpList P ops Q (o :: rest) a w :=
  wpList_plain hgd fun _ hK => by
    unfold Oper.wp execOp
    simp only [ho, resolve, invoke, builtin, Sem.run_bind, Sem.run_pure, Result.andThen_ok, List.map_toArray, List.map_cons, List.map_nil, hs, hx, hrun]
    exact hK _ _ h
end Go.Proofs.Ytgnpihhakogeeaa
