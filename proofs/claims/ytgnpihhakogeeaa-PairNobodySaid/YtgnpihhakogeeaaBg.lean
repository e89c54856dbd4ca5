/- The abstract machine is sound: regions whose order is open. -/
import Derived.Test.YtgnpihhakogeeaaBf
namespace Go.Proofs.Ytgnpihhakogeeaa
set_option linter.unusedSimpArgs false
set_option linter.unusedVariables false
open Go.RowKit

theorem Fr.get_put (F : Fr) (d : Option Nat) (v : AV) (t : Nat) : Fr.get (Fr.put F d v) t = if d = some t then v else Fr.get F t := by
  cases d with
  | none => rfl
  | some k =>
    simp only [Fr.put, Fr.get, Option.some.injEq]
    by_cases h : t = k
    · subst h; simp
    · rw [if_neg h, if_neg (fun e => h e.symm)]
theorem FR.congr {g : Gh} {w : World} {N : Nat} {F F' : Fr} {a : Act} (h : FR g w N F a) (hg : ∀ t, Fr.get F' t = Fr.get F t) : FR g w N F' a := ⟨h.size, h.df, fun t => by rw [hg t]; exact h.get t⟩
def upd (val : Nat → AV) (i : Nat) (v : AV) : Nat → AV := fun j => if j = i then v else val j
section
variable (ais : List AI) (L : List Nat) (F0 : Fr)
def frm (val : Nat → AV) : Nat → Fr
  | 0 => F0
  | q + 1 => match L[q]? with
    | some i => Fr.put (frm val q) (dstA ais i) (val i)
    | none => frm val q
def fx (X : Nat → Bool) (val : Nat → AV) : Nat → Fr
  | 0 => F0
  | q + 1 => match L[q]? with
    | some i => if X i = true then Fr.put (fx X val q) (dstA ais i) (val i) else fx X val q
    | none => fx X val q
variable {ais L F0}
theorem frm_upd {val : Nat → AV} {i : Nat} {v : AV} : ∀ {q : Nat}, (∀ r, r < q → L[r]? ≠ some i) → frm ais L F0 (upd val i v) q = frm ais L F0 val q
  | 0, _ => rfl
  | q + 1, h => by
    simp only [frm]
    rw [frm_upd (fun r hr => h r (by omega))]
    cases hq : L[q]? with
    | none => rfl
    | some j =>
      have : j ≠ i := by rintro rfl; exact h q (by omega) hq
      simp [upd, this]
theorem fx_upd {X : Nat → Bool} {val : Nat → AV} {i : Nat} {v : AV} : ∀ {q : Nat}, (∀ r, r < q → L[r]? ≠ some i) → fx ais L F0 X (upd val i v) q = fx ais L F0 X val q
  | 0, _ => rfl
  | q + 1, h => by
    simp only [fx]
    rw [fx_upd (fun r hr => h r (by omega))]
    cases hq : L[q]? with
    | none => rfl
    | some j =>
      have : j ≠ i := by rintro rfl; exact h q (by omega) hq
      simp [upd, this]
theorem fx_X {X X' : Nat → Bool} {val : Nat → AV} : ∀ {q : Nat}, (∀ r i, r < q → L[r]? = some i → X' i = X i) → fx ais L F0 X' val q = fx ais L F0 X val q
  | 0, _ => rfl
  | q + 1, h => by
    simp only [fx]
    rw [fx_X (fun r i hr => h r i (by omega))]
    cases hq : L[q]? with
    | none => rfl
    | some j => simp [h q j (by omega) hq]
theorem fx_frm {X : Nat → Bool} {val : Nat → AV} {t : Nat} : ∀ {q : Nat}, (∀ r i, r < q → L[r]? = some i → dstA ais i = some t → X i = true) → Fr.get (fx ais L F0 X val q) t = Fr.get (frm ais L F0 val q) t
  | 0, _ => rfl
  | q + 1, h => by
    have ih := fx_frm (X := X) (val := val) (q := q) (fun r i hr => h r i (by omega))
    simp only [fx, frm]
    cases hq : L[q]? with
    | none => exact ih
    | some j =>
      simp only
      by_cases hd : dstA ais j = some t
      · rw [if_pos (h q j (by omega) hq hd), Fr.get_put, Fr.get_put, if_pos hd, if_pos hd]
      · rw [Fr.get_put, if_neg hd]
        split
        · rw [Fr.get_put, if_neg hd]; exact ih
        · exact ih
theorem fx_get {X : Nat → Bool} {val : Nat → AV} {t q : Nat} (h1 : ∀ r i, r < q → L[r]? = some i → dstA ais i = some t → X i = true) : ∀ {p : Nat}, q ≤ p → (∀ r i, q ≤ r → r < p → L[r]? = some i → dstA ais i = some t → X i = false) → Fr.get (fx ais L F0 X val p) t = Fr.get (frm ais L F0 val q) t := by
  intro p hp
  induction p with
  | zero =>
    intro _
    have : q = 0 := by omega
    subst this
    rfl
  | succ p ih =>
    intro h2
    by_cases hq : q = p + 1
    · subst hq; exact fx_frm h1
    · have ih' := ih (by omega) (fun r i hr hr2 => h2 r i hr (by omega))
      simp only [fx]
      cases hl : L[p]? with
      | none => exact ih'
      | some j =>
        simp only
        split
        · rename_i hX
          rw [Fr.get_put, if_neg]
          · exact ih'
          · intro hd
            rw [h2 p j (by omega) (by omega) hl hd] at hX; cases hX
        · exact ih'
theorem frm_get {val : Nat → AV} {t q : Nat} : ∀ {p : Nat}, q ≤ p → (∀ r i, q ≤ r → r < p → L[r]? = some i → dstA ais i ≠ some t) → Fr.get (frm ais L F0 val p) t = Fr.get (frm ais L F0 val q) t := by
  intro p hp
  induction p with
  | zero =>
    intro _
    have : q = 0 := by omega
    subst this
    rfl
  | succ p ih =>
    intro h2
    by_cases hq : q = p + 1
    · subst hq; rfl
    · have ih' := ih (by omega) (fun r i hr hr2 => h2 r i hr (by omega))
      simp only [frm]
      cases hl : L[p]? with
      | none => exact ih'
      | some j =>
        simp only
        rw [Fr.get_put, if_neg (h2 p j (by omega) (by omega) hl)]
        exact ih'
theorem fx_add {X : Nat → Bool} {val : Nat → AV} {i q : Nat} (hq : L[q]? = some i) (hnd : ∀ r, L[r]? = some i → r = q) (hX : X i = false) {t : Nat} : ∀ {p : Nat}, q < p → (∀ r j, q < r → r < p → L[r]? = some j → dstA ais i = some t → dstA ais j = some t → X j = false) →
    Fr.get (fx ais L F0 (fun j => if j = i then true else X j) val p) t = Fr.get (Fr.put (fx ais L F0 X val p) (dstA ais i) (val i)) t := by
  intro p hp
  induction p with
  | zero => omega
  | succ p ih =>
    intro h2
    by_cases hqp : q = p
    · subst hqp
      simp only [fx, hq, if_true, hX, Bool.false_eq_true, if_false]
      rw [fx_X (X := X) (X' := fun j => if j = i then true else X j)]
      intro r j hr hj
      have : j ≠ i := by rintro rfl; have := hnd r hj; omega
      simp [this]
    · have ih' := ih (by omega) (fun r j hr hr2 => h2 r j hr (by omega))
      simp only [fx]
      cases hl : L[p]? with
      | none => exact ih'
      | some j =>
        have hji : j ≠ i := by rintro rfl; have := hnd p hl; omega
        simp only [if_neg hji]
        by_cases hXj : X j = true
        · rw [if_pos hXj, if_pos hXj, Fr.get_put, Fr.get_put, Fr.get_put]
          by_cases hd : dstA ais j = some t
          · rw [if_pos hd]
            by_cases hdi : dstA ais i = some t
            · have := h2 p j (by omega) (by omega) hl hdi hd
              rw [this] at hXj; cases hXj
            · rw [if_neg hdi, if_pos hd]
          · rw [if_neg hd, if_neg hd, ih', Fr.get_put]
        · rw [if_neg hXj, if_neg hXj]; exact ih'
end
section
variable {P : Program} {eqT : TypeId → Option (List SK)} {N n : Nat} {ops : Array Oper} {dirs : List (List Nat)} {ais : List AI} {tab : List (List Nat)} {L : List Nat} {chk : List (List Nat)} {F0 : Fr} {K : Fr → AHeap → Prop} {g0 : Gh} {H0 : AHeap} {w0 : World}
theorem DrawOk.at (D : DrawOk n dirs ais tab L chk) {i : Nat} (hi : i < n) : L[L.idxOf i]? = some i ∧ L.idxOf i < n := by
  have hm := D.mem i hi
  have hl : L.idxOf i < L.length := List.idxOf_lt_length_iff.2 hm
  exact ⟨by rw [List.getElem?_eq_getElem hl, List.getElem_idxOf], by rw [← D.len]; exact hl⟩
theorem DrawOk.pos (D : DrawOk n dirs ais tab L chk) {i q : Nat} (h : L[q]? = some i) : L.idxOf i = q ∧ i < n := by
  have hi := D.lt i (List.mem_of_getElem? h)
  refine ⟨?_, hi⟩
  obtain ⟨h1, h2⟩ := D.at hi
  have hq : q < L.length := (List.getElem?_eq_some_iff.1 h).1
  exact (List.getElem?_inj (by rw [D.len]; exact h2) D.nd).1 (by rw [h1, h])
theorem DrawOk.listed (D : DrawOk n dirs ais tab L chk) {X : Nat → Bool} (down : ∀ j < n, X j = true → ∀ i ∈ dirs.getD j [], X i = true) : ∀ (j : Nat), j < n → (∀ k ∈ dirs.getD j [], X k = true) → ∀ i ∈ tab.getD j [], X i = true := by
  intro j
  induction j using Nat.strongRecOn with
  | _ j ih =>
    intro hj hd i hi
    obtain ⟨k, hk, hkj, h⟩ := D.htab j hj i hi
    have hXk := hd k hk
    rcases h with rfl | h
    · exact hXk
    · exact ih k hkj (by omega) (down k (by omega) hXk) i h
/-- the entries of an order, from one on -/
def ents (ais : List AI) (chk : List (List Nat)) (l : List Nat) : List (AI × List AI) := l.filterMap fun i => (ais[i]?).map fun ai => (ai, (chk.getD i []).filterMap (ais[·]?))
/-- slots of cells that were made early -/
def ovl (ais : List AI) (E : List Nat) (F : Fr) : Fr := E.foldr (fun i F => Fr.put F (dstA ais i) .any) F
theorem ovl_get {ais : List AI} {F : Fr} {t : Nat} : ∀ {E : List Nat}, ((∃ i ∈ E, dstA ais i = some t) ∧ Fr.get (ovl ais E F) t = .any) ∨ ((∀ i ∈ E, dstA ais i ≠ some t) ∧ Fr.get (ovl ais E F) t = Fr.get F t)
  | [] => .inr ⟨fun i h => by simp at h, rfl⟩
  | e :: E => by
    simp only [ovl, List.foldr_cons]
    rw [Fr.get_put]
    by_cases h : dstA ais e = some t
    · exact .inl ⟨⟨e, by simp, h⟩, by rw [if_pos h]⟩
    · rw [if_neg h]
      rcases ovl_get (ais := ais) (F := F) (t := t) (E := E) with ⟨⟨i, hi, hd⟩, hg⟩ | ⟨hn, hg⟩
      · exact .inl ⟨⟨i, by simp [hi], hd⟩, hg⟩
      · refine .inr ⟨fun i hi => ?_, hg⟩
        rcases List.mem_cons.1 hi with rfl | hi
        · exact h
        · exact hn i hi
theorem ovl_ne {ais : List AI} {F : Fr} {t : Nat} {E : List Nat} (h : ∀ i ∈ E, dstA ais i ≠ some t) : Fr.get (ovl ais E F) t = Fr.get F t := by
  rcases ovl_get (ais := ais) (F := F) (t := t) (E := E) with ⟨⟨i, hi, hd⟩, _⟩ | ⟨_, hg⟩
  · exact absurd hd (h i hi)
  · exact hg
theorem ovl_mem {ais : List AI} {F : Fr} {t i : Nat} {E : List Nat} (hi : i ∈ E) (h : dstA ais i = some t) : Fr.get (ovl ais E F) t = .any := by
  rcases ovl_get (ais := ais) (F := F) (t := t) (E := E) with ⟨_, hg⟩ | ⟨hn, _⟩
  · exact hg
  · exact absurd h (hn i hi)
/-- a cell that was made early -/
def Pend (g : Gh) (Hc : AHeap) (w : World) (a : Act) (b : Nat) (ai : AI) : Prop := ∃ d Et z carr, ai = ⟨none, some d, .box Et (.c z)⟩ ∧ a.tmps.getD d undef = .pointer (some ⟨b, 0, none⟩) ∧ w.heap[b]? = some (.cells carr Et (0, 0)) ∧ (∀ g w cs, z.cells = some cs → VRs g w cs carr.toList ∧ ∀ x ∈ cs, x.one = true) ∧ (∀ j, ¬ g.RO b j) ∧ ¬ Own g Hc b
structure Inv (P : Program) (N n : Nat) (dirs : List (List Nat)) (ais : List AI) (L : List Nat) (chk : List (List Nat)) (F0 : Fr) (K : Fr → AHeap → Prop) (g0 : Gh) (H0 : AHeap) (w0 : World) (p : Nat) (val : Nat → AV) (X : Nat → Bool) (E : List Nat) (blk : Nat → Nat) (Hc : AHeap) (g : Gh) (w : World) (a : Act) : Prop where
  hp : p ≤ n
  aw : AWDraw P (ents ais chk (L.drop p)) (frm ais L F0 val p) Hc K
  sub : ∀ i < n, X i = true → L.idxOf i < p ∨ i ∈ E
  effs : ∀ i < n, 2 ≤ kindA ais i → L.idxOf i < p → X i = true
  down : ∀ j < n, X j = true → ∀ i ∈ dirs.getD j [], X i = true
  fr : FR g w N (ovl ais E (fx ais L F0 X val p)) a
  wr : WR g Hc w
  st : Stp g0 H0 w0 g Hc w
  facts : ∀ i < n, X i = false → L.idxOf i < p → ∀ ai, ais[i]? = some ai → (ai.want (frm ais L F0 val (L.idxOf i)) = some false ∧ val i = undefA) ∨ (ai.want (frm ais L F0 val (L.idxOf i)) = some true ∧ ai.op.ev (frm ais L F0 val (L.idxOf i)) Hc = some (val i, Hc))
  nd : E.Nodup
  en : ∀ i ∈ E, i < n ∧ kindA ais i = 3 ∧ X i = true ∧ p ≤ L.idxOf i
  pend : ∀ i ∈ E, ∀ ai, ais[i]? = some ai → Pend g Hc w a (blk i) ai
  dist : ∀ i ∈ E, ∀ j ∈ E, blk i = blk j → i = j
  fresh : ∀ i ∈ E, ¬ blk i < w0.heap.size
theorem ents_cons (D : DrawOk n dirs ais tab L chk) {p i : Nat} {ai : AI} (hi : L[p]? = some i) (ha : ais[i]? = some ai) : ents ais chk (L.drop p) = (ai, (chk.getD i []).filterMap (ais[·]?)) :: ents ais chk (L.drop (p + 1)) := by
  have hp : p < L.length := (List.getElem?_eq_some_iff.1 hi).1
  have e : L.drop p = i :: L.drop (p + 1) := by
    rw [List.drop_eq_getElem_cons hp]
    have := (List.getElem?_eq_some_iff.1 hi).2
    rw [this]
  rw [e]
  simp [ents, ha]
theorem Inv.adv (D : DrawOk n dirs ais tab L chk) {p : Nat} {val : Nat → AV} {X : Nat → Bool} {E : List Nat} {blk : Nat → Nat} {Hc : AHeap} {g : Gh} {w : World} {a : Act} (I : Inv P N n dirs ais L chk F0 K g0 H0 w0 p val X E blk Hc g w a) {i : Nat} (hi : L[p]? = some i) (hk : kindA ais i < 2) : ∃ val', Inv P N n dirs ais L chk F0 K g0 H0 w0 (p + 1) val' X E blk Hc g w a := by
  obtain ⟨hpos, hin⟩ := D.pos hi
  have hpl : p < n := by rw [← D.len]; exact (List.getElem?_eq_some_iff.1 hi).1
  have hai : i < ais.length := by rw [D.alen]; exact hin
  have ha := List.getElem?_eq_getElem hai
  generalize ais[i] = ai at ha
  have hka : kindA ais i = ai.kind := by simp [kindA, ha]
  have hX : X i = false := by
    cases hx : X i with
    | false => rfl
    | true =>
      rcases I.sub i hin hx with h | h
      · omega
      · have := (I.en i h).2.1; omega
  have hko : ai.op.kind < 2 := by
    rcases ai.kind_cases with ⟨h, _⟩ | h
    · omega
    · omega
  have hdst : dstA ais i = ai.dst := by simp [dstA, ha]
  have hne : ∀ r, r < p → L[r]? ≠ some i := fun r hr h => by have := (D.pos h).1; omega
  have hsamei : ∀ j < n, L.idxOf j = p → j = i := by
    intro j hj hjp
    have h1 := (D.at hj).1
    rw [hjp, hi] at h1
    injection h1 with h1
    exact h1.symm
  have main : ∀ v, AWDraw P (ents ais chk (L.drop (p + 1))) (Fr.put (frm ais L F0 val p) ai.dst v) Hc K → ((ai.want (frm ais L F0 val p) = some false ∧ v = undefA) ∨ (ai.want (frm ais L F0 val p) = some true ∧ ai.op.ev (frm ais L F0 val p) Hc = some (v, Hc))) → ∃ val', Inv P N n dirs ais L chk F0 K g0 H0 w0 (p + 1) val' X E blk Hc g w a := by
    intro v haw hfact
    refine ⟨upd val i v, by omega, ?_, fun j hj hXj => (I.sub j hj hXj).imp (fun h => by omega) id, fun j hj hkj hpj => ?_, I.down, ?_, I.wr, I.st, fun j hj hXj hpj aj haj => ?_, I.nd, fun j hj => ?_, I.pend, I.dist, I.fresh⟩
    · have e : frm ais L F0 (upd val i v) (p + 1) = Fr.put (frm ais L F0 val p) ai.dst v := by
        simp only [frm, hi]
        rw [frm_upd hne, hdst]
        simp [upd]
      rw [e]
      exact haw
    · by_cases hjp : L.idxOf j = p
      · rw [hsamei j hj hjp] at hkj; omega
      · exact I.effs j hj hkj (by omega)
    · have e : fx ais L F0 X (upd val i v) (p + 1) = fx ais L F0 X val p := by
        simp only [fx, hi, hX]
        rw [fx_upd hne]
        simp
      rw [e]
      exact I.fr
    · by_cases hjp : L.idxOf j = p
      · have := hsamei j hj hjp
        subst this
        rw [ha] at haj
        injection haj with haj
        subst haj
        rw [hjp, frm_upd hne]
        have : upd val j v j = v := by simp [upd]
        rw [this]
        exact hfact
      · have hji : j ≠ i := by rintro rfl; exact hjp hpos
        rw [frm_upd (fun r hr => hne r (by omega))]
        have : upd val i v j = val j := by simp [upd, hji]
        rw [this]
        exact I.facts j hj hXj (by omega) aj haj
    · obtain ⟨h1, h2, h3, h4⟩ := I.en j hj
      refine ⟨h1, h2, h3, ?_⟩
      have : L.idxOf j ≠ p := fun h => by rw [hsamei j h1 h] at h2; omega
      omega
  have haw := I.aw
  rw [ents_cons D hi ha] at haw
  simp only [AWDraw] at haw
  split at haw
  · rename_i hw
    have hnc : ∀ f args, ai.op ≠ .call f args := by rintro f args e; rw [e] at hko; exact absurd hko (by simp [AOp.kind])
    unfold AI.step at haw
    split at haw
    · rename_i f args e; exact absurd e (hnc f args)
    · split at haw
      · rename_i v H' hev
        have hH : H' = Hc := by
          have hlt : ai.op.kind = 0 ∨ ai.op.kind = 1 := by omega
          rcases hlt with h | h
          · exact (pure_ev h hev).1
          · exact read_ev h hev
        subst hH
        exact main v haw.2 (.inr ⟨hw, hev⟩)
      · exact haw.elim
  · rename_i hw
    exact main undefA haw (.inl ⟨hw, rfl⟩)
  · exact haw.elim
/-- a cell that was made early is known now -/
theorem Inv.take (D : DrawOk n dirs ais tab L chk) {p : Nat} {val : Nat → AV} {X : Nat → Bool} {E : List Nat} {blk : Nat → Nat} {Hc : AHeap} {g : Gh} {w : World} {a : Act} (I : Inv P N n dirs ais L chk F0 K g0 H0 w0 p val X E blk Hc g w a) {i : Nat} (hi : L[p]? = some i) (hE : i ∈ E) : ∃ val' E' Hc' g', Inv P N n dirs ais L chk F0 K g0 H0 w0 (p + 1) val' X E' blk Hc' g' w a := by
  obtain ⟨hpos, hin⟩ := D.pos hi
  have hpl : p < n := by rw [← D.len]; exact (List.getElem?_eq_some_iff.1 hi).1
  have hai : i < ais.length := by rw [D.alen]; exact hin
  have ha := List.getElem?_eq_getElem hai
  generalize ais[i] = ai at ha
  obtain ⟨_, hk3, hXi, _⟩ := I.en i hE
  obtain ⟨d, Et, z, carr, rfl, hptr, hblk, hcs, hro, hno⟩ := I.pend i hE ai ha
  have hne : ∀ r, r < p → L[r]? ≠ some i := fun r hr h => by have := (D.pos h).1; omega
  have hdst : dstA ais i = some d := by simp [dstA, ha]
  have hsamei : ∀ j < n, L.idxOf j = p → j = i := by
    intro j hj hjp
    have h1 := (D.at hj).1
    rw [hjp, hi] at h1
    injection h1 with h1
    exact h1.symm
  have haw := I.aw
  rw [ents_cons D hi ha] at haw
  simp only [AWDraw, AI.want, AI.step, AOp.ev, AX.ev] at haw
  cases hzc : z.cells with
  | none => rw [hzc] at haw; exact haw.elim
  | some cs =>
    rw [hzc] at haw
    simp only at haw
    obtain ⟨hV, hone⟩ := hcs g w cs hzc
    obtain ⟨k1, k2, k3⟩ := adopt I.wr hblk hro hno hV hone
    have hmemE : ∀ j ∈ E.erase i, j ∈ E ∧ j ≠ i := fun j hj => ⟨List.mem_of_mem_erase hj, fun h => by subst h; exact (List.Nodup.not_mem_erase I.nd) hj⟩
    have hother : ∀ j ∈ E.erase i, dstA ais j ≠ some d := by
      intro j hj h
      obtain ⟨h1, h2⟩ := hmemE j hj
      have := D.own i hin hk3 j (I.en j h1).1 h2 d (by simp [hdst])
      exact this (by simp [h])
    refine ⟨upd val i (.ptr Hc.next 0), E.erase i, Hc.alloc (.cells cs Et), g.obj Hc.next (blk i), by omega, ?_, fun j hj hXj => ?_, fun j hj hkj hpj => ?_, I.down, ?_, k1, ?_, fun j hj hXj hpj aj haj => ?_, I.nd.erase i, fun j hj => ?_, fun j hj aj haj => ?_, fun j hj j' hj' => I.dist j (hmemE j hj).1 j' (hmemE j' hj').1, fun j hj => I.fresh j (hmemE j hj).1⟩
    · have e : frm ais L F0 (upd val i (.ptr Hc.next 0)) (p + 1) = Fr.put (frm ais L F0 val p) (some d) (.ptr Hc.next 0) := by
        simp only [frm, hi]
        rw [frm_upd hne, hdst]
        simp [upd]
      rw [e]
      exact haw.2
    · rcases I.sub j hj hXj with h | h
      · exact .inl (by omega)
      · by_cases hji : j = i
        · subst hji; exact .inl (by omega)
        · exact .inr ((List.mem_erase_of_ne hji).2 h)
    · by_cases hjp : L.idxOf j = p
      · rw [hsamei j hj hjp]; exact hXi
      · exact I.effs j hj hkj (by omega)
    · have e : fx ais L F0 X (upd val i (.ptr Hc.next 0)) (p + 1) = Fr.put (fx ais L F0 X val p) (some d) (.ptr Hc.next 0) := by
        simp only [fx, hi, hXi, if_true]
        rw [fx_upd hne, hdst]
        simp [upd]
      rw [e]
      have hF := I.fr.mono k2
      refine ⟨hF.size, hF.df, fun t => ?_⟩
      by_cases htd : t = d
      · subst htd
        rw [ovl_ne hother, Fr.get_put, if_pos rfl, hptr]
        exact .ptr _ _ _ (by simp [Gh.obj])
      · rcases ovl_get (ais := ais) (F := Fr.put (fx ais L F0 X val p) (some d) (.ptr Hc.next 0)) (t := t) (E := E.erase i) with ⟨_, hg⟩ | ⟨hn, hg⟩
        · rw [hg]; exact .any _
        · rw [hg, Fr.get_put, if_neg (by simp; omega)]
          have := hF.get t
          rw [ovl_ne] at this
          · exact this
          · intro j hj hdj
            by_cases hji : j = i
            · subst hji; rw [hdst] at hdj; injection hdj with hdj; exact htd hdj.symm
            · exact hn j ((List.mem_erase_of_ne hji).2 hj) hdj
    · have hst := I.st
      refine ⟨hst.le.trans k2, Nat.le_succ_of_le hst.next, hst.os, hst.tape, hst.output, hst.size, hst.frame, fun b hb ho => ?_, hst.ro⟩
      rcases k3 b ho with rfl | ho
      · exact absurd hb (I.fresh i hE)
      · exact hst.new b hb ho
    · have hji : j ≠ i := by rintro rfl; rw [hXi] at hXj; cases hXj
      have hjp : L.idxOf j ≠ p := fun h => hji (hsamei j hj h)
      rw [frm_upd (fun r hr => hne r (by omega))]
      have hval : upd val i (.ptr Hc.next 0) j = val j := by simp [upd, hji]
      rw [hval]
      rcases I.facts j hj hXj (by omega) aj haj with h | ⟨h1, h2⟩
      · exact .inl h
      · refine .inr ⟨h1, ?_⟩
        have hkj : kindA ais j = aj.kind := by simp [kindA, haj]
        have hk2 : ¬ 2 ≤ kindA ais j := fun h => by rw [I.effs j hj h (by omega)] at hXj; cases hXj
        have hop : aj.op.kind < 2 := by
          rcases aj.kind_cases with ⟨h, _⟩ | h <;> omega
        rcases (show aj.op.kind = 0 ∨ aj.op.kind = 1 by omega) with h0 | h0
        · exact (pure_ev h0 h2).2 _
        · exact read_alloc _ h0 h2
    · obtain ⟨h1, h2⟩ := hmemE j hj
      obtain ⟨q1, q2, q3, q4⟩ := I.en j h1
      refine ⟨q1, q2, q3, ?_⟩
      have : L.idxOf j ≠ p := fun h => h2 (hsamei j q1 h)
      omega
    · obtain ⟨h1, h2⟩ := hmemE j hj
      obtain ⟨d', Et', z', carr', e', r1, r2, r3, r4, r5⟩ := I.pend j h1 aj haj
      refine ⟨d', Et', z', carr', e', r1, r2, r3, r4, fun ho => ?_⟩
      rcases k3 _ ho with h | h
      · exact h2 (I.dist j h1 i hE h)
      · exact r5 h
theorem Inv.norm (D : DrawOk n dirs ais tab L chk) {X : Nat → Bool} {blk : Nat → Nat} {w : World} {a : Act} : ∀ (m p : Nat) (val : Nat → AV) (E : List Nat) (Hc : AHeap) (g : Gh), n - p = m → Inv P N n dirs ais L chk F0 K g0 H0 w0 p val X E blk Hc g w a → ∃ p' val' E' Hc' g', Inv P N n dirs ais L chk F0 K g0 H0 w0 p' val' X E' blk Hc' g' w a ∧ (p' = n ∨ ∃ e, L[p']? = some e ∧ 2 ≤ kindA ais e ∧ X e = false)
  | 0, p, val, E, Hc, g, hm, I => ⟨p, val, E, Hc, g, I, .inl (by have := I.hp; omega)⟩
  | m + 1, p, val, E, Hc, g, hm, I => by
    have hp : p < L.length := by rw [D.len]; omega
    have hi := List.getElem?_eq_getElem hp
    by_cases hk : 2 ≤ kindA ais L[p]
    · cases hX : X L[p] with
      | false => exact ⟨p, val, E, Hc, g, I, .inr ⟨_, hi, hk, hX⟩⟩
      | true =>
        obtain ⟨hpos, hin⟩ := D.pos hi
        rcases I.sub _ hin hX with h | h
        · omega
        · obtain ⟨val', E', Hc', g', I'⟩ := I.take D hi h
          exact Inv.norm D m (p + 1) val' E' Hc' g' (by omega) I'
    · obtain ⟨val', I'⟩ := I.adv D hi (by omega)
      exact Inv.norm D m (p + 1) val' E Hc g (by omega) I'
end
end Go.Proofs.Ytgnpihhakogeeaa
