/- Texts of the walk, joined: Pa Pb Pc Pd. -/
import Derived.Test.YtaapiigfmdhobaaMt
import Derived.Test.YtaapiigfmdhobaaMy
namespace Go.Proofs.Ytaapiigfmdhobaa
set_option linter.unusedSimpArgs false
set_option linter.unusedVariables false
open Go.RowKit
theorem nodAt_pre {N N' : List Nod} (hp : N <+: N') {i : Int} (h0 : 0 ≤ i) (h1 : i < N.length) : nodAt N' i = nodAt N i := by
 obtain ⟨t, rfl⟩ := hp
 unfold nodAt
 rw [if_pos h0, if_pos h0, List.getElem?_append_left (by omega)]
def Made (x : Shp) (L : List (List (List Int))) (facts : List Fct) (N : List Nod) : Nat → List Nat → Int → Prop
 | 0, _, _ => False
 | n + 1, part, i => 0 ≤ i ∧ i < N.length ∧ (nodAt N i).dim = ((L.length - (n + 1) : Nat) : Int) ∧
  All2 (fun (c : Cel) (g : Int × List Nat) => c.key = g.1 ∧ if n = 0 then c.agg = (sumP facts ag0 g.2).getD ag0 else Made x L facts N n g.2 c.child) ((nodAt N i).lists.headD []) (grs (keyB L facts (L.length - (n + 1)) 0) (tierN x (L.length - (n + 1)) 0) part)
theorem Made.pre {x : Shp} {L : List (List (List Int))} {facts : List Fct} {N N' : List Nod} (hp : N <+: N') : ∀ {n : Nat} {part : List Nat} {i : Int}, Made x L facts N n part i → Made x L facts N' n part i
 | 0, _, _, h => h
 | n + 1, part, i, h => by
  obtain ⟨h0, h1, h2, h3⟩ := h
  have hl := hp.length_le
  have e := nodAt_pre hp h0 h1
  refine ⟨h0, by omega, by rw [e]; exact h2, ?_⟩
  rw [e]
  refine h3.imp fun c g ⟨k1, k2⟩ => ⟨k1, ?_⟩
  split at k2
  ·rename_i hn; rw [if_pos hn]; exact k2
  ·rename_i hn; rw [if_neg hn]; exact k2.pre hp
def MemoOk (x : Shp) (L : List (List (List Int))) (facts : List Fct) (s : BSt) : Prop := ∀ (n : Nat), n < L.length → ∀ (part : List Nat) (i : Int), PartOk facts part → aGet (nmP (L.length - (n + 1)) part) s.M = some i → Made x L facts s.N (n + 1) part i
theorem b2_inj {i j : Nat} (hi : i < 65536) (hj : j < 65536) (h : b2 i = b2 j) : i = j := by
 unfold b2 at h
 injection h with h1 h2
 injection h2 with h2 _
 have e1 := congrArg UInt8.toNat h1
 have e2 := congrArg UInt8.toNat h2
 simp only [UInt8.toNat_ofNat'] at e1 e2
 omega
theorem flat_b2_inj : ∀ {p q : List Nat}, (∀ i ∈ p, i < 65536) → (∀ i ∈ q, i < 65536) → p.flatMap b2 = q.flatMap b2 → p = q
 | [], [], _, _, _ => rfl
 | [], a :: q, _, _, h => by simp [b2] at h
 | a :: p, [], _, _, h => by simp [b2] at h
 | a :: p, b :: q, hp, hq, h => by
  rw [List.flatMap_cons, List.flatMap_cons] at h
  obtain ⟨h1, h2⟩ := List.append_inj h rfl
  rw [b2_inj (hp a List.mem_cons_self) (hq b List.mem_cons_self) h1, flat_b2_inj (fun i hi => hp i (List.mem_cons_of_mem _ hi)) (fun i hi => hq i (List.mem_cons_of_mem _ hi)) h2]
theorem nmP_inj {d e : Nat} {p q : List Nat} (hd : d < 256) (he : e < 256) (hp : ∀ i ∈ p, i < 65536) (hq : ∀ i ∈ q, i < 65536) (h : nmP d p = nmP e q) : d = e ∧ p = q := by
 unfold nmP at h
 injection h with h1 h2
 have e1 := congrArg UInt8.toNat h1
 simp only [UInt8.toNat_ofNat'] at e1
 exact ⟨by omega, flat_b2_inj hp hq h2⟩
section
variable {x : Shp} {L : List (List (List Int))} {facts : List Fct} {most : Int}
def CelOk (x : Shp) (L : List (List (List Int))) (facts : List Fct) (n : Nat) (N : List Nod) (c : Cel) (g : Int × List Nat) : Prop := c.key = g.1 ∧ if n = 0 then c.agg = (sumP facts ag0 g.2).getD ag0 else Made x L facts N n g.2 c.child
theorem CelOk.pre {n : Nat} {N N' : List Nod} (hp : N <+: N') {c : Cel} {g : Int × List Nat} (h : CelOk x L facts n N c g) : CelOk x L facts n N' c g := by
 obtain ⟨k1, k2⟩ := h
 refine ⟨k1, ?_⟩
 split at k2
 ·rename_i hn; rw [if_pos hn]; exact k2
 ·rename_i hn; rw [if_neg hn]; exact k2.pre hp
def CelR (x : Shp) (L : List (List (List Int))) (facts : List Fct) (n : Nat) (g : BSt → Int → List Nat → BSt × Cel) : Prop := ∀ s k p, PartOk facts p → (g s k p).1.e = 0 → s.e = 0 ∧ s.N <+: (g s k p).1.N ∧ (MemoOk x L facts s → MemoOk x L facts (g s k p).1 ∧ CelOk x L facts n (g s k p).1.N (g s k p).2 (k, p))
theorem cellsU_made {n : Nat} {g : BSt → Int → List Nat → BSt × Cel} (hg : CelR x L facts n g) : ∀ (l : List (Int × List Nat)) (s : BSt), (∀ p ∈ l, PartOk facts p.2) → (cellsU g s l).1.e = 0 → s.e = 0 ∧ s.N <+: (cellsU g s l).1.N ∧ (MemoOk x L facts s → MemoOk x L facts (cellsU g s l).1 ∧ All2 (CelOk x L facts n (cellsU g s l).1.N) (cellsU g s l).2 l)
 | [], s, _, h => ⟨h, List.prefix_refl _, fun hm => ⟨hm, .nil⟩⟩
 | p :: ps, s, hp, h => by
  obtain ⟨k1, k2, k3⟩ := cellsU_made hg ps (g s p.1 p.2).1 (fun q hq => hp q (List.mem_cons_of_mem _ hq)) h
  obtain ⟨h1, h2, h3⟩ := hg s p.1 p.2 (hp p List.mem_cons_self) k1
  refine ⟨h1, h2.trans k2, fun hm => ?_⟩
  obtain ⟨m1, m2⟩ := h3 hm
  obtain ⟨m3, m4⟩ := k3 m1
  exact ⟨m3, .cons (m2.pre k2) m4⟩
theorem tiersB_made {n : Nat} {g : BSt → Int → List Nat → BSt × Cel} (hg : CelR x L facts n g) : ∀ (l : List (List (Int × List Nat))) (s : BSt), (∀ t ∈ l, ∀ p ∈ t, PartOk facts p.2) → (tiersB g s l).1.e = 0 → s.e = 0 ∧ s.N <+: (tiersB g s l).1.N ∧ (MemoOk x L facts s → MemoOk x L facts (tiersB g s l).1 ∧ (l ≠ [] → All2 (CelOk x L facts n (tiersB g s l).1.N) ((tiersB g s l).2.headD []) (l.headD [])))
 | [], s, _, h => ⟨h, List.prefix_refl _, fun hm => ⟨hm, fun h => absurd rfl h⟩⟩
 | p :: ps, s, hp, h => by
  obtain ⟨k1, k2, k3⟩ := tiersB_made hg ps (cellsU g s p).1 (fun q hq => hp q (List.mem_cons_of_mem _ hq)) h
  obtain ⟨h1, h2, h3⟩ := cellsU_made hg p s (hp p List.mem_cons_self) k1
  refine ⟨h1, h2.trans k2, fun hm => ?_⟩
  obtain ⟨m1, m2⟩ := h3 hm
  obtain ⟨m3, _⟩ := k3 m1
  exact ⟨m3, fun _ => m2.imp fun c g h => h.pre k2⟩
def NdM (x : Shp) (L : List (List (List Int))) (facts : List Fct) (n : Nat) (f : BSt → List Nat → BSt × Int) : Prop := ∀ s p, PartOk facts p → (f s p).1.e = 0 → s.e = 0 ∧ s.N <+: (f s p).1.N ∧ (MemoOk x L facts s → MemoOk x L facts (f s p).1 ∧ Made x L facts (f s p).1.N n p (f s p).2)
theorem cellB_made {f : BSt → List Nat → BSt × Int} {n : Nat} {last : Bool} (hl : last = decide (n = 0)) (hf : n ≠ 0 → NdM x L facts n f) : CelR x L facts n (cellB facts f last) := by
 intro s k p hp
 by_cases hn : n = 0
 ·have e : cellB facts f last s k p = (sumE s (sumP facts ag0 p), ⟨k, 0, (sumP facts ag0 p).getD ag0⟩) := by unfold cellB; rw [if_pos (by rw [hl, decide_eq_true hn])]
  rw [e]
  cases hs : sumP facts ag0 p with
  | none => exact fun h => absurd (show (12 : Int) = 0 from h) (by decide)
  | some a => exact fun h => ⟨h, List.prefix_refl _, fun hm => ⟨hm, rfl, by rw [if_pos hn, hs]⟩⟩
 ·have e : cellB facts f last s k p = ((f s p).1, ⟨k, (f s p).2, ag0⟩) := by unfold cellB; rw [if_neg (by rw [hl, decide_eq_false hn]; decide)]
  rw [e]
  intro h
  obtain ⟨h1, h2, h3⟩ := hf hn s p hp h
  refine ⟨h1, h2, fun hm => ?_⟩
  obtain ⟨m1, m2⟩ := h3 hm
  exact ⟨m1, rfl, by rw [if_neg hn]; exact m2⟩
theorem nodeF_made {f : BSt → List Nat → BSt × Int} {n : Nat} (hF : FactsOk x L facts) (hn : n < L.length) (hf : n ≠ 0 → NdM x L facts n f) : NdM x L facts (n + 1) (nodeF x L facts most f (L.length - (n + 1))) := by
 intro s p hp
 have hd : L.length - (n + 1) < L.length := by omega
 have hg := cellB_made (x := x) (L := L) (facts := facts) (f := f) (n := n) (last := decide (L.length - (n + 1) + 1 = L.length)) (by rw [decide_eq_decide]; omega) hf
 have hgp : ∀ t ∈ groupsB x L facts (L.length - (n + 1)) p, ∀ q ∈ t, PartOk facts q.2 := fun t ht q hq => by
  unfold groupsB at ht
  obtain ⟨k, _, rfl⟩ := List.mem_map.1 ht
  exact hp.grs hq
 have ht := tiersB_made hg (groupsB x L facts (L.length - (n + 1)) p) s hgp
 have ha := fun s => hg s 0 p hp
 obtain ⟨t1, t2, t3⟩ := hF.tier _ hd
 have hG0 : (groupsB x L facts (L.length - (n + 1)) p) ≠ [] ∧ (groupsB x L facts (L.length - (n + 1)) p).headD [] = grs (keyB L facts (L.length - (n + 1)) 0) (tierN x (L.length - (n + 1)) 0) p := by
  have e : (L.getD (L.length - (n + 1)) []).length = L[L.length - (n + 1)].length := by simp [List.getElem?_eq_getElem hd]
  unfold groupsB
  rw [e]
  generalize L[L.length - (n + 1)].length = m at *
  cases m with
  | zero => omega
  | succ m => rw [List.range_succ_eq_map]; exact ⟨by simp, rfl⟩
 have hdl := hF.dims
 have hfew := hF.few
 unfold nodeF
 split
 ·rename_i i hi
  exact fun h => ⟨h, List.prefix_refl _, fun hm => ⟨hm, hm n hn p i hp hi⟩⟩
 ·rename_i hnone
  split
  ·rename_i h1; exact fun h => absurd h h1
  ·generalize (tiersB (cellB facts f (decide (L.length - (n + 1) + 1 = L.length))) s (groupsB x L facts (L.length - (n + 1)) p)) = T at *
   have ha := ha T.1
   generalize (cellB facts f (decide (L.length - (n + 1) + 1 = L.length)) T.1 0 p) = a at *
   unfold nodeT
   split
   ·rename_i h1; exact fun h => absurd h h1
   ·rename_i h1
    split
    ·rename_i h2; exact fun h => absurd h h2
    ·intro _
     obtain ⟨a1, a2, a3⟩ := ha (Classical.not_not.1 h1)
     obtain ⟨b1, b2, b3⟩ := ht a1
     have hpre : a.1.N <+: a.1.N ++ [⟨((L.length - (n + 1) : Nat) : Int), T.2, a.2⟩] := List.prefix_append _ _
     refine ⟨b1, (b2.trans a2).trans hpre, fun hm => ?_⟩
     obtain ⟨m1, m2⟩ := b3 hm
     obtain ⟨m3, _⟩ := a3 m1
     have hnew : nodAt (a.1.N ++ [⟨((L.length - (n + 1) : Nat) : Int), T.2, a.2⟩]) (a.1.N.length : Int) = ⟨((L.length - (n + 1) : Nat) : Int), T.2, a.2⟩ := by
      unfold nodAt
      rw [if_pos (by omega)]
      simp
     have hmade : Made x L facts (a.1.N ++ [⟨((L.length - (n + 1) : Nat) : Int), T.2, a.2⟩]) (n + 1) p (a.1.N.length : Int) := by
      refine ⟨by omega, by rw [List.length_append]; simp only [List.length_cons, List.length_nil]; omega, by rw [hnew], ?_⟩
      rw [hnew]
      have := m2 hG0.1
      rw [hG0.2] at this
      exact this.imp fun c g h => h.pre (a2.trans hpre)
     refine ⟨fun n' hn' part' i' hp' hi' => ?_, hmade⟩
     simp only at hi'
     rw [aGet_set] at hi'
     split at hi'
     ·rename_i he
      obtain ⟨e1, e2⟩ := nmP_inj (by omega) (by omega) (fun i hi => by have := hp'.2.2 i hi; omega) (fun i hi => by have := hp.2.2 i hi; omega) he
      have e3 : n' = n := by omega
      subst e3 e2
      injection hi' with hi'
      rw [← hi']
      exact hmade
     ·exact (m3 n' hn' part' i' hp' hi').pre hpre
theorem nodeB_made (hF : FactsOk x L facts) : ∀ (n : Nat), n < L.length → NdM x L facts (n + 1) (nodeB x L facts most (n + 1))
 | 0, h => nodeF_made hF h (fun h => absurd rfl h)
 | n + 1, h => nodeF_made hF h (fun _ => nodeB_made hF n (by omega))
end
def ky (facts : List Fct) (j d : Nat) : Int := (facts.getD j ([], ag0)).1.getD d 0
def Lex (facts : List Fct) (D j k : Nat) : Prop := ∃ m, m < D ∧ (∀ q, q < m → ky facts j q = ky facts k q) ∧ ky facts j m < ky facts k m
theorem Lex.trans {facts : List Fct} {D i j k : Nat} (h : Lex facts D i j) (g : Lex facts D j k) : Lex facts D i k := by
 obtain ⟨m, hm, h1, h2⟩ := h
 obtain ⟨n, hn, g1, g2⟩ := g
 by_cases c : m < n
 ·exact ⟨m, hm, fun q hq => (h1 q hq).trans (g1 q (by omega)), by rw [← g1 m c]; exact h2⟩
 ·by_cases c2 : n < m
  ·exact ⟨n, hn, fun q hq => (h1 q (by omega)).trans (g1 q hq), by rw [h1 n c2]; exact g2⟩
  ·obtain rfl : m = n := by omega
   exact ⟨m, hm, fun q hq => (h1 q hq).trans (g1 q hq), by omega⟩
theorem cmpL_lex : ∀ {a b : List Int}, a.length = b.length → cmpL a b < 0 → ∃ m, m < a.length ∧ (∀ q, q < m → a.getD q 0 = b.getD q 0) ∧ a.getD m 0 < b.getD m 0
 | [], [], _, h => by simp [cmpL] at h
 | [], _ :: _, h, _ => by simp at h
 | _ :: _, [], h, _ => by simp at h
 | a :: r, b :: t, hl, h => by
  unfold cmpL at h
  by_cases c : cmpI a b ≠ 0
  ·rw [if_pos c] at h
   have : a < b := by
    unfold cmpI at h
    split at h
    ·assumption
    ·split at h <;> omega
   exact ⟨0, by simp, fun q hq => by omega, by simpa using this⟩
  ·rw [if_neg c] at h
   have e : a = b := by
    unfold cmpI at c
    split at c
    ·omega
    ·split at c <;> omega
   obtain ⟨m, hm, h1, h2⟩ := cmpL_lex (by simpa using hl) h
   refine ⟨m + 1, by simpa using hm, fun q hq => ?_, by simpa using h2⟩
   cases q with
   | zero => simpa using e
   | succ q => simpa using h1 q (by omega)
theorem rowF_adj {x : Shp} : ∀ {l : List Fct} {w : Option Fct}, rowF x w l = 0 → (∀ q, w = some q → ∀ h : 0 < l.length, cmpL q.1 l[0].1 < 0) ∧ ∀ k (h : k + 1 < l.length), cmpL l[k].1 l[k + 1].1 < 0
 | [], w, _ => ⟨fun q _ h => by simp at h, fun k h => by simp at h⟩
 | f :: r, w, h => by
  rw [rowF_cons] at h
  split at h
  ·rename_i h1; exact absurd h h1
  ·split at h
   ·omega
   ·rename_i h2
    obtain ⟨k1, k2⟩ := rowF_adj h
    refine ⟨fun q hq _ => ?_, fun k hk => ?_⟩
    ·subst hq
     have : ¬ cmpL q.1 f.1 ≥ 0 := fun hc => h2 (by unfold geF; simpa using hc)
     simpa using this
    ·cases k with
     | zero => exact k1 f rfl (by simpa using hk)
     | succ k => simpa using k2 k (by simpa using hk)
theorem lex_all {facts : List Fct} {x : Shp} {D : Nat} (h : rowF x none facts = 0) (hk : ∀ f ∈ facts, f.1.length = D) : ∀ k, k < facts.length → ∀ j, j < k → Lex facts D j k
 | 0, _, j, hj => by omega
 | k + 1, hl, j, hj => by
  have h1 : Lex facts D k (k + 1) := by
   have h2 := (rowF_adj h).2 k hl
   have e1 := hk _ (List.getElem_mem (show k < facts.length by omega))
   have e2 := hk _ (List.getElem_mem hl)
   obtain ⟨m, hm, q1, q2⟩ := cmpL_lex (by omega) h2
   have g1 : facts.getD k ([], ag0) = facts[k] := by rw [List.getD_eq_getElem?_getD, List.getElem?_eq_getElem (by omega)]; rfl
   have g2 : facts.getD (k + 1) ([], ag0) = facts[k + 1] := by rw [List.getD_eq_getElem?_getD, List.getElem?_eq_getElem hl]; rfl
   unfold Lex ky
   rw [g1, g2]
   exact ⟨m, by omega, q1, q2⟩
  by_cases c : j = k
  ·subst c; exact h1
  ·exact (lex_all h hk k (by omega) j (by omega)).trans h1
theorem filt_flat (key : Nat → Int) : ∀ (n : Nat) {part : List Nat}, part.Pairwise (fun j k => key j ≤ key k) → (∀ j ∈ part, 0 ≤ key j) → (List.range n).flatMap (fun k : Nat => part.filter fun i => decide (key i = (k : Int))) = part.filter fun i => decide (key i < (n : Int))
 | 0, part, _, h0 => by
  rw [List.range_zero, List.flatMap_nil]
  refine (List.filter_eq_nil_iff.2 fun j hj => ?_).symm
  have := h0 j hj
  simp; omega
 | n + 1, part, hs, h0 => by
  rw [List.range_succ, List.flatMap_append, filt_flat key n hs h0]
  simp only [List.flatMap_cons, List.flatMap_nil, List.append_nil]
  clear h0
  induction part with
  | nil => rfl
  | cons a r ih =>
   obtain ⟨h1, h2⟩ := List.pairwise_cons.1 hs
   have ih := ih h2
   by_cases c : key a < (n : Int)
   ·rw [List.filter_cons_of_pos (by simpa using c), List.filter_cons_of_neg (by simp; omega), List.filter_cons_of_pos (by simp; omega), List.cons_append, ih]
   ·have hz : r.filter (fun i => decide (key i < (n : Int))) = [] := List.filter_eq_nil_iff.2 fun j hj => by have := h1 j hj; simp; omega
    rw [List.filter_cons_of_neg (by simpa using c), hz, List.nil_append]
    rw [hz, List.nil_append] at ih
    by_cases c2 : key a = (n : Int)
    ·rw [List.filter_cons_of_pos (by simpa using c2), List.filter_cons_of_pos (by simp; omega), ih]
    ·rw [List.filter_cons_of_neg (by simpa using c2), List.filter_cons_of_neg (by simp; omega), ih]
theorem grs_flat {key : Nat → Int} {n : Nat} {part : List Nat} (hs : part.Pairwise (fun j k => key j ≤ key k)) (h0 : ∀ j ∈ part, 0 ≤ key j ∧ key j < n) : (grs key n part).flatMap (·.2) = part := by
 have h1 := filt_flat key n hs (fun j hj => (h0 j hj).1)
 have h2 : part.filter (fun i => decide (key i < (n : Int))) = part := List.filter_eq_self.2 fun j hj => by simpa using (h0 j hj).2
 rw [h2] at h1
 refine Eq.trans ?_ h1
 unfold grs
 generalize List.range n = l
 induction l with
 | nil => rfl
 | cons k l ih =>
  rw [List.flatMap_cons, List.filterMap_cons]
  by_cases c : part.filter (fun i => decide (key i = (k : Int))) = []
  ·rw [c, if_pos rfl, List.nil_append]
   exact ih
  ·rw [if_neg c, List.flatMap_cons, ih]
theorem all2_flat {α β γ : Type} {R : α → β → Prop} {F : α → List γ} {G : β → List γ} : ∀ {l : List α} {m : List β}, All2 R l m → (∀ a b, b ∈ m → R a b → F a = G b) → l.flatMap F = m.flatMap G
 | _, _, .nil, _ => rfl
 | _, _, .cons h t, hg => by
  rw [List.flatMap_cons, List.flatMap_cons, hg _ _ List.mem_cons_self h, all2_flat t fun a b hb => hg a b (List.mem_cons_of_mem _ hb)]
structure SPart (facts : List Fct) (d : Nat) (part : List Nat) : Prop where
 up : part.Pairwise (· < ·)
 lt : ∀ j ∈ part, j < facts.length
 eq : ∀ j ∈ part, ∀ k ∈ part, ∀ q, q < d → ky facts j q = ky facts k q
theorem fct_step {x : Shp} {L : List (List (List Int))} {facts : List Fct} {N : List Nod} (hD : L.length = x.sizes.length) (hd : Down x N) (hk : ∀ f ∈ facts, f.1.length = L.length) (hlex : ∀ k, k < facts.length → ∀ j, j < k → Lex facts L.length j k)
  (hkey : ∀ d, d < L.length → ∀ j, j < facts.length → keyB L facts d 0 j = ky facts j d ∧ 0 ≤ ky facts j d ∧ ky facts j d < tierN x d 0)
  {n : Nat} {part : List Nat} {i : Int} {ks : List Int} (hn : n < L.length) (hM : Made x L facts N (n + 1) part i) (hS : SPart facts (L.length - (n + 1)) part)
  (ih : n ≠ 0 → ∀ (part : List Nat) (i : Int) (ks : List Int), Made x L facts N n part i → SPart facts (L.length - n) part → fct x N ks i = part.map fun j => (ks ++ (facts.getD j ([], ag0)).1.drop (L.length - n), (facts.getD j ([], ag0)).2)) :
  fct x N ks i = part.map fun j => (ks ++ (facts.getD j ([], ag0)).1.drop (L.length - (n + 1)), (facts.getD j ([], ag0)).2) := by
 obtain ⟨h0, h1, h2, h3⟩ := hM
 have hdl : L.length - (n + 1) < L.length := by omega
 have hkp : ∀ j ∈ part, keyB L facts (L.length - (n + 1)) 0 j = ky facts j (L.length - (n + 1)) ∧ 0 ≤ ky facts j (L.length - (n + 1)) ∧ ky facts j (L.length - (n + 1)) < tierN x (L.length - (n + 1)) 0 := fun j hj => hkey _ hdl j (hS.lt j hj)
 have hle : ∀ j ∈ part, ∀ k ∈ part, j < k → ky facts j (L.length - (n + 1)) ≤ ky facts k (L.length - (n + 1)) := fun j hj k hk' hjk => by
  obtain ⟨m, hm, g1, g2⟩ := hlex k (hS.lt k hk') j hjk
  by_cases c : m < L.length - (n + 1)
  ·have := hS.eq j hj k hk' m c; omega
  ·by_cases c2 : m = L.length - (n + 1)
   ·rw [← c2]; omega
   ·rw [g1 _ (by omega)]; omega
 have hpw : part.Pairwise (fun j k => keyB L facts (L.length - (n + 1)) 0 j ≤ keyB L facts (L.length - (n + 1)) 0 k) := hS.up.imp_of_mem fun {j k} hj hk' hjk => by
  rw [(hkp j hj).1, (hkp k hk').1]; exact hle j hj k hk' hjk
 have hfl := grs_flat hpw (fun j hj => by rw [(hkp j hj).1]; exact (hkp j hj).2)
 rw [fct_eq hd ks h0 h1]
 conv => rhs; rw [← hfl]
 rw [List.map_flatMap]
 refine all2_flat h3 fun c g hg ⟨k1, k2⟩ => ?_
 obtain ⟨g1, g2, g3⟩ := grs_part hg
 have hgf : g.2 = part.filter (fun j => decide (keyB L facts (L.length - (n + 1)) 0 j = g.1)) := by
  unfold grs at hg
  obtain ⟨k, _, h⟩ := List.mem_filterMap.1 hg
  split at h
  ·cases h
  ·injection h with h; rw [← h]
 have hgk : ∀ j ∈ g.2, ky facts j (L.length - (n + 1)) = g.1 := fun j hj => by
  rw [hgf] at hj
  obtain ⟨j1, j2⟩ := List.mem_filter.1 hj
  rw [← (hkp j j1).1]
  simpa using j2
 have hgu : g.2.Pairwise (· < ·) := by rw [hgf]; exact hS.up.filter _
 have hdr : ∀ j ∈ g.2, (facts.getD j ([], ag0)).1.drop (L.length - (n + 1)) = g.1 :: (facts.getD j ([], ag0)).1.drop (L.length - n) := fun j hj => by
  have hjl := hS.lt j (g3 j hj)
  have e : facts.getD j ([], ag0) = facts[j] := by rw [List.getD_eq_getElem?_getD, List.getElem?_eq_getElem hjl]; rfl
  have hlen := hk _ (List.getElem_mem hjl)
  have h5 := hgk j hj
  unfold ky at h5
  rw [e] at h5 ⊢
  rw [List.getD_eq_getElem?_getD, List.getElem?_eq_getElem (by omega)] at h5
  rw [List.drop_eq_getElem_cons (by omega), show L.length - (n + 1) + 1 = L.length - n by omega]
  congr 1
 have hlb : lastB x (nodAt N i).dim = decide (n = 0) := by
  unfold lastB
  rw [h2, Bool.eq_iff_iff]
  simp only [beq_iff_eq, decide_eq_true_eq]
  omega
 unfold fcel
 by_cases hz : n = 0
 ·subst hz
  rw [if_pos (by rw [hlb]; rfl)]
  rw [if_pos rfl] at k2
  match hg2 : g.2, g1 with
  | [j], _ =>
   have hd1 := hdr j (by rw [hg2]; exact List.mem_singleton.2 rfl)
   have hjl := hS.lt j (g3 j (by rw [hg2]; exact List.mem_singleton.2 rfl))
   have e : facts.getD j ([], ag0) = facts[j] := by rw [List.getD_eq_getElem?_getD, List.getElem?_eq_getElem hjl]; rfl
   have hlen := hk _ (List.getElem_mem hjl)
   have ht : (facts.getD j ([], ag0)).1.drop (L.length - 0) = [] := by rw [e]; exact List.drop_eq_nil_of_le (by omega)
   have hs1 : sumP facts ag0 g.2 = some (facts.getD j ([], ag0)).2 := by
    rw [hg2]
    simp only [sumP]
    have : joinA ag0 (facts.getD j ([], ag0)).2 = some (facts.getD j ([], ag0)).2 := by unfold joinA; exact if_pos (show ag0.n = 0 from rfl)
    rw [this]
   rw [List.map_cons, List.map_nil, hd1, ht, k1, k2, hs1]
   rfl
  | j :: k :: r, _ =>
   exfalso
   rw [hg2] at hgu
   have hjk : j < k := (List.pairwise_cons.1 hgu).1 k List.mem_cons_self
   have mj : j ∈ g.2 := by rw [hg2]; exact List.mem_cons_self
   have mk : k ∈ g.2 := by rw [hg2]; exact List.mem_cons_of_mem _ List.mem_cons_self
   obtain ⟨m, hm, q1, q2⟩ := hlex k (hS.lt k (g3 k mk)) j hjk
   by_cases c : m < L.length - (0 + 1)
   ·have := hS.eq j (g3 j mj) k (g3 k mk) m c; omega
   ·obtain rfl : m = L.length - (0 + 1) := by omega
    have := hgk j mj
    have := hgk k mk
    omega
  | [], h => exact absurd rfl h
 ·rw [if_neg (by rw [hlb, decide_eq_false hz]; decide)]
  rw [if_neg hz] at k2
  rw [ih hz g.2 c.child (ks ++ [c.key]) k2 ⟨hgu, fun j hj => hS.lt j (g3 j hj), fun j hj k hk' q hq => ?_⟩]
  ·refine List.map_congr_left fun j hj => ?_
   rw [hdr j hj, k1, List.append_assoc]; rfl
  ·by_cases c : q < L.length - (n + 1)
   ·exact hS.eq j (g3 j hj) k (g3 k hk') q c
   ·obtain rfl : q = L.length - (n + 1) := by omega
    rw [hgk j hj, hgk k hk']
theorem fct_made {x : Shp} {L : List (List (List Int))} {facts : List Fct} {N : List Nod} (hD : L.length = x.sizes.length) (hd : Down x N) (hk : ∀ f ∈ facts, f.1.length = L.length) (hlex : ∀ k, k < facts.length → ∀ j, j < k → Lex facts L.length j k)
  (hkey : ∀ d, d < L.length → ∀ j, j < facts.length → keyB L facts d 0 j = ky facts j d ∧ 0 ≤ ky facts j d ∧ ky facts j d < tierN x d 0) :
  ∀ (n : Nat) (part : List Nat) (i : Int) (ks : List Int), n < L.length → Made x L facts N (n + 1) part i → SPart facts (L.length - (n + 1)) part → fct x N ks i = part.map fun j => (ks ++ (facts.getD j ([], ag0)).1.drop (L.length - (n + 1)), (facts.getD j ([], ag0)).2) := by
 intro n
 induction n with
 | zero =>
  intro part i ks hn hM hS
  exact fct_step hD hd hk hlex hkey hn hM hS (fun h => absurd rfl h)
 | succ n ih =>
  intro part i ks hn hM hS
  exact fct_step hD hd hk hlex hkey hn hM hS (fun _ part i ks h1 h2 => ih part i ks (by omega) h1 h2)
theorem load_ofA {x : Shp} {most : Int} {N : List Nod} (hm : shpMay x = true) (hmost : most ≤ 131072) (ha : ∀ i (hi : i < N.length), addErr x most (N.take i) N[i] = 0) : loadErr x N = 0 := by
 have ha2 : ∀ i (hi : i < N.length), addErr x 131072 (N.take i) N[i] = 0 := fun i hi => by
  obtain ⟨h1, h2, h3⟩ := add_zero' (ha i hi)
  unfold addErr
  rw [if_neg (by rw [h1]; decide), if_neg (by rw [h2]; decide), if_neg (by omega)]
 have key : ∀ d k, k + d = N.length → loadFrom x 131072 (N.take k) (N.drop k) = 0 := by
  intro d
  induction d with
  | zero => intro k hk; rw [List.drop_of_length_le (by omega)]; rfl
  | succ d ih =>
   intro k hk
   rw [loadFrom_step x 131072 N k (by omega), if_neg (by rw [ha2 k (by omega)]; decide)]
   exact ih (k + 1) (by omega)
 unfold loadErr
 rw [if_neg (by rw [hm]; decide)]
 exact key N.length 0 (by omega)
theorem lift0 {S : Sc} {facts : List Fct} (hF : FactsOk (shpS S) (liftsS S) facts) : ∀ d, d < (liftsS S).length → ∀ j, j < facts.length → keyB (liftsS S) facts d 0 j = ky facts j d ∧ 0 ≤ ky facts j d ∧ ky facts j d < tierN (shpS S) d 0 := fun d hd j hj => by
  have hm := List.getElem_mem hj
  have ht := (hF.tier d hd).1
  obtain ⟨n, e1, hn, e2, e3⟩ := hF.key _ hm d hd 0 (by omega)
  have hds : d < S.dims.length := by have : (liftsS S).length = S.dims.length := by unfold liftsS; simp
                                     omega
  have e4 : (liftsS S)[d][0][n] = (n : Int) := by
    have h1 : (liftsS S)[d] = liftsD S.dims[d] := List.getElem_map ..
    have h2 : (liftsS S)[d][0] = mapD S.dims[d] 0 := by simp [h1, liftsD]
    simp only [h2]
    simp only [mapD, List.getElem_map, List.getElem_range]
    unfold liftD bot
    rw [List.take_zero, ups]
    exact if_neg (by omega)
  have e5 : facts.getD j ([], ag0) = facts[j] := by rw [List.getD_eq_getElem?_getD, List.getElem?_eq_getElem hj]; rfl
  have e6 : ky facts j d = (n : Int) := by unfold ky; rw [e5, e1]
  have e7 : keyB (liftsS S) facts d 0 j = (liftsS S)[d][0][n] := by
    unfold keyB
    rw [e5, e1]
    simp [List.getElem?_eq_getElem hd, List.getElem?_eq_getElem (show 0 < (liftsS S)[d].length by omega), List.getElem?_eq_getElem hn]
  rw [e7, e6]
  rw [e4] at e2 e3 ⊢
  exact ⟨rfl, e2, e3⟩
structure Back (x : Shp) (facts : List Fct) (N : List Nod) : Prop where
 load : loadErr x N = 0
 sm : ∀ n ∈ N, smallN n
 len : N.length ≤ 20000
 nil : facts = [] → N = []
 ne : facts ≠ [] → N ≠ []
 whole : wholeB x N = true
 fct : facts ≠ [] → fct x N [] ((N.length : Int) - 1) = facts
theorem bld_back {S : Sc} {facts : List Fct} (h : bldE S 20000 facts = 0) (ha : ∀ f ∈ facts, AgIn f.2) : Back (shpS S) facts (bldL S 20000 facts) := by
 obtain ⟨hard, hled⟩ := bld_ard h ha
 unfold bldE at h
 split at h
 ·rename_i h1; exact absurd h h1
 rename_i h1
 split at h
 ·rename_i h2; exact absurd h h2
 rename_i h2
 split at h
 ·omega
 rename_i h3
 split at h
 ·omega
 split at h
 ·rename_i h5
  have e : bldL S 20000 facts = [] := by unfold bldL; rw [if_pos h5]
  rw [e]
  exact ⟨load_ofA (most := 20000) hard.may (by omega) (fun i hi => by simp at hi), by simp, by simp, fun _ => rfl, fun h => absurd h5 h, rfl, fun h => absurd h5 h⟩
 ·rename_i h5
  have e : bldL S 20000 facts = (bldN S 20000 facts).N := by unfold bldL; rw [if_neg h5]
  rw [e] at hard hled ⊢
  have h1 := Classical.not_not.1 h1
  have h2 := Classical.not_not.1 h2
  have hF := facts_ok h1 h2 (by omega) ha
  have hG : Grown (shpS S) 20000 (bldN S 20000 facts).N := nodeB_grown hF _ (Nat.le_refl _) _ _ ⟨fun i hi => by simp at hi, fun n hn => by simp at hn⟩
  have hlen : (bldN S 20000 facts).N.length ≤ 20000 := by
   refine Classical.byContradiction fun hc => ?_
   have := (add_zero' (hG.1 20000 (by omega))).2.2
   rw [List.length_take] at this
   omega
  have hld := load_ofA hard.may (by omega) hG.1
  have hL1 : 1 ≤ (liftsS S).length := by have := (shpMay_bounds hard.may).1; have := hF.len; omega
  have hpo : PartOk facts (List.range facts.length) := ⟨by simp; exact h5, by simp, fun i hi => by simpa using hi⟩
  have hmd := nodeB_made (most := 20000) hF ((liftsS S).length - 1) (by omega) ⟨[], [], 0⟩ (List.range facts.length) hpo
  have hrl := root_last (x := shpS S) (L := liftsS S) (facts := facts) (most := 20000) ((liftsS S).length - 1) ⟨[], [], 0⟩ (List.range facts.length) rfl
  rw [show (liftsS S).length - 1 + 1 = (liftsS S).length by omega] at hmd hrl
  have hrl := hrl h
  obtain ⟨_, _, hmd⟩ := hmd h
  obtain ⟨_, hmd⟩ := hmd (fun n hn part i hp hi => by simp [aGet] at hi)
  have htop : (nodeB (shpS S) (liftsS S) facts 20000 (liftsS S).length ⟨[], [], 0⟩ (List.range facts.length)).2 = ((bldN S 20000 facts).N.length : Int) - 1 := by
   have : (nodeB (shpS S) (liftsS S) facts 20000 (liftsS S).length ⟨[], [], 0⟩ (List.range facts.length)).2 + 1 = ((bldN S 20000 facts).N.length : Int) := hrl
   omega
  rw [htop] at hmd
  have hmd : Made (shpS S) (liftsS S) facts (bldN S 20000 facts).N (liftsS S).length (List.range facts.length) (((bldN S 20000 facts).N.length : Int) - 1) := hmd
  generalize hN : (bldN S 20000 facts).N = N at *
  obtain ⟨hw, _⟩ := load_w hld (by omega) hG.2
  have hmd' : Made (shpS S) (liftsS S) facts N ((liftsS S).length - 1 + 1) (List.range facts.length) ((N.length : Int) - 1) := by rw [show (liftsS S).length - 1 + 1 = (liftsS S).length by omega]; exact hmd
  have hdim : (nodAt N ((N.length : Int) - 1)).dim = 0 := by
   have := hmd'.2.2.1
   rw [this]
   omega
  have hpos : 0 < N.length := by have := hmd'.1; omega
  refine ⟨hld, hG.2, hlen, fun h => absurd h h5, fun _ hc => by rw [hc] at hpos; simp at hpos, ?_, fun _ => ?_⟩
  ·unfold wholeB
   rw [if_neg (by omega), hdim]
   simp only [beq_self_eq_true, Bool.true_and, Bool.not_eq_true']
   refine Bool.eq_false_iff.2 fun hc => ?_
   rw [List.contains_iff_mem] at hc
   obtain ⟨j, hj, hje⟩ := List.getElem_of_mem hc
   have hj' : j < N.length - 1 := by rw [List.length_take, cnt_len] at hj; omega
   rw [List.getElem_take, cnt_get (by omega)] at hje
   have hcz : List.count (j : Int) (kids (shpS S) N) = 0 := by omega
   rw [List.count_eq_zero] at hcz
   obtain ⟨k, hk, hkd, c, hcm, hcc⟩ := hled j (by omega)
   refine hcz ?_
   unfold kids
   refine List.mem_flatMap.2 ⟨N[k], List.getElem_mem hk, ?_⟩
   have hlb : lastB (shpS S) N[k].dim = false := by unfold lastB; rw [beq_eq_false_iff_ne]; omega
   rw [if_neg (by rw [hlb]; decide)]
   exact List.mem_map.2 ⟨c, hcm, hcc⟩
  ·have hkl : ∀ f ∈ facts, f.1.length = (liftsS S).length := hF.keys
   have := fct_made hF.len hw.down hkl (lex_all h2 hkl) (lift0 hF) ((liftsS S).length - 1) (List.range facts.length) ((N.length : Int) - 1) [] (by omega) hmd' ⟨List.pairwise_lt_range, fun j hj => by simpa using hj, fun j _ k _ q hq => by omega⟩
   rw [this, show (liftsS S).length - ((liftsS S).length - 1 + 1) = 0 by omega]
   refine List.ext_getElem (by simp) fun i hi1 hi2 => ?_
   rw [List.getElem_map, List.getElem_range, List.drop_zero, List.nil_append, List.getD_eq_getElem?_getD, List.getElem?_eq_getElem hi2]
   rfl
def shp9 : Shp := ⟨[[3]], 1⟩
def cel9 : Cel := ⟨2, 0, ⟨1, 0, 0, 0, 0, 0, 0, 0, 0, 0⟩⟩
def nod9 : Nod := ⟨0, [[cel9]], ⟨0, 0, ⟨1, 0, 0, 0, 0, 0, 0, 0, 0, 0⟩⟩⟩
set_option maxHeartbeats 2000000 in
theorem awake29 (H : AHeap) : Sound Try.prog 21 [] H (PureE H (.b true)) := by
 have hle : loadErr shp9 [nod9] = 0 := by decide
 have hsm : ∀ n ∈ [nod9], smallN n := by
  intro n hn
  rw [List.mem_singleton] at hn
  subst hn
  exact ⟨by decide, by decide, fun l hl => by
   have : l = [cel9] := by simpa [nod9] using hl
   subst this; decide⟩
 have hwk := wlk_of hle (by decide) hsm
 have hfa : resFacts shp9 [nod9] 5 = .tup [.sl .no (rF [([2], ⟨1, 0, 0, 0, 0, 0, 0, 0, 0, 0⟩)]), .i 0] := rfl
 refine fn_soundQ hE cf21 (Nat.le_of_ble_eq_true rfl) fun Q hQr hQn => ?_
 ((have hd := trivial; repeat' (first | ((first | apply GdK_st | apply GdK_sf | apply CondK_s) <;> intro hd <;> (try simp only [hd])) | simp (disch := first | assumption | omega | (simp only [nx] <;> omega) | fail) only [hd, hQr, hQn, c21_0, ↓YA, YB, YC, YE, YF, YZ, ↓reduceIte, Nat.reduceEqDiff, Nat.reduceAdd, Nat.reduceMul, Nat.reduceLeDiff, Int.reduceToNat, Int.reduceLE, Int.reduceLT, Int.reduceGT, Int.reduceGE, Int.reduceAdd, Int.reduceSub, Int.reduceNeg, Int.reduceBEq, Int.reduceBNe])) <;> (try (have hd_ : True := hd; clear hd_ hd)))
 refine CallK.use (Sound.wknA (load_sound .no shp9 [nod9] _ (by decide) hsm) rfl fun i a b ha hb => ?_) ?_
 ·match i with
  | 0 => simp only [List.getElem?_cons_zero, Option.some.injEq] at ha hb; subst ha hb; exact wknB_ok (n := 10) rfl
  | 1 => simp only [List.getElem?_cons_zero, List.getElem?_cons_succ, Option.some.injEq] at ha hb; subst ha hb; exact wknB_ok (n := 10) rfl
  | i + 2 => simp at ha
 rintro r G1 ⟨hx1, hr⟩
 rcases hr with ⟨h1, rfl⟩ | ⟨h1, id, rfl, h2⟩
 ·exact absurd hle h1
 have ha := LoadQ.arw h2
 ((have hd := trivial; repeat' (first | ((first | apply GdK_st | apply GdK_sf | apply CondK_s) <;> intro hd <;> (try simp only [hd])) | simp (disch := first | assumption | omega | (simp only [nx] <;> omega) | fail) only [hd, hQr, hQn, c21_0, ↓YA, YB, YC, YE, YF, YZ, ↓reduceIte, Nat.reduceEqDiff, Nat.reduceAdd, Nat.reduceMul, Nat.reduceLeDiff, Int.reduceToNat, Int.reduceLE, Int.reduceLT, Int.reduceGT, Int.reduceGE, Int.reduceAdd, Int.reduceSub, Int.reduceNeg, Int.reduceBEq, Int.reduceBNe])) <;> (try (have hd_ : True := hd; clear hd_ hd)))
 have hF := facts_sound (most := 5) hwk ha (by decide) (by decide)
 rw [hfa] at hF
 refine CallK.use hF ?_
 rintro _ _ ⟨rfl, k2, rfl⟩
 have d1 : (((1 : Nat) : Int) == 1) = true := by decide
 obtain ⟨f0, f1, f2, f3⟩ := eFct_facts ([2], (⟨1, 0, 0, 0, 0, 0, 0, 0, 0, 0⟩ : Ag))
 have d2 : decide (([2] : List Int) = [2]) = true := by decide
 ((have hd := trivial; repeat' (first | ((first | apply GdK_st | apply GdK_sf | apply CondK_s) <;> intro hd <;> (try simp only [hd])) | simp (disch := first | assumption | omega | (simp only [nx] <;> omega) | fail) only [hd, hQr, hQn, c21_0, ↓YA, YB, YC, YE, YF, YZ, ↓reduceIte, Nat.reduceEqDiff, Nat.reduceAdd, Nat.reduceMul, Nat.reduceLeDiff, Int.reduceToNat, Int.reduceLE, Int.reduceLT, Int.reduceGT, Int.reduceGE, Int.reduceAdd, Int.reduceSub, Int.reduceNeg, Int.reduceBEq, Int.reduceBNe, d1, f0, f1])) <;> (try (have hd_ : True := hd; clear hd_ hd)))
 (refine CallK.use (ints_sound .no .full [2] [2] _ (by decide)) ?_; rintro _ _ ⟨rfl, k3, rfl⟩)
 ((have hd := trivial; repeat' (first | ((first | apply GdK_st | apply GdK_sf | apply CondK_s) <;> intro hd <;> (try simp only [hd])) | simp (disch := first | assumption | omega | (simp only [nx] <;> omega) | fail) only [hd, hQr, hQn, c21_0, ↓YA, YB, YC, YE, YF, YZ, ↓reduceIte, Nat.reduceEqDiff, Nat.reduceAdd, Nat.reduceMul, Nat.reduceLeDiff, Int.reduceToNat, Int.reduceLE, Int.reduceLT, Int.reduceGT, Int.reduceGE, Int.reduceAdd, Int.reduceSub, Int.reduceNeg, Int.reduceBEq, Int.reduceBNe, d2])) <;> (try (have hd_ : True := hd; clear hd_ hd)))
 have hx1 : AHeap.Ext H G1 := (((AHeap.Ext.refl H).alloc).alloc).trans hx1
 exact fin_keep ⟨rfl, by exact AXT⟩
theorem bld_keys {S : Sc} {facts : List Fct} (h : bldE S 20000 facts = 0) : ∀ f ∈ facts, f.1.length ≤ 1000000 := by
 unfold bldE at h
 split at h
 ·rename_i h1; exact absurd h h1
 rename_i h1
 split at h
 ·rename_i h2; exact absurd h h2
 rename_i h2
 intro f hf
 have h3 := (factE_zero (rowF_zero (Classical.not_not.1 h2) f hf)).1
 have h4 := (scE_zero (Classical.not_not.1 h1)).2.1
 rw [h3]
 unfold shpS
 rw [List.length_map]
 omega
set_option maxHeartbeats 4000000 in
theorem back_law (S : Sc) (facts : List Fct) (H : AHeap) (ha : ∀ f ∈ facts, AgIn f.2) : Sound Try.prog 5 [.agg (eSc S), .sl .no (rF facts)] H fun r _ => r = .b true := by
 obtain ⟨f0, f1, f2, f3⟩ := eSc_facts S
 have hx0 : AHeap.Ext H (H.alloc (.cells (eSc S) 25)) := (AHeap.Ext.refl H).alloc
 have g1 : (H.alloc (.cells (eSc S) 25)).get H.next = some (.cells (eSc S) 25) := AHeap.get_alloc_self
 refine fn_soundQ hE cf5 (Nat.le_of_ble_eq_true rfl) fun Q hQr hQn => ?_
 ((have hd := trivial; repeat' (first | ((first | apply GdK_st | apply GdK_sf | apply CondK_s) <;> intro hd <;> (try simp only [hd])) | simp (disch := first | assumption | omega | (simp only [nx] <;> omega) | fail) only [hd, hQr, hQn, c5_0, ↓YA, YB, YC, YE, YF, YZ, ↓reduceIte, Nat.reduceEqDiff, Nat.reduceAdd, Nat.reduceMul, Nat.reduceLeDiff, Int.reduceToNat, Int.reduceLE, Int.reduceLT, Int.reduceGT, Int.reduceGE, Int.reduceAdd, Int.reduceSub, Int.reduceNeg, Int.reduceBEq, Int.reduceBNe, f0, f3])) <;> (try (have hd_ : True := hd; clear hd_ hd)))
 refine CallK.use (few17_sound S _) ?_
 rintro r H1 ⟨hx1, b, rfl, hb⟩
 have g1 := hx1.ext.get _ _ g1
 have l1 := AHeap.lt g1
 cases b with
 | false =>
  ((have hd := trivial; repeat' (first | ((first | apply GdK_st | apply GdK_sf | apply CondK_s) <;> intro hd <;> (try simp only [hd])) | simp (disch := first | assumption | omega | (simp only [nx] <;> omega) | fail) only [hd, hQr, hQn, c5_0, ↓YA, YB, YC, YE, YF, YZ, ↓reduceIte, Nat.reduceEqDiff, Nat.reduceAdd, Nat.reduceMul, Nat.reduceLeDiff, Int.reduceToNat, Int.reduceLE, Int.reduceLT, Int.reduceGT, Int.reduceGE, Int.reduceAdd, Int.reduceSub, Int.reduceNeg, Int.reduceBEq, Int.reduceBNe])) <;> (try (have hd_ : True := hd; clear hd_ hd)))
  refine CallK.use (awake29 _) ?_
  rintro r H2 ⟨rfl, hx2⟩
  ((have hd := trivial; repeat' (first | ((first | apply GdK_st | apply GdK_sf | apply CondK_s) <;> intro hd <;> (try simp only [hd])) | simp (disch := first | assumption | omega | (simp only [nx] <;> omega) | fail) only [hd, hQr, hQn, c5_0, ↓YA, YB, YC, YE, YF, YZ, ↓reduceIte, Nat.reduceEqDiff, Nat.reduceAdd, Nat.reduceMul, Nat.reduceLeDiff, Int.reduceToNat, Int.reduceLE, Int.reduceLT, Int.reduceGT, Int.reduceGE, Int.reduceAdd, Int.reduceSub, Int.reduceNeg, Int.reduceBEq, Int.reduceBNe])) <;> (try (have hd_ : True := hd; clear hd_ hd)))
  exact fin_keep rfl
 | true =>
 have hb := hb rfl
 have hS : smallS S := fun d hd t ht => by have := ((hb.2 d hd).2 t ht).2; unfold smallT; omega
 by_cases c1 : S.dims.length > 8
 ·have d1 : decide ((S.dims.length : Int) > 8) = true := by simp; omega
  ((have hd := trivial; repeat' (first | ((first | apply GdK_st | apply GdK_sf | apply CondK_s) <;> intro hd <;> (try simp only [hd])) | simp (disch := first | assumption | omega | (simp only [nx] <;> omega) | fail) only [hd, hQr, hQn, c5_0, ↓YA, YB, YC, YE, YF, YZ, ↓reduceIte, Nat.reduceEqDiff, Nat.reduceAdd, Nat.reduceMul, Nat.reduceLeDiff, Int.reduceToNat, Int.reduceLE, Int.reduceLT, Int.reduceGT, Int.reduceGE, Int.reduceAdd, Int.reduceSub, Int.reduceNeg, Int.reduceBEq, Int.reduceBNe, g1, f1, d1, List.length_map])) <;> (try (have hd_ : True := hd; clear hd_ hd)))
  refine CallK.use (awake29 _) ?_
  rintro r H2 ⟨rfl, hx2⟩
  ((have hd := trivial; repeat' (first | ((first | apply GdK_st | apply GdK_sf | apply CondK_s) <;> intro hd <;> (try simp only [hd])) | simp (disch := first | assumption | omega | (simp only [nx] <;> omega) | fail) only [hd, hQr, hQn, c5_0, ↓YA, YB, YC, YE, YF, YZ, ↓reduceIte, Nat.reduceEqDiff, Nat.reduceAdd, Nat.reduceMul, Nat.reduceLeDiff, Int.reduceToNat, Int.reduceLE, Int.reduceLT, Int.reduceGT, Int.reduceGE, Int.reduceAdd, Int.reduceSub, Int.reduceNeg, Int.reduceBEq, Int.reduceBNe])) <;> (try (have hd_ : True := hd; clear hd_ hd)))
  exact fin_keep rfl
 have d1 : decide ((S.dims.length : Int) > 8) = false := by simp; omega
 ((have hd := trivial; repeat' (first | ((first | apply GdK_st | apply GdK_sf | apply CondK_s) <;> intro hd <;> (try simp only [hd])) | simp (disch := first | assumption | omega | (simp only [nx] <;> omega) | fail) only [hd, hQr, hQn, c5_0, ↓YA, YB, YC, YE, YF, YZ, ↓reduceIte, Nat.reduceEqDiff, Nat.reduceAdd, Nat.reduceMul, Nat.reduceLeDiff, Int.reduceToNat, Int.reduceLE, Int.reduceLT, Int.reduceGT, Int.reduceGE, Int.reduceAdd, Int.reduceSub, Int.reduceNeg, Int.reduceBEq, Int.reduceBNe, g1, f1, d1, List.length_map])) <;> (try (have hd_ : True := hd; clear hd_ hd)))
 refine CallK.use (few19_sound .no facts 60 _ (by omega)) ?_
 rintro r H2 ⟨hx2, b, rfl, hfl⟩
 have g2 := hx2.ext.get _ _ g1
 cases b with
 | false =>
  ((have hd := trivial; repeat' (first | ((first | apply GdK_st | apply GdK_sf | apply CondK_s) <;> intro hd <;> (try simp only [hd])) | simp (disch := first | assumption | omega | (simp only [nx] <;> omega) | fail) only [hd, hQr, hQn, c5_0, ↓YA, YB, YC, YE, YF, YZ, ↓reduceIte, Nat.reduceEqDiff, Nat.reduceAdd, Nat.reduceMul, Nat.reduceLeDiff, Int.reduceToNat, Int.reduceLE, Int.reduceLT, Int.reduceGT, Int.reduceGE, Int.reduceAdd, Int.reduceSub, Int.reduceNeg, Int.reduceBEq, Int.reduceBNe])) <;> (try (have hd_ : True := hd; clear hd_ hd)))
  refine CallK.use (awake29 _) ?_
  rintro r H2 ⟨rfl, hx2⟩
  ((have hd := trivial; repeat' (first | ((first | apply GdK_st | apply GdK_sf | apply CondK_s) <;> intro hd <;> (try simp only [hd])) | simp (disch := first | assumption | omega | (simp only [nx] <;> omega) | fail) only [hd, hQr, hQn, c5_0, ↓YA, YB, YC, YE, YF, YZ, ↓reduceIte, Nat.reduceEqDiff, Nat.reduceAdd, Nat.reduceMul, Nat.reduceLeDiff, Int.reduceToNat, Int.reduceLE, Int.reduceLT, Int.reduceGT, Int.reduceGE, Int.reduceAdd, Int.reduceSub, Int.reduceNeg, Int.reduceBEq, Int.reduceBNe])) <;> (try (have hd_ : True := hd; clear hd_ hd)))
  exact fin_keep rfl
 | true =>
 have hfl := hfl rfl
 have hbl := fun h => bld_back (S := S) (facts := facts) h ha
 ((have hd := trivial; repeat' (first | ((first | apply GdK_st | apply GdK_sf | apply CondK_s) <;> intro hd <;> (try simp only [hd])) | simp (disch := first | assumption | omega | (simp only [nx] <;> omega) | fail) only [hd, hQr, hQn, c5_0, ↓YA, YB, YC, YE, YF, YZ, ↓reduceIte, Nat.reduceEqDiff, Nat.reduceAdd, Nat.reduceMul, Nat.reduceLeDiff, Int.reduceToNat, Int.reduceLE, Int.reduceLT, Int.reduceGT, Int.reduceGE, Int.reduceAdd, Int.reduceSub, Int.reduceNeg, Int.reduceBEq, Int.reduceBNe, g2, f0, f3])) <;> (try (have hd_ : True := hd; clear hd_ hd)))
 refine CallK.use (build_sound .no S 20000 facts _ hS (by omega) (fun q1 q2 q3 _ => facts_ok q1 q2 q3 ha)) ?_
 rintro r H3 ⟨hx3, hr⟩
 obtain ⟨r1, hr1⟩ : ∃ r1, r = .tup [r1, .i (bldE S 20000 facts)] ∧ ((bldE S 20000 facts ≠ 0 ∧ r1 = .sc (.pointer none)) ∨ (bldE S 20000 facts = 0 ∧ ∃ id, r1 = .ptr id 0 ∧ ArA H3 id (shpS S) (bldL S 20000 facts))) := by
  rcases hr with ⟨h1, rfl⟩ | ⟨h1, id, rfl, h2⟩
  ·exact ⟨_, rfl, .inl ⟨h1, rfl⟩⟩
  ·exact ⟨_, by rw [h1], .inr ⟨h1, id, rfl, h2⟩⟩
 obtain ⟨rfl, hr1⟩ := hr1
 clear hr
 rcases hr1 with ⟨e1, rfl⟩ | ⟨e1, ia, rfl, hA⟩
 ·have d2 : (bldE S 20000 facts != 0) = true := by simpa using e1
  ((have hd := trivial; repeat' (first | ((first | apply GdK_st | apply GdK_sf | apply CondK_s) <;> intro hd <;> (try simp only [hd])) | simp (disch := first | assumption | omega | (simp only [nx] <;> omega) | fail) only [hd, hQr, hQn, c5_0, ↓YA, YB, YC, YE, YF, YZ, ↓reduceIte, Nat.reduceEqDiff, Nat.reduceAdd, Nat.reduceMul, Nat.reduceLeDiff, Int.reduceToNat, Int.reduceLE, Int.reduceLT, Int.reduceGT, Int.reduceGE, Int.reduceAdd, Int.reduceSub, Int.reduceNeg, Int.reduceBEq, Int.reduceBNe, d2])) <;> (try (have hd_ : True := hd; clear hd_ hd)))
  refine CallK.use (awake29 _) ?_
  rintro r H4 ⟨rfl, hx4⟩
  ((have hd := trivial; repeat' (first | ((first | apply GdK_st | apply GdK_sf | apply CondK_s) <;> intro hd <;> (try simp only [hd])) | simp (disch := first | assumption | omega | (simp only [nx] <;> omega) | fail) only [hd, hQr, hQn, c5_0, ↓YA, YB, YC, YE, YF, YZ, ↓reduceIte, Nat.reduceEqDiff, Nat.reduceAdd, Nat.reduceMul, Nat.reduceLeDiff, Int.reduceToNat, Int.reduceLE, Int.reduceLT, Int.reduceGT, Int.reduceGE, Int.reduceAdd, Int.reduceSub, Int.reduceNeg, Int.reduceBEq, Int.reduceBNe])) <;> (try (have hd_ : True := hd; clear hd_ hd)))
  exact fin_keep rfl
 have hB := hbl e1
 have hkl := bld_keys e1
 have d2 : (bldE S 20000 facts != 0) = false := by simpa using e1
 generalize bldL S 20000 facts = N at *
 generalize shpS S = x at *
 have hNl := hB.len
 have hw := wlk_of hB.load (by omega) hB.sm
 have hfa : resFacts x N (facts.length : Int) = .tup [.sl .no (rF facts), .i 0] := by
  unfold resFacts
  rw [if_neg (by rw [hB.whole]; decide)]
  by_cases hz : facts = []
  ·rw [hB.nil hz, hz]; rfl
  ·have hn0 : ¬ N.length = 0 := fun h => hB.ne hz (List.eq_nil_of_length_eq_zero h)
   rw [if_neg hn0, hB.fct hz]
   unfold resF fill
   simp
 have hco : resCount x N 9999 = (facts.length : Int) := by
  unfold resCount
  by_cases hz : facts = []
  ·rw [if_neg (fun h => h.2 (by rw [hB.nil hz]; rfl)), hz]; rfl
  ·have hn0 : ¬ N.length = 0 := fun h => hB.ne hz (List.eq_nil_of_length_eq_zero h)
   rw [if_pos ⟨hB.whole, hn0⟩]
   unfold fcn
   rw [hB.fct hz]
   have : (9999 : Int).toNat = 9999 := rfl
   rw [this]
   omega
 have hF := facts_sound (most := (facts.length : Int)) hw hA (by omega) (by omega)
 rw [hfa] at hF
 ((have hd := trivial; repeat' (first | ((first | apply GdK_st | apply GdK_sf | apply CondK_s) <;> intro hd <;> (try simp only [hd])) | simp (disch := first | assumption | omega | (simp only [nx] <;> omega) | fail) only [hd, hQr, hQn, c5_0, ↓YA, YB, YC, YE, YF, YZ, ↓reduceIte, Nat.reduceEqDiff, Nat.reduceAdd, Nat.reduceMul, Nat.reduceLeDiff, Int.reduceToNat, Int.reduceLE, Int.reduceLT, Int.reduceGT, Int.reduceGE, Int.reduceAdd, Int.reduceSub, Int.reduceNeg, Int.reduceBEq, Int.reduceBNe, d2, List.length_map])) <;> (try (have hd_ : True := hd; clear hd_ hd)))
 (refine CallK.use (hF) ?_; rintro _ _ ⟨rfl, k1, rfl⟩)
 ((have hd := trivial; repeat' (first | ((first | apply GdK_st | apply GdK_sf | apply CondK_s) <;> intro hd <;> (try simp only [hd])) | simp (disch := first | assumption | omega | (simp only [nx] <;> omega) | fail) only [hd, hQr, hQn, c5_0, ↓YA, YB, YC, YE, YF, YZ, ↓reduceIte, Nat.reduceEqDiff, Nat.reduceAdd, Nat.reduceMul, Nat.reduceLeDiff, Int.reduceToNat, Int.reduceLE, Int.reduceLT, Int.reduceGT, Int.reduceGE, Int.reduceAdd, Int.reduceSub, Int.reduceNeg, Int.reduceBEq, Int.reduceBNe, List.length_map])) <;> (try (have hd_ : True := hd; clear hd_ hd)))
 (refine CallK.use (same19_sound .no .no facts _ (by omega) hkl) ?_; rintro _ _ ⟨rfl, k2, rfl⟩)
 ((have hd := trivial; repeat' (first | ((first | apply GdK_st | apply GdK_sf | apply CondK_s) <;> intro hd <;> (try simp only [hd])) | simp (disch := first | assumption | omega | (simp only [nx] <;> omega) | fail) only [hd, hQr, hQn, c5_0, ↓YA, YB, YC, YE, YF, YZ, ↓reduceIte, Nat.reduceEqDiff, Nat.reduceAdd, Nat.reduceMul, Nat.reduceLeDiff, Int.reduceToNat, Int.reduceLE, Int.reduceLT, Int.reduceGT, Int.reduceGE, Int.reduceAdd, Int.reduceSub, Int.reduceNeg, Int.reduceBEq, Int.reduceBNe, List.length_map])) <;> (try (have hd_ : True := hd; clear hd_ hd)))
 have hx5 : AHeap.Ext H3 ((H3.bump k1).bump k2) := by exact AXT
 have hC := count_sound (most := 9999) hw (hA.ext hx5) (by omega) (by omega)
 rw [hco] at hC
 have d3 : ((facts.length : Int) == (facts.length : Int)) = true := by simp
 (refine CallK.use (hC) ?_; rintro _ _ ⟨rfl, k3, rfl⟩)
 ((have hd := trivial; repeat' (first | ((first | apply GdK_st | apply GdK_sf | apply CondK_s) <;> intro hd <;> (try simp only [hd])) | simp (disch := first | assumption | omega | (simp only [nx] <;> omega) | fail) only [hd, hQr, hQn, c5_0, ↓YA, YB, YC, YE, YF, YZ, ↓reduceIte, Nat.reduceEqDiff, Nat.reduceAdd, Nat.reduceMul, Nat.reduceLeDiff, Int.reduceToNat, Int.reduceLE, Int.reduceLT, Int.reduceGT, Int.reduceGE, Int.reduceAdd, Int.reduceSub, Int.reduceNeg, Int.reduceBEq, Int.reduceBNe, d3, List.length_map])) <;> (try (have hd_ : True := hd; clear hd_ hd)))
 refine CallK.use (awake29 _) ?_
 rintro r H8 ⟨rfl, hx8⟩
 ((have hd := trivial; repeat' (first | ((first | apply GdK_st | apply GdK_sf | apply CondK_s) <;> intro hd <;> (try simp only [hd])) | simp (disch := first | assumption | omega | (simp only [nx] <;> omega) | fail) only [hd, hQr, hQn, c5_0, ↓YA, YB, YC, YE, YF, YZ, ↓reduceIte, Nat.reduceEqDiff, Nat.reduceAdd, Nat.reduceMul, Nat.reduceLeDiff, Int.reduceToNat, Int.reduceLE, Int.reduceLT, Int.reduceGT, Int.reduceGE, Int.reduceAdd, Int.reduceSub, Int.reduceNeg, Int.reduceBEq, Int.reduceBNe])) <;> (try (have hd_ : True := hd; clear hd_ hd)))
 exact fin_keep rfl
end Go.Proofs.Ytaapiigfmdhobaa
