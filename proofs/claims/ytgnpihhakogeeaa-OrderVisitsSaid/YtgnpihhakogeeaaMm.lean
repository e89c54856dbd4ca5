/- Texts of the walk, joined: Yd U8 U9 Ua Ub Uc. -/
import Derived.Test.YtgnpihhakogeeaaMi
import Derived.Test.YtgnpihhakogeeaaMk
namespace Go.Proofs.Ytgnpihhakogeeaa
set_option linter.unusedSimpArgs false
set_option linter.unusedVariables false
open Go.RowKit

inductive Wkn : AV → AV → Prop
  | refl (a : AV) : Wkn a a
  | sl (t : Tok) (rows rows' : List (List AV)) (hl : rows.length = rows'.length) (h1 : ∀ (i : Nat) (r r' : List AV), rows[i]? = some r → rows'[i]? = some r' → r.length = r'.length)
      (h2 : ∀ (i : Nat) (r r' : List AV) (j : Nat) (x y : AV), rows[i]? = some r → rows'[i]? = some r' → r[j]? = some x → r'[j]? = some y → Wkn x y) : Wkn (.sl t rows) (.sl .no rows')
  | agg (cs cs' : List AV) (hl : cs.length = cs'.length) (h : ∀ (i : Nat) (x y : AV), cs[i]? = some x → cs'[i]? = some y → Wkn x y) : Wkn (.agg cs) (.agg cs')
  | tup (cs cs' : List AV) (hl : cs.length = cs'.length) (h : ∀ (i : Nat) (x y : AV), cs[i]? = some x → cs'[i]? = some y → Wkn x y) : Wkn (.tup cs) (.tup cs')
section
variable {g : Gh} {w : World}
theorem Wkn.one {a b : AV} (h : Wkn a b) : a.one = b.one := by cases h <;> rfl
theorem get_of_len {α : Type} {l m : List α} (hl : l.length = m.length) {i : Nat} {y : α} (h : m[i]? = some y) : ∃ x, l[i]? = some x := by
  have := (List.getElem?_eq_some_iff.1 h).1
  exact ⟨l[i]'(by omega), List.getElem?_eq_getElem (by omega)⟩
theorem VR.wkn {a b : AV} {v : Value} (hw : Wkn a b) (h : VR g w a v) : VR g w b v := by
  induction hw generalizing v with
  | refl a => exact h
  | sl t rows rows' hl h1 h2 ih =>
    cases h with
    | sl tok _ A c sz b o f hc hm hA hsz hcell hv ht =>
      have := VR.sl (g := g) (w := w) .no rows' A c sz b o f (by rw [← hl]; exact hc) hm (fun hne => hA fun e => hne (by rw [e] at hl; exact List.length_eq_zero_iff.1 hl.symm)) (fun r' hr' => by
        obtain ⟨i, hi, rfl⟩ := List.getElem_of_mem hr'
        obtain ⟨r, hr⟩ := get_of_len hl (List.getElem?_eq_getElem hi)
        have hrm := List.mem_of_getElem? hr
        have e := h1 i r _ hr (List.getElem?_eq_getElem hi)
        refine ⟨by rw [← e]; exact (hsz r hrm).1, fun y hy => ?_⟩
        obtain ⟨j, hj, rfl⟩ := List.getElem_of_mem hy
        obtain ⟨x, hx⟩ := get_of_len e (List.getElem?_eq_getElem hj)
        rw [← (h2 i r _ j x _ hr (List.getElem?_eq_getElem hi) hx (List.getElem?_eq_getElem hj)).one]
        exact (hsz r hrm).2 x (List.mem_of_getElem? hx)) (fun i r' j y hr' hy => by
        obtain ⟨r, hr⟩ := get_of_len hl hr'
        obtain ⟨x, hx⟩ := get_of_len (h1 i r r' hr hr') hy
        exact hcell i r j x hr hx) (fun i r' j y hr' hy => by
        obtain ⟨r, hr⟩ := get_of_len hl hr'
        obtain ⟨x, hx⟩ := get_of_len (h1 i r r' hr hr') hy
        exact ih i r r' j x y hr hr' hx hy (hv i r j x hr hx)) trivial
      rw [hl]
      exact this
  | agg cs cs' hl hh ih =>
    cases h with
    | agg _ vs hl2 hone hv => exact .agg cs' vs (by rw [← hl]; exact hl2) (fun y hy => by
        obtain ⟨j, hj, rfl⟩ := List.getElem_of_mem hy
        obtain ⟨x, hx⟩ := get_of_len hl (List.getElem?_eq_getElem hj)
        rw [← (hh j x _ hx (List.getElem?_eq_getElem hj)).one]
        exact hone x (List.mem_of_getElem? hx)) (fun i y u hy hu => by
        obtain ⟨x, hx⟩ := get_of_len hl hy
        exact ih i x y hx hy (hv i x u hx hu))
  | tup cs cs' hl hh ih =>
    cases h with
    | tup _ vs hl2 hv => exact .tup cs' vs (by rw [← hl]; exact hl2) (fun i y u hy hu => by
        obtain ⟨x, hx⟩ := get_of_len hl hy
        exact ih i x y hx hy (hv i x u hx hu))
end
theorem RStep.wkn {r v : AV} {H H2 : AHeap} (hr : Wkn r v) (h : AHeap.Ext H2 H) : RStep r H v (H2.bump (H.next - H2.next)) := fun g w u hv hW => by
  obtain ⟨k1, k2⟩ := drop_ok hW (H2 := H2.bump (H.next - H2.next)) (fun i o hi => h.get i o hi) (by have := h.next; simp; omega)
  exact ⟨g, hv.wkn hr, k1, k2⟩
theorem fin_wkn {r v : AV} {H0 H : AHeap} (hr : Wkn r v) (hx : AHeap.Ext H0 H := by exact AXT) : ∃ r2 H2, RStep r H r2 H2 ∧ Pure H0 v r2 H2 := ⟨_, _, RStep.wkn hr hx, rfl, _, rfl⟩
/-- rows of lists, whatever their tokens -/
abbrev rLt (ts : List (Tok × List Cel)) : List (List AV) := ts.map fun p => [.sl p.1 (rC p.2)]
theorem wkn_lists (t : Tok) (ts : List (Tok × List Cel)) : Wkn (.sl t (rLt ts)) (.sl .no (rL (ts.map (·.2)))) := by
  refine .sl _ _ _ (by simp) (fun i r r' h h' => ?_) (fun i r r' j x y h h' hx hy => ?_)
  · simp only [List.getElem?_map, List.map_map] at h h'
    cases hi : ts[i]? with
    | none => rw [hi] at h; cases h
    | some p => rw [hi] at h h'; simp at h h'; subst h h'; rfl
  · simp only [List.getElem?_map, List.map_map] at h h'
    cases hi : ts[i]? with
    | none => rw [hi] at h; cases h
    | some p =>
      rw [hi] at h h'
      simp at h h'
      subst h h'
      cases j with
      | zero => simp at hx hy; subst hx hy; exact .sl _ _ _ rfl (fun i r r' h h' => by rw [h] at h'; injection h' with h'; rw [h']) (fun i r r' j x y h h' hx hy => by rw [h] at h'; injection h' with h'; subst h'; rw [hx] at hy; injection hy with hy; subst hy; exact .refl _)
      | succ j => simp at hx
def eNodT (t : Tok) (dim : Int) (ts : List (Tok × List Cel)) (all : Cel) : List AV := .i dim :: .sl t (rLt ts) :: eCel all
theorem wkn_node (t : Tok) (dim : Int) (ts : List (Tok × List Cel)) (all : Cel) : Wkn (.agg (eNodT t dim ts all)) (.agg (eNod .no ⟨dim, ts.map (·.2), all⟩)) := by
  refine .agg _ _ rfl (fun i x y hx hy => ?_)
  have e : eNod .no ⟨dim, ts.map (·.2), all⟩ = .i dim :: .sl .no (rL (ts.map (·.2))) :: eCel all := rfl
  rw [e] at hy
  unfold eNodT at hx
  match i with
  | 0 => simp at hx hy; subst hx hy; exact .refl _
  | 1 => simp at hx hy; subst hx hy; simpa using wkn_lists t ts
  | i + 2 => simp only [List.getElem?_cons_succ] at hx hy; rw [hx] at hy; injection hy with hy; subst hy; exact .refl _
end Go.Proofs.Ytgnpihhakogeeaa

namespace Go.Proofs.Ytgnpihhakogeeaa
set_option linter.unusedSimpArgs false
set_option linter.unusedVariables false
open Go.RowKit

theorem bfd (b : Bool) : b = false ∨ b = true := by cases b <;> simp
theorem contains_drop {l : List Int} {v : Int} {k : Nat} (h : k < l.length) : (l.drop k).contains v = (v == l[k] || (l.drop (k + 1)).contains v) := by
  rw [List.drop_eq_getElem_cons h, List.contains_cons]
theorem in_sound (t : Tok) (l : List Int) (n : Int) (H : AHeap) (hl : l.length ≤ 1000000) : Sound Try.prog 88 [.sl t (rI l), .i n] H (Pure H (.b (l.contains n))) := by
  refine fn_soundQ hE cf88 (Nat.le_of_ble_eq_true rfl) fun Q hQr hQn => ?_
  ((have hd := trivial; repeat' (first | ((first | refine GdK_st (fun hd => ?_) (fun hd => ?_) | refine GdK_sf (fun hd => ?_) (fun hd => ?_) | refine CondK_s (fun hd => ?_) (fun hd => ?_)) <;> (try simp only [hd])) | simp (disch := first | assumption | omega | (simp only [nx] <;> omega) | fail) only [hd, hQr, hQn, c88_0, ↓YA, YB, YC, YE, YF, YZ, ↓reduceIte, Nat.reduceEqDiff, Nat.reduceAdd, Nat.reduceMul, Nat.reduceLeDiff, Int.reduceToNat, Int.reduceLE, Int.reduceLT, Int.reduceGT, Int.reduceGE, Int.reduceAdd, Int.reduceSub, Int.reduceNeg, Int.reduceBEq, Int.reduceBNe])) <;> (try (have hd_ : True := hd; clear hd_ hd)))
  generalize hT : l.contains n = T at *
  refine AW_for [1, 7, 8] (σ := Unit) (fun (k : Nat) s => T = (l.drop k).contains n) (fun k s => []) (fun k s => []) () (GStep.refl _ _) (by simp only [keep_nil, keep_cons, Fr.put, Fr.get, ↓reduceIte, Nat.reduceEqDiff]; rfl) (by intro k s; rfl) (by intro k s; rfl) (by rfl) (by unfold maxLen; omega) ?_ (by simp only [FrL_nil]) (by simp only [ObjL_nil]) ?_ ?_
  · exact hT.symm
  · (rintro k s G hk ht hG hn; try simp only [nx] at hn)
    rw [contains_drop hk] at ht
    ((have hd := trivial; repeat' (first | ((first | refine GdK_st (fun hd => ?_) (fun hd => ?_) | refine GdK_sf (fun hd => ?_) (fun hd => ?_) | refine CondK_s (fun hd => ?_) (fun hd => ?_)) <;> (try simp only [hd])) | simp (disch := first | assumption | omega | (simp only [nx] <;> omega) | fail) only [hd, hQr, hQn, c88_0, ↓YA, YB, YC, YE, YF, YZ, ↓reduceIte, Nat.reduceEqDiff, Nat.reduceAdd, Nat.reduceMul, Nat.reduceLeDiff, Int.reduceToNat, Int.reduceLE, Int.reduceLT, Int.reduceGT, Int.reduceGE, Int.reduceAdd, Int.reduceSub, Int.reduceNeg, Int.reduceBEq, Int.reduceBNe])) <;> (try (have hd_ : True := hd; clear hd_ hd)))
    · refine fin_bA (by rw [ht]; simp at hd; simp [hd])
    · exact ⟨(), by rw [ht]; simp at hd; simp; omega, by exact HXT⟩
  · (rintro s G ht hG hn; try simp only [nx] at hn)
    ((have hd := trivial; repeat' (first | ((first | refine GdK_st (fun hd => ?_) (fun hd => ?_) | refine GdK_sf (fun hd => ?_) (fun hd => ?_) | refine CondK_s (fun hd => ?_) (fun hd => ?_)) <;> (try simp only [hd])) | simp (disch := first | assumption | omega | (simp only [nx] <;> omega) | fail) only [hd, hQr, hQn, c88_0, ↓YA, YB, YC, YE, YF, YZ, ↓reduceIte, Nat.reduceEqDiff, Nat.reduceAdd, Nat.reduceMul, Nat.reduceLeDiff, Int.reduceToNat, Int.reduceLE, Int.reduceLT, Int.reduceGT, Int.reduceGE, Int.reduceAdd, Int.reduceSub, Int.reduceNeg, Int.reduceBEq, Int.reduceBNe])) <;> (try (have hd_ : True := hd; clear hd_ hd)))
    refine fin_bA (by rw [ht, List.drop_length]; rfl)
def chs (x : Shp) (l : List Nod) (at_ : Int) : List Int := if lastB x (nodAt l at_).dim = true then [] else (each (nodAt l at_)).map Cel.child
def visF (x : Shp) (l : List Nod) : Nat → List Int → Int → List Int
  | 0, came, _ => came
  | n + 1, came, at_ => if came.contains at_ = true then came else (chs x l at_).foldl (visF x l n) came ++ [at_]
/-- places of nodes, each once -/
structure Plc (n : Nat) (r : List Int) : Prop where
  nodup : r.Nodup
  lo : ∀ u ∈ r, 0 ≤ u ∧ u < n
theorem Plc.len {n : Nat} {r : List Int} (h : Plc n r) : r.length ≤ n := by
  have h1 : (r.map Int.toNat).Nodup := by
    refine List.Pairwise.map _ ?_ (List.Pairwise.and_mem.1 h.nodup)
    rintro a b ⟨ha, hb, hne⟩ e
    have := h.lo a ha
    have := h.lo b hb
    exact hne (by omega)
  have h2 : ∀ u ∈ r.map Int.toNat, u < n := by
    intro u hu
    obtain ⟨v, hv, rfl⟩ := List.mem_map.1 hu
    have := h.lo v hv
    omega
  have h3 := List.Nodup.length_le_of_subset (l₂ := List.range n) h1 (fun u hu => List.mem_range.2 (h2 u hu))
  simpa using h3
theorem Plc.nil (n : Nat) : Plc n [] := ⟨List.nodup_nil, by simp⟩
/-- each node's own come ahead of it -/
def Clo (x : Shp) (l : List Nod) (r : List Int) : Prop := ∀ i (h : i < r.length), ∀ c ∈ chs x l r[i], c ∈ r.take i
theorem chs_down {x : Shp} {l : List Nod} (hd : Down x l) {i : Int} (h0 : 0 ≤ i) (h1 : i < l.length) {c : Int} (hc : c ∈ chs x l i) : 0 ≤ c ∧ c < i := by
  unfold chs at hc
  split at hc
  · cases hc
  · rename_i hl
    obtain ⟨n, rfl⟩ : ∃ n : Nat, i = n := ⟨i.toNat, by omega⟩
    obtain ⟨e, he, rfl⟩ := List.mem_map.1 hc
    exact hd n (by omega) (by simpa using hl) e he
structure VisQ (x : Shp) (l : List Nod) (came r : List Int) (ats : List Int) : Prop where
  pre : ∃ new, r = came ++ new ∧ ∀ u ∈ new, (u ∈ ats ∨ ∃ v ∈ new, u ∈ chs x l v) ∧ ∃ a ∈ ats, u ≤ a
  plc : Plc l.length r
  clo : Clo x l r
  all : ∀ u ∈ ats, u ∈ r
theorem fold_vis {x : Shp} {l : List Nod} {n : Nat} (ih : ∀ (came : List Int) (at_ : Int), Plc l.length came → Clo x l came → 0 ≤ at_ → at_ < l.length → at_ < n → VisQ x l came (visF x l n came at_) [at_]) :
    ∀ (cs came : List Int), Plc l.length came → Clo x l came → (∀ c ∈ cs, 0 ≤ c ∧ c < l.length ∧ c < n) → VisQ x l came (cs.foldl (visF x l n) came) cs
  | [], came, h1, h2, h3 => ⟨⟨[], by simp, by simp⟩, h1, h2, by simp⟩
  | c :: cs, came, h1, h2, h3 => by
    obtain ⟨a, b, e⟩ := h3 c List.mem_cons_self
    have q := ih came c h1 h2 a b e
    have r := fold_vis ih cs (visF x l n came c) q.plc q.clo fun d hd => h3 d (List.mem_cons_of_mem _ hd)
    rw [List.foldl_cons]
    obtain ⟨n1, e1, f1⟩ := q.pre
    obtain ⟨n2, e2, f2⟩ := r.pre
    refine ⟨⟨n1 ++ n2, by rw [e2, e1, List.append_assoc], fun u hu => ?_⟩, r.plc, r.clo, fun u hu => ?_⟩
    · rcases List.mem_append.1 hu with hu | hu
      · obtain ⟨f1, d, hd, hle⟩ := f1 u hu
        rw [List.mem_singleton] at hd
        subst hd
        refine ⟨?_, d, List.mem_cons_self, hle⟩
        rcases f1 with h | ⟨v, hv, hc⟩
        · exact .inl (by rw [List.mem_singleton] at h; simp [h])
        · exact .inr ⟨v, List.mem_append_left _ hv, hc⟩
      · obtain ⟨f2, d, hd, hle⟩ := f2 u hu
        refine ⟨?_, d, List.mem_cons_of_mem _ hd, hle⟩
        rcases f2 with h | ⟨v, hv, hc⟩
        · exact .inl (List.mem_cons_of_mem _ h)
        · exact .inr ⟨v, List.mem_append_right _ hv, hc⟩
    · rcases List.mem_cons.1 hu with rfl | hu
      · rw [e2]; exact List.mem_append_left _ (q.all u (by simp))
      · exact r.all u hu
theorem vis_ok {x : Shp} {l : List Nod} (hd : Down x l) : ∀ (n : Nat) (came : List Int) (at_ : Int), Plc l.length came → Clo x l came → 0 ≤ at_ → at_ < l.length → at_ < (n : Int) → VisQ x l came (visF x l n came at_) [at_]
  | 0, came, at_, h1, h2, h3, h4, h5 => by omega
  | n + 1, came, at_, h1, h2, h3, h4, h5 => by
    unfold visF
    split
    · rename_i hc
      exact ⟨⟨[], by simp, by simp⟩, h1, h2, by simpa using hc⟩
    · rename_i hc
      have hcs : ∀ c ∈ chs x l at_, 0 ≤ c ∧ c < l.length ∧ c < (n : Int) := fun c hc => by have := chs_down hd h3 h4 hc; omega
      have r := fold_vis (fun came a b c d e f => vis_ok hd n came a b c d e f) (chs x l at_) came h1 h2 hcs
      generalize (chs x l at_).foldl (visF x l n) came = R at *
      obtain ⟨new, e, f⟩ := r.pre
      have hnot : at_ ∉ R := by
        rw [e]
        intro hm
        rcases List.mem_append.1 hm with hm | hm
        · exact hc (by simpa using hm)
        · obtain ⟨_, a, ha, hle⟩ := f at_ hm
          have := chs_down hd h3 h4 ha
          omega
      refine ⟨⟨new ++ [at_], by rw [e, List.append_assoc], fun u hu => ?_⟩, ⟨?_, fun u hu => ?_⟩, fun i hi c hc => ?_, fun u hu => ?_⟩
      · rcases List.mem_append.1 hu with hu | hu
        · obtain ⟨f1, a, ha, hle⟩ := f u hu
          have := chs_down hd h3 h4 ha
          refine ⟨.inr ?_, at_, by simp, by omega⟩
          rcases f1 with h | ⟨v, hv, hc⟩
          · exact ⟨at_, by simp, h⟩
          · exact ⟨v, List.mem_append_left _ hv, hc⟩
        · rw [List.mem_singleton] at hu
          subst hu
          exact ⟨.inl (by simp), u, by simp, by omega⟩
      · rw [List.nodup_append]
        refine ⟨r.plc.nodup, by simp, fun a ha b hb => ?_⟩
        rw [List.mem_singleton] at hb
        subst hb
        rintro rfl
        exact hnot ha
      · rcases List.mem_append.1 hu with hu | hu
        · exact r.plc.lo u hu
        · rw [List.mem_singleton] at hu; subst hu; exact ⟨h3, h4⟩
      · rw [List.length_append] at hi
        by_cases hir : i < R.length
        · rw [List.getElem_append_left hir] at hc
          rw [List.take_append_of_le_length (by omega)]
          exact r.clo i hir c hc
        · have hie : i = R.length := by simp at hi; omega
          subst hie
          simp only [List.getElem_append_right (Nat.le_refl _), Nat.sub_self, List.getElem_singleton] at hc
          rw [List.take_left']
          · exact r.all c hc
          · rfl
      · rw [List.mem_singleton] at hu; subst hu; simp
theorem fold_snoc {α β : Type} {f : α → β → α} {a : α} {l : List β} {k : Nat} (h : k < l.length) : (l.take (k + 1)).foldl f a = f ((l.take k).foldl f a) l[k] := by
  rw [List.take_succ_eq_append_getElem h, List.foldl_append]; rfl
set_option maxHeartbeats 4000000 in
theorem visit_sound {x : Shp} {l : List Nod} (lt : Tok) (hx : x.sizes.length ≤ 1000) (hll : l.length ≤ 100000) (hn : ∀ n ∈ l, smallN n) (hdm : ∀ n ∈ l, 0 ≤ n.dim ∧ n.dim < x.sizes.length) (hd : Down x l) :
    ∀ (n : Nat) (t : Tok) (came : List Int) (at_ : Int) (H : AHeap), Plc l.length came → Clo x l came → 0 ≤ at_ → at_ < l.length → at_ < (n : Int) → Sound Try.prog 64 [.agg (eShp x), .sl lt (rN l), .sl t (rI came), .i at_] H (Pure H (.sl .no (rI (visF x l n came at_))))
  | 0, t, came, at_, H, h1, h2, h3, h4, h5 => by omega
  | n + 1, t, came, at_, H, h1, h2, h3, h4, h5 => by
    have hcl := h1.len
    obtain ⟨a, rfl⟩ : ∃ a : Nat, at_ = a := ⟨at_.toNat, by omega⟩
    have ha : a < l.length := by omega
    have hca : ∀ c ∈ chs x l a, 0 ≤ c ∧ c < l.length ∧ c < (n : Int) := fun c hc => by have := chs_down hd h3 h4 hc; omega
    have hnod := nodAt_nat ha
    have hs := hn _ (List.getElem_mem ha)
    have hdim := hdm _ (List.getElem_mem ha)
    refine fn_soundQ hE cf64 (Nat.le_of_ble_eq_true rfl) fun Q hQr hQn => ?_
    ((have hd := trivial; repeat' (first | ((first | refine GdK_st (fun hd => ?_) (fun hd => ?_) | refine GdK_sf (fun hd => ?_) (fun hd => ?_) | refine CondK_s (fun hd => ?_) (fun hd => ?_)) <;> (try simp only [hd])) | simp (disch := first | assumption | omega | (simp only [nx] <;> omega) | fail) only [hd, hQr, hQn, c64_0, ↓YA, YB, YC, YE, YF, YZ, ↓reduceIte, Nat.reduceEqDiff, Nat.reduceAdd, Nat.reduceMul, Nat.reduceLeDiff, Int.reduceToNat, Int.reduceLE, Int.reduceLT, Int.reduceGT, Int.reduceGE, Int.reduceAdd, Int.reduceSub, Int.reduceNeg, Int.reduceBEq, Int.reduceBNe])) <;> (try (have hd_ : True := hd; clear hd_ hd)))
    (refine CallK.use (in_sound t came a _ (by omega)) ?_; rintro _ _ ⟨rfl, k1, rfl⟩)
    have hb := bfd (came.contains (a : Int))
    rcases hb with hb | hb
    · have hV : visF x l (n + 1) came a = (chs x l a).foldl (visF x l n) came ++ [(a : Int)] := by simp only [visF, hb]; rfl
      have ih := fun came at_ h1 h2 h3 h4 h5 => vis_ok hd n came at_ h1 h2 h3 h4 h5
      have hend : ∀ (R : List Int) (tk : Tok) (F : Fr) (G : AHeap), R.length ≤ l.length → AHeap.Ext H G → Fr.get F 3 = .i (a : Int) → Fr.get F 2 = .sl tk (rI R) → (∀ r, r = (chs x l a).foldl (visF x l n) came → R = r) →
          AW Try.prog (.seq (.reg [io 42 (.bsl 1 []), im 43 2, io 44 (.app 3 1 8 (.t 42) (.t 43)), im 45 3, io 46 (.bsl 1 [.t 45]), io 47 (.app 3 1 8 (.t 44) (.t 46)), im 8 47]) .ret) Q F G := by
        intro R tk F G hR hG f3 f2 hr
        have hr := hr _ rfl
        subst hr
        rw [hV] at hQr hQn
        generalize (chs x l a).foldl (visF x l n) came = R at *
        have m1 : R.length ≤ maxLen := by unfold maxLen; omega
        have m2 : R.length * 8 ≤ 140737488355328 := by omega
        have m3 : R.length + 1 ≤ maxLen := by unfold maxLen; omega
        have m4 : (R.length + 1) * 8 ≤ 140737488355328 := by omega
        have l1 := allLen_rI R
        have l2 : allLen 1 [[AV.i (a : Int)]] = true := rfl
        have l3 : allLen 1 ([] : List (List AV)) = true := rfl
        have hxn := hG.next
        have z1 : 1 ≤ maxLen := by decide
        cases R with
        | nil =>
          ((have hd := trivial; repeat' (first | ((first | refine GdK_st (fun hd => ?_) (fun hd => ?_) | refine GdK_sf (fun hd => ?_) (fun hd => ?_) | refine CondK_s (fun hd => ?_) (fun hd => ?_)) <;> (try simp only [hd])) | simp (disch := first | assumption | omega | (simp only [nx] <;> omega) | fail) only [hd, hQr, hQn, c64_0, ↓YA, YB, YC, YE, YF, YZ, ↓reduceIte, Nat.reduceEqDiff, Nat.reduceAdd, Nat.reduceMul, Nat.reduceLeDiff, Int.reduceToNat, Int.reduceLE, Int.reduceLT, Int.reduceGT, Int.reduceGE, Int.reduceAdd, Int.reduceSub, Int.reduceNeg, Int.reduceBEq, Int.reduceBNe, f2, f3, l2, l3, z1, Nat.zero_le])) <;> (try (have hd_ : True := hd; clear hd_ hd)))
          exact fin_pure (by exact AXT) rfl
        | cons u R =>
          have l1 : allLen 1 ([AV.i u] :: rI R) = true := l1
          simp only [List.length_cons] at m1 m2 m3 m4
          ((have hd := trivial; repeat' (first | ((first | refine GdK_st (fun hd => ?_) (fun hd => ?_) | refine GdK_sf (fun hd => ?_) (fun hd => ?_) | refine CondK_s (fun hd => ?_) (fun hd => ?_)) <;> (try simp only [hd])) | simp (disch := first | assumption | omega | (simp only [nx] <;> omega) | fail) only [hd, hQr, hQn, c64_0, ↓YA, YB, YC, YE, YF, YZ, ↓reduceIte, Nat.reduceEqDiff, Nat.reduceAdd, Nat.reduceMul, Nat.reduceLeDiff, Int.reduceToNat, Int.reduceLE, Int.reduceLT, Int.reduceGT, Int.reduceGE, Int.reduceAdd, Int.reduceSub, Int.reduceNeg, Int.reduceBEq, Int.reduceBNe, f2, f3, l1, l2, l3, m1, m2, m3, m4])) <;> (try (have hd_ : True := hd; clear hd_ hd)))
          refine fin_pure (by exact AXT) ?_
          simp [AV.weak, AV.weak1]
      have hb2 := bfd (lastB x (nodAt l a).dim)
      have hlt : decide (l[a].dim < (x.sizes.length : Int) - 1) = !(lastB x (nodAt l a).dim) := by
        rw [hnod]
        unfold lastB
        rw [Bool.eq_iff_iff]
        simp
        omega
      have hchs : chs x l a = if lastB x (nodAt l a).dim = true then [] else (each (nodAt l a)).map Cel.child := rfl
      rcases hb2 with hb2 | hb2
      · rw [hb2, hnod] at hchs
        simp only [Bool.false_eq_true, if_false] at hchs
        have hel := each_len hs
        ((have hd := trivial; repeat' (first | ((first | refine GdK_st (fun hd => ?_) (fun hd => ?_) | refine GdK_sf (fun hd => ?_) (fun hd => ?_) | refine CondK_s (fun hd => ?_) (fun hd => ?_)) <;> (try simp only [hd])) | simp (disch := first | assumption | omega | (simp only [nx] <;> omega) | fail) only [hd, hQr, hQn, c64_0, ↓YA, YB, YC, YE, YF, YZ, ↓reduceIte, Nat.reduceEqDiff, Nat.reduceAdd, Nat.reduceMul, Nat.reduceLeDiff, Int.reduceToNat, Int.reduceLE, Int.reduceLT, Int.reduceGT, Int.reduceGE, Int.reduceAdd, Int.reduceSub, Int.reduceNeg, Int.reduceBEq, Int.reduceBNe, hb, hlt, hb2])) <;> (try (have hd_ : True := hd; clear hd_ hd)))
        (refine CallK.use (reach_sound .no l[a] _ hs.1 (by have := hs.2.1; omega)) ?_; rintro _ _ ⟨rfl, k2, rfl⟩)
        ((have hd := trivial; repeat' (first | ((first | refine GdK_st (fun hd => ?_) (fun hd => ?_) | refine GdK_sf (fun hd => ?_) (fun hd => ?_) | refine CondK_s (fun hd => ?_) (fun hd => ?_)) <;> (try simp only [hd])) | simp (disch := first | assumption | omega | (simp only [nx] <;> omega) | fail) only [hd, hQr, hQn, c64_0, ↓YA, YB, YC, YE, YF, YZ, ↓reduceIte, Nat.reduceEqDiff, Nat.reduceAdd, Nat.reduceMul, Nat.reduceLeDiff, Int.reduceToNat, Int.reduceLE, Int.reduceLT, Int.reduceGT, Int.reduceGE, Int.reduceAdd, Int.reduceSub, Int.reduceNeg, Int.reduceBEq, Int.reduceBNe])) <;> (try (have hd_ : True := hd; clear hd_ hd)))
        generalize hcc : each l[a] = es at *
        refine AW_for [1, 3, 4, 29, 30] (σ := Tok) (fun (k : Nat) s => True) (fun k s => [(2, .sl s (rI ((chs x l a).take k |>.foldl (visF x l n) came)))]) (fun k s => []) t (GStep.refl _ _) (by simp only [keep_nil, keep_cons, Fr.put, Fr.get, ↓reduceIte, Nat.reduceEqDiff]; rfl) (by intro k s; rfl) (by intro k s; rfl) (by rfl) (by unfold maxLen; omega) ?_ (by simp only [FrL_nil, FrL_cons, Fr.put, Fr.get, ↓reduceIte, Nat.reduceEqDiff, and_self] <;> simp) (by simp only [ObjL_nil]) ?_ ?_
        · trivial
        · (rintro k s G hk ht hG hn1; try simp only [nx] at hn1)
          have hkc : k < (chs x l a).length := by rw [hchs]; simpa using hk
          have hck : (chs x l a)[k] = es[k].child := by simp only [hchs, List.getElem_map]
          have q := fold_vis ih ((chs x l a).take k) came h1 h2 fun c hc => hca c (List.mem_of_mem_take hc)
          have hfs := fold_snoc (f := visF x l n) (a := came) hkc
          rw [hck] at hfs
          obtain ⟨c1, c2, c3⟩ := hca _ (List.getElem_mem hkc)
          rw [hck] at c1 c2 c3
          generalize ((chs x l a).take k).foldl (visF x l n) came = R at *
          ((have hd := trivial; repeat' (first | ((first | refine GdK_st (fun hd => ?_) (fun hd => ?_) | refine GdK_sf (fun hd => ?_) (fun hd => ?_) | refine CondK_s (fun hd => ?_) (fun hd => ?_)) <;> (try simp only [hd])) | simp (disch := first | assumption | omega | (simp only [nx] <;> omega) | fail) only [hd, hQr, hQn, c64_0, ↓YA, YB, YC, YE, YF, YZ, ↓reduceIte, Nat.reduceEqDiff, Nat.reduceAdd, Nat.reduceMul, Nat.reduceLeDiff, Int.reduceToNat, Int.reduceLE, Int.reduceLT, Int.reduceGT, Int.reduceGE, Int.reduceAdd, Int.reduceSub, Int.reduceNeg, Int.reduceBEq, Int.reduceBNe, hG.get])) <;> (try (have hd_ : True := hd; clear hd_ hd)))
          (refine CallK.use (visit_sound lt hx hll hn hdm hd n s R es[k].child _ q.plc q.clo c1 c2 c3) ?_; rintro _ _ ⟨rfl, k3, rfl⟩)
          ((have hd := trivial; repeat' (first | ((first | refine GdK_st (fun hd => ?_) (fun hd => ?_) | refine GdK_sf (fun hd => ?_) (fun hd => ?_) | refine CondK_s (fun hd => ?_) (fun hd => ?_)) <;> (try simp only [hd])) | simp (disch := first | assumption | omega | (simp only [nx] <;> omega) | fail) only [hd, hQr, hQn, c64_0, ↓YA, YB, YC, YE, YF, YZ, ↓reduceIte, Nat.reduceEqDiff, Nat.reduceAdd, Nat.reduceMul, Nat.reduceLeDiff, Int.reduceToNat, Int.reduceLE, Int.reduceLT, Int.reduceGT, Int.reduceGE, Int.reduceAdd, Int.reduceSub, Int.reduceNeg, Int.reduceBEq, Int.reduceBNe, hG.get])) <;> (try (have hd_ : True := hd; clear hd_ hd)))
          exact ⟨.no, by rw [hfs], by exact HXT⟩
        · (rintro s G ht hG hn1; try simp only [nx] at hn1)
          have hlen : es.length = (chs x l a).length := by rw [hchs]; simp
          rw [hlen, List.take_length]
          have q := fold_vis ih (chs x l a) came h1 h2 hca
          refine hend _ s _ G q.plc.len ?_ rfl rfl (fun r hr => hr.symm)
          exact AXT
      · rw [hb2, hnod] at hchs
        simp only [if_true] at hchs
        rw [hchs, List.foldl_nil] at hV
        rw [hV] at hQr hQn
        clear hend hV ih
        have m1 : came.length ≤ maxLen := by unfold maxLen; omega
        have m2 : came.length * 8 ≤ 140737488355328 := by omega
        have m3 : came.length + 1 ≤ maxLen := by unfold maxLen; omega
        have m4 : (came.length + 1) * 8 ≤ 140737488355328 := by omega
        have l1 := allLen_rI came
        have l2 : allLen 1 [[AV.i (a : Int)]] = true := rfl
        have l3 : allLen 1 ([] : List (List AV)) = true := rfl
        have z1 : 1 ≤ maxLen := by decide
        cases came with
        | nil =>
          ((have hd := trivial; repeat' (first | ((first | refine GdK_st (fun hd => ?_) (fun hd => ?_) | refine GdK_sf (fun hd => ?_) (fun hd => ?_) | refine CondK_s (fun hd => ?_) (fun hd => ?_)) <;> (try simp only [hd])) | simp (disch := first | assumption | omega | (simp only [nx] <;> omega) | fail) only [hd, hQr, hQn, c64_0, ↓YA, YB, YC, YE, YF, YZ, ↓reduceIte, Nat.reduceEqDiff, Nat.reduceAdd, Nat.reduceMul, Nat.reduceLeDiff, Int.reduceToNat, Int.reduceLE, Int.reduceLT, Int.reduceGT, Int.reduceGE, Int.reduceAdd, Int.reduceSub, Int.reduceNeg, Int.reduceBEq, Int.reduceBNe, hb, hlt, hb2, l2, l3, z1, Nat.zero_le])) <;> (try (have hd_ : True := hd; clear hd_ hd)))
          exact fin_pure (by exact AXT) rfl
        | cons u R =>
          have l1 : allLen 1 ([AV.i u] :: rI R) = true := l1
          simp only [List.length_cons] at m1 m2 m3 m4
          ((have hd := trivial; repeat' (first | ((first | refine GdK_st (fun hd => ?_) (fun hd => ?_) | refine GdK_sf (fun hd => ?_) (fun hd => ?_) | refine CondK_s (fun hd => ?_) (fun hd => ?_)) <;> (try simp only [hd])) | simp (disch := first | assumption | omega | (simp only [nx] <;> omega) | fail) only [hd, hQr, hQn, c64_0, ↓YA, YB, YC, YE, YF, YZ, ↓reduceIte, Nat.reduceEqDiff, Nat.reduceAdd, Nat.reduceMul, Nat.reduceLeDiff, Int.reduceToNat, Int.reduceLE, Int.reduceLT, Int.reduceGT, Int.reduceGE, Int.reduceAdd, Int.reduceSub, Int.reduceNeg, Int.reduceBEq, Int.reduceBNe, hb, hlt, hb2, l1, l2, l3, m1, m2, m3, m4])) <;> (try (have hd_ : True := hd; clear hd_ hd)))
          refine fin_pure (by exact AXT) ?_
          simp [AV.weak, AV.weak1]
    · have hV : visF x l (n + 1) came a = came := by simp only [visF, hb]; rfl
      ((have hd := trivial; repeat' (first | ((first | refine GdK_st (fun hd => ?_) (fun hd => ?_) | refine GdK_sf (fun hd => ?_) (fun hd => ?_) | refine CondK_s (fun hd => ?_) (fun hd => ?_)) <;> (try simp only [hd])) | simp (disch := first | assumption | omega | (simp only [nx] <;> omega) | fail) only [hd, hQr, hQn, c64_0, ↓YA, YB, YC, YE, YF, YZ, ↓reduceIte, Nat.reduceEqDiff, Nat.reduceAdd, Nat.reduceMul, Nat.reduceLeDiff, Int.reduceToNat, Int.reduceLE, Int.reduceLT, Int.reduceGT, Int.reduceGE, Int.reduceAdd, Int.reduceSub, Int.reduceNeg, Int.reduceBEq, Int.reduceBNe, hb])) <;> (try (have hd_ : True := hd; clear hd_ hd)))
      refine fin_pA (by rw [hV]; rfl)
def ordR (x : Shp) (l : List Nod) (top : Int) : List Int := if 0 ≤ top ∧ top < l.length then visF x l l.length [] top else []
theorem rvis_sound {x : Shp} {l : List Nod} (lt : Tok) (top : Int) (H : AHeap) (hx : x.sizes.length ≤ 1000) (hll : l.length ≤ 100000) (hn : ∀ n ∈ l, smallN n) (hdm : ∀ n ∈ l, 0 ≤ n.dim ∧ n.dim < x.sizes.length) (hd : Down x l) :
    Sound Try.prog 34 [.agg (eShp x), .sl lt (rN l), .i top] H (Pure H (.sl .no (rI (ordR x l top)))) := by
  have hde : Down x l := hd
  clear hd
  refine fn_soundQ hE cf34 (Nat.le_of_ble_eq_true rfl) fun Q hQr hQn => ?_
  ((have hd := trivial; repeat' (first | ((first | refine GdK_st (fun hd => ?_) (fun hd => ?_) | refine GdK_sf (fun hd => ?_) (fun hd => ?_) | refine CondK_s (fun hd => ?_) (fun hd => ?_)) <;> (try simp only [hd])) | simp (disch := first | assumption | omega | (simp only [nx] <;> omega) | fail) only [hd, hQr, hQn, c34_0, ↓YA, YB, YC, YE, YF, YZ, ↓reduceIte, Nat.reduceEqDiff, Nat.reduceAdd, Nat.reduceMul, Nat.reduceLeDiff, Int.reduceToNat, Int.reduceLE, Int.reduceLT, Int.reduceGT, Int.reduceGE, Int.reduceAdd, Int.reduceSub, Int.reduceNeg, Int.reduceBEq, Int.reduceBNe])) <;> (try (have hd_ : True := hd; clear hd_ hd)))
  · have hO : ordR x l top = [] := by unfold ordR; rw [if_neg (by simp at hd; omega)]
    rw [hO]
    refine fin_pA (by rfl)
  · rename_i h0
    have hr : 0 ≤ top ∧ top < l.length := by simp at hd h0; omega
    have hO : ordR x l top = visF x l l.length [] top := by unfold ordR; rw [if_pos hr]
    (refine CallK.use (visit_sound lt hx hll hn hdm hde l.length .full [] top _ (Plc.nil _) (fun i h => by cases h) hr.1 hr.2 hr.2) ?_; rintro _ _ ⟨rfl, k1, rfl⟩)
    ((have hd := trivial; repeat' (first | ((first | refine GdK_st (fun hd => ?_) (fun hd => ?_) | refine GdK_sf (fun hd => ?_) (fun hd => ?_) | refine CondK_s (fun hd => ?_) (fun hd => ?_)) <;> (try simp only [hd])) | simp (disch := first | assumption | omega | (simp only [nx] <;> omega) | fail) only [hd, hQr, hQn, c34_0, ↓YA, YB, YC, YE, YF, YZ, ↓reduceIte, Nat.reduceEqDiff, Nat.reduceAdd, Nat.reduceMul, Nat.reduceLeDiff, Int.reduceToNat, Int.reduceLE, Int.reduceLT, Int.reduceGT, Int.reduceGE, Int.reduceAdd, Int.reduceSub, Int.reduceNeg, Int.reduceBEq, Int.reduceBNe])) <;> (try (have hd_ : True := hd; clear hd_ hd)))
    rw [hO]
    refine fin_pA (by rfl)
  · have hO : ordR x l top = [] := by unfold ordR; rw [if_neg (by simp at hd; omega)]
    rw [hO]
    refine fin_pA (by rfl)
end Go.Proofs.Ytgnpihhakogeeaa

namespace Go.Proofs.Ytgnpihhakogeeaa
set_option linter.unusedSimpArgs false
set_option linter.unusedVariables false
open Go.RowKit

def mvC (inner : Bool) (ps : List Int) (c : Cel) : Cel := if inner = true ∧ 0 ≤ c.child ∧ c.child < ps.length then ⟨c.key, ps.getD c.child.toNat 0, c.agg⟩ else c
def mvL (inner : Bool) (ps : List Int) (l : List Cel) : List Cel := l.map (mvC inner ps)
def mvN (x : Shp) (ps : List Int) (n : Nod) : Nod := ⟨n.dim, n.lists.map (mvL (!lastB x n.dim) ps), mvC (!lastB x n.dim) ps n.all⟩
structure MvAt (H : AHeap) (pid id7 id6 tk : Nat) (ps : List Int) (Z : List AV) (dim : Int) (done : List (List Cel)) (all : Cel) (S : AHeap) : Prop where
  ext : AHeap.Ext H S
  gp : S.get pid = some (.cells (ps.map AV.i) 3)
  g7 : ∃ ts : List (Tok × List Cel), ts.map (·.2) = done ∧ S.get id7 = some (.cells (eNodT (.own tk) dim ts all) 45)
  g6 : S.get id6 = some (.cells Z 45)
  gt : S.get tk = some (.tok done.length 83 1)
theorem take_map_snoc {α β : Type} {f : α → β} {l : List α} {k : Nat} (h : k < l.length) : (l.take (k + 1)).map f = (l.take k).map f ++ [f l[k]] := by
  rw [List.take_succ_eq_append_getElem h, List.map_append]; rfl
set_option maxHeartbeats 4000000 in
theorem move_sound {x : Shp} {pid : Nat} {ps : List Int} {H : AHeap} (t : Tok) (n : Nod) (hp : H.get pid = some (.cells (ps.map AV.i) 3)) (hpl : ps.length ≤ 1000000) (hn : smallN n) (hx : x.sizes.length ≤ 1000) :
    Sound Try.prog 60 [.agg (eShp x), .agg (eNod t n), .arr pid 0 ps.length ps.length] H (Pure H (.agg (eNod .no (mvN x ps n)))) := by
  obtain ⟨hn1, hn2, hn3⟩ := hn
  have hpn := AHeap.lt hp
  refine fn_soundQ hE cf60 (Nat.le_of_ble_eq_true rfl) fun Q hQr hQn => ?_
  have hin : (n.dim != (x.sizes.length : Int) - 1) = !lastB x n.dim := rfl
  generalize hI : (!lastB x n.dim) = inner at *
  have hM : mvN x ps n = ⟨n.dim, n.lists.map (mvL inner ps), mvC inner ps n.all⟩ := by unfold mvN; rw [hI]
  rw [hM] at hQr hQn
  have key : ∀ (Z : List AV) (F : Fr) (G : AHeap), Z.length = 14 → AHeap.Ext H G → G.get (H.next + 3) = some (.cells (eNod .full ⟨n.dim, [], mvC inner ps n.all⟩) 45) → G.get (H.next + 2) = some (.cells Z 45) →
      Fr.get F 2 = .arr pid 0 ps.length ps.length → Fr.get F 6 = .ptr (H.next + 2) 0 → Fr.get F 7 = .ptr (H.next + 3) 0 → Fr.get F 8 = .b inner → Fr.get F 50 = .sl t (rL n.lists) → Fr.get F 51 = .i (n.lists.length : Int) → Fr.get F 52 = .i ((0 : Nat) : Int) →
      AW Try.prog c60_1 (SeqQ Try.prog (.seq (.reg [io 93 (.ld 14 true (.t 7)), iz (.st 14 (.t 6) (.t 93))]) .ret) Q) F G := by
    intro Z F G hZ hG g7 g6 f2 f6 f7 f8 f50 f51 f52
    have hGn := hG.next
    have l7 := AHeap.lt g7
    have l6 := AHeap.lt g6
    refine AW_forI (N := n.lists.length) (fun k F S => Fr.get F 52 = .i (k : Int) ∧ Fr.get F 51 = .i (n.lists.length : Int) ∧ Fr.get F 50 = .sl t (rL n.lists) ∧ Fr.get F 2 = .arr pid 0 ps.length ps.length ∧ Fr.get F 6 = .ptr (H.next + 2) 0 ∧ Fr.get F 7 = .ptr (H.next + 3) 0 ∧ Fr.get F 8 = .b inner ∧
      MvAt H pid (H.next + 3) (H.next + 2) G.next ps Z n.dim ((n.lists.take k).map (mvL inner ps)) (mvC inner ps n.all) S) (by unfold maxLen; omega) (fun k F G h => ⟨h.1, h.2.1⟩)
      (F1 := F) (H1 := (G.set (H.next + 3) (.cells (eNod (.own G.next) ⟨n.dim, [], mvC inner ps n.all⟩) 45)).alloc (.tok 0 83 1)) ?_ ?_ ?_ ?_
    · exact GStep.tokCell (H.next + 3) 1 45 83 1 g7 rfl
    · refine ⟨f52, f51, f50, f2, f6, f7, f8, (hG.set (by omega)).alloc, ?_, ?_, ?_, AHeap.get_alloc_self (H := G.set _ _)⟩
      · rw [AHeap.get_alloc_ne (by simp; omega), AHeap.get_set_ne (by omega)]; exact hG.get _ _ hp
      · exact ⟨[], rfl, by rw [AHeap.get_alloc_ne (by simp; omega)]; exact AHeap.get_set_self l7⟩
      · rw [AHeap.get_alloc_ne (by simp; omega), AHeap.get_set_ne (by omega)]; exact g6
    · rintro k F S hk ⟨f52, f51, f50, f2, f6, f7, f8, hS⟩
      have hSn := hS.ext.next
      obtain ⟨ts, hts, g7⟩ := hS.g7
      have l7 := AHeap.lt g7
      have l6 := AHeap.lt hS.g6
      have lt := AHeap.lt hS.gt
      have lp := AHeap.lt hS.gp
      have hck := hn3 _ (List.getElem_mem hk)
      have hcs := mvL
      ((have hd := trivial; repeat' (first | ((first | refine GdK_st (fun hd => ?_) (fun hd => ?_) | refine GdK_sf (fun hd => ?_) (fun hd => ?_) | refine CondK_s (fun hd => ?_) (fun hd => ?_)) <;> (try simp only [hd])) | simp (disch := first | assumption | omega | (simp only [nx] <;> omega) | fail) only [hd, hQr, hQn, c60_0, ↓YA, YB, YC, YE, YF, YZ, ↓reduceIte, Nat.reduceEqDiff, Nat.reduceAdd, Nat.reduceMul, Nat.reduceLeDiff, Int.reduceToNat, Int.reduceLE, Int.reduceLT, Int.reduceGT, Int.reduceGE, Int.reduceAdd, Int.reduceSub, Int.reduceNeg, Int.reduceBEq, Int.reduceBNe, f52, f51, f50, f2, f6, f7, f8])) <;> (try (have hd_ : True := hd; clear hd_ hd)))
      refine AW_forI (N := n.lists[k].length) (fun j F S2 => Fr.get F 58 = .i (j : Int) ∧ Fr.get F 57 = .i (n.lists[k].length : Int) ∧ Fr.get F 56 = .sl .no (rC n.lists[k]) ∧ Fr.get F 52 = .i (k : Int) ∧ Fr.get F 51 = .i (n.lists.length : Int) ∧ Fr.get F 50 = .sl t (rL n.lists) ∧ Fr.get F 2 = .arr pid 0 ps.length ps.length ∧ Fr.get F 6 = .ptr (H.next + 2) 0 ∧ Fr.get F 7 = .ptr (H.next + 3) 0 ∧ Fr.get F 8 = .b inner ∧
        Fr.get F 11 = .sl (.own S.next) (rC (mvL inner ps (n.lists[k].take j))) ∧ S2.get S.next = some (.tok j 43 12) ∧ AHeap.Ext S S2) (by unfold maxLen; omega) (fun k F G h => ⟨h.1, h.2.1⟩)
        (F1 := [(11, .sl (.own S.next) []), (58, .i ((0 : Nat) : Int)), (57, .i (n.lists[k].length : Int)), (56, .sl .no (rC n.lists[k])), (52, .i (k : Int)), (51, .i (n.lists.length : Int)), (50, .sl t (rL n.lists)), (2, .arr pid 0 ps.length ps.length), (6, .ptr (H.next + 2) 0), (7, .ptr (H.next + 3) 0), (8, .b inner)]) (H1 := S.alloc (.tok 0 43 12)) ?_ ?_ ?_ ?_
      · exact (GStep.fr (F' := [(11, .sl .full []), (58, .i ((0 : Nat) : Int)), (57, .i (n.lists[k].length : Int)), (56, .sl .no (rC n.lists[k])), (52, .i (k : Int)), (51, .i (n.lists.length : Int)), (50, .sl t (rL n.lists)), (2, .arr pid 0 ps.length ps.length), (6, .ptr (H.next + 2) 0), (7, .ptr (H.next + 3) 0), (8, .b inner)]) (by simp [Fr.get, f52, f51, f50, f2, f6, f7, f8])).trans ((GStep.tok 11 43 12 rfl).trans (GStep.fr (by simp [Fr.get, Fr.put])))
      · exact ⟨rfl, rfl, rfl, rfl, rfl, rfl, rfl, rfl, rfl, rfl, rfl, AHeap.get_alloc_self (H := S), (AHeap.Ext.refl S).alloc⟩
      · rintro j F S2 hj ⟨f58, f57, f56, f52, f51, f50, f2, f6, f7, f8, f11, hg, hx2⟩
        have l11 := AHeap.lt hg
        have hx2n := hx2.next
        have hgp := hx2.get _ _ hS.gp
        have hjl : j < n.lists[k].length := hj
        have la1 : allLen 12 (rC (mvL inner ps (n.lists[k].take j))) = true := allLen_rC _
        have la2 : ∀ c : Cel, allLen 12 [eCel c] = true := fun _ => rfl
        have hlen : (mvL inner ps (n.lists[k].take j)).length = j := by unfold mvL; simp; omega
        have lm1 : j + 1 ≤ maxLen := by unfold maxLen; omega
        have lm2 : (j + 1) * 96 ≤ 140737488355328 := by omega
        have hsn : rC (mvL inner ps (n.lists[k].take j)) ++ [eCel (mvC inner ps n.lists[k][j])] = rC (mvL inner ps (n.lists[k].take (j + 1))) := by
          unfold mvL
          rw [take_map_snoc hjl]; simp
        have fin : ∀ c : Cel, c = mvC inner ps n.lists[k][j] → rC (mvL inner ps (n.lists[k].take j)) ++ [eCel c] = rC (mvL inner ps (n.lists[k].take (j + 1))) := fun c hc => by rw [hc]; exact hsn
        have hmv : mvC inner ps n.lists[k][j] = if inner = true ∧ 0 ≤ n.lists[k][j].child ∧ n.lists[k][j].child < ps.length then ⟨n.lists[k][j].key, ps.getD n.lists[k][j].child.toNat 0, n.lists[k][j].agg⟩ else n.lists[k][j] := rfl
        by_cases hcond : inner = true ∧ 0 ≤ n.lists[k][j].child ∧ n.lists[k][j].child < ps.length
        · rw [if_pos hcond] at hmv
          obtain ⟨c1, c2, c3⟩ := hcond
          obtain ⟨c, hc⟩ : ∃ c : Nat, n.lists[k][j].child = c := ⟨n.lists[k][j].child.toNat, by omega⟩
          have hcp : c < ps.length := by omega
          have d1 : decide ((c : Int) ≥ 0) = true := by simp
          have d2 : decide ((c : Int) < (ps.length : Int)) = true := by simp; omega
          have d3 : (c : Int) < (ps.length : Int) := by omega
          have f8' : Fr.get F 8 = .b true := by rw [f8, c1]
          have hgd : ps.getD n.lists[k][j].child.toNat 0 = ps[c] := by rw [hc]; simp [hcp]
          rw [hgd] at hmv
          rw [hmv] at hsn
          have la3 := la2 ⟨n.lists[k][j].key, ps[c], n.lists[k][j].agg⟩
          unfold eCel at la3
          simp only at la3
          ((have hd := trivial; repeat' (first | ((first | refine GdK_st (fun hd => ?_) (fun hd => ?_) | refine GdK_sf (fun hd => ?_) (fun hd => ?_) | refine CondK_s (fun hd => ?_) (fun hd => ?_)) <;> (try simp only [hd])) | simp (disch := first | assumption | omega | (simp only [nx] <;> omega) | fail) only [hd, hQr, hQn, c60_0, ↓YA, YB, YC, YE, YF, YZ, ↓reduceIte, Nat.reduceEqDiff, Nat.reduceAdd, Nat.reduceMul, Nat.reduceLeDiff, Int.reduceToNat, Int.reduceLE, Int.reduceLT, Int.reduceGT, Int.reduceGE, Int.reduceAdd, Int.reduceSub, Int.reduceNeg, Int.reduceBEq, Int.reduceBNe, f58, f57, f56, f52, f51, f50, f2, f6, f7, f8', f11, eCel, hc, d1, d2, d3, hgp, hg, la1, la3, hlen, lm1, lm2])) <;> (try (have hd_ : True := hd; clear hd_ hd)))
          exact ⟨by rw [c1], congrArg (AV.sl (.own S.next)) hsn, AXT⟩
        · rw [if_neg hcond] at hmv
          rw [hmv] at hsn
          have la3 := la2 n.lists[k][j]
          have hbi := bfd inner
          rcases hbi with hbi | hbi
          · have f8' : Fr.get F 8 = .b false := by rw [f8, hbi]
            ((have hd := trivial; repeat' (first | ((first | refine GdK_st (fun hd => ?_) (fun hd => ?_) | refine GdK_sf (fun hd => ?_) (fun hd => ?_) | refine CondK_s (fun hd => ?_) (fun hd => ?_)) <;> (try simp only [hd])) | simp (disch := first | assumption | omega | (simp only [nx] <;> omega) | fail) only [hd, hQr, hQn, c60_0, ↓YA, YB, YC, YE, YF, YZ, ↓reduceIte, Nat.reduceEqDiff, Nat.reduceAdd, Nat.reduceMul, Nat.reduceLeDiff, Int.reduceToNat, Int.reduceLE, Int.reduceLT, Int.reduceGT, Int.reduceGE, Int.reduceAdd, Int.reduceSub, Int.reduceNeg, Int.reduceBEq, Int.reduceBNe, f58, f57, f56, f52, f51, f50, f2, f6, f7, f8', f11, hg, la1, la3, hlen, lm1, lm2])) <;> (try (have hd_ : True := hd; clear hd_ hd)))
            exact ⟨by rw [hbi], congrArg (AV.sl (.own S.next)) hsn, AXT⟩
          · have f8' : Fr.get F 8 = .b true := by rw [f8, hbi]
            have hcc : ¬ (0 ≤ n.lists[k][j].child ∧ n.lists[k][j].child < ps.length) := fun h => hcond ⟨hbi, h⟩
            ((have hd := trivial; repeat' (first | ((first | refine GdK_st (fun hd => ?_) (fun hd => ?_) | refine GdK_sf (fun hd => ?_) (fun hd => ?_) | refine CondK_s (fun hd => ?_) (fun hd => ?_)) <;> (try simp only [hd])) | simp (disch := first | assumption | omega | (simp only [nx] <;> omega) | fail) only [hd, hQr, hQn, c60_0, ↓YA, YB, YC, YE, YF, YZ, ↓reduceIte, Nat.reduceEqDiff, Nat.reduceAdd, Nat.reduceMul, Nat.reduceLeDiff, Int.reduceToNat, Int.reduceLE, Int.reduceLT, Int.reduceGT, Int.reduceGE, Int.reduceAdd, Int.reduceSub, Int.reduceNeg, Int.reduceBEq, Int.reduceBNe, f58, f57, f56, f52, f51, f50, f2, f6, f7, f8', f11, hg, la1, la3, hlen, lm1, lm2])) <;> (try (have hd_ : True := hd; clear hd_ hd)))
            · rename_i e1
              exact absurd ⟨of_decide_eq_true e1, of_decide_eq_true hd⟩ hcc
            · exact ⟨by rw [hbi], congrArg (AV.sl (.own S.next)) hsn, AXT⟩
            · exact ⟨by rw [hbi], congrArg (AV.sl (.own S.next)) hsn, AXT⟩
      · rintro F S2 ⟨f58, f57, f56, f52, f51, f50, f2, f6, f7, f8, f11, hg, hx2⟩
        have hSx := hx2.trans (AHeap.Ext.refl S2)
        have g7 := hx2.get _ _ g7
        have gt := hx2.get _ _ hS.gt
        have lt2 := AHeap.lt gt
        have l72 := AHeap.lt g7
        rw [List.take_length] at f11
        have hlk : ((n.lists.take k).map (mvL inner ps)).length = k := by simp; omega
        rw [hlk] at gt
        have htl : ts.length = k := by rw [← List.length_map (f := fun p : Tok × List Cel => p.2), hts]; exact hlk
        have la1 : allLen 1 (rLt ts) = true := allLen_map (f := fun p : Tok × List Cel => [AV.sl p.1 (rC p.2)]) (fun _ => rfl) ts
        have la2 : allLen 1 [[AV.sl (.own S.next) (rC (mvL inner ps n.lists[k]))]] = true := rfl
        have lm1 : k + 1 ≤ maxLen := by unfold maxLen; omega
        have lm2 : (k + 1) * 24 ≤ 140737488355328 := by omega
        have hne : H.next + 3 ≠ G.next := by omega
        have hne2 : G.next ≠ H.next + 3 := by omega
        ((have hd := trivial; repeat' (first | ((first | refine GdK_st (fun hd => ?_) (fun hd => ?_) | refine GdK_sf (fun hd => ?_) (fun hd => ?_) | refine CondK_s (fun hd => ?_) (fun hd => ?_)) <;> (try simp only [hd])) | simp (disch := first | assumption | omega | (simp only [nx] <;> omega) | fail) only [hd, hQr, hQn, c60_0, ↓YA, YB, YC, YE, YF, YZ, ↓reduceIte, Nat.reduceEqDiff, Nat.reduceAdd, Nat.reduceMul, Nat.reduceLeDiff, Int.reduceToNat, Int.reduceLE, Int.reduceLT, Int.reduceGT, Int.reduceGE, Int.reduceAdd, Int.reduceSub, Int.reduceNeg, Int.reduceBEq, Int.reduceBNe, f58, f57, f56, f52, f51, f50, f2, f6, f7, f8, f11, eNodT, g7, gt, la1, la2, lm1, lm2, htl])) <;> (try (have hd_ : True := hd; clear hd_ hd)))
        refine ⟨((hS.ext.trans hx2).set (by omega)).set (by omega), ?_, ⟨ts ++ [(.own S.next, mvL inner ps n.lists[k])], ?_, ?_⟩, ?_, ?_⟩
        · rw [AHeap.get_set_ne (by omega), AHeap.get_set_ne (by omega)]; exact hx2.get _ _ hS.gp
        · rw [List.map_append, hts, take_map_snoc hk]; rfl
        · rw [AHeap.get_set_self (by simp; omega)]
          simp [eNodT]
        · rw [AHeap.get_set_ne (by omega), AHeap.get_set_ne (by omega)]; exact hx2.get _ _ hS.g6
        · rw [AHeap.get_set_ne (by omega), AHeap.get_set_self lt2]
          simp; omega
    · rintro F S ⟨f52, f51, f50, f2, f6, f7, f8, hS⟩
      obtain ⟨ts, hts, g7⟩ := hS.g7
      rw [List.take_length] at hts
      have g6 := hS.g6
      have l6 := AHeap.lt g6
      have hSn := hS.ext.next
      have hle : (eNodT (.own G.next) n.dim ts (mvC inner ps n.all)).length = 14 := rfl
      have htk : (eNodT (.own G.next) n.dim ts (mvC inner ps n.all)).take 14 = eNodT (.own G.next) n.dim ts (mvC inner ps n.all) := rfl
      have hdz : Z.drop 14 = [] := by rw [List.drop_of_length_le (by omega)]
      have hlz : (14 : Nat) ≤ Z.length := by omega
      ((have hd := trivial; repeat' (first | ((first | refine GdK_st (fun hd => ?_) (fun hd => ?_) | refine GdK_sf (fun hd => ?_) (fun hd => ?_) | refine CondK_s (fun hd => ?_) (fun hd => ?_)) <;> (try simp only [hd])) | simp (disch := first | assumption | omega | (simp only [nx] <;> omega) | fail) only [hd, hQr, hQn, c60_0, ↓YA, YB, YC, YE, YF, YZ, ↓reduceIte, Nat.reduceEqDiff, Nat.reduceAdd, Nat.reduceMul, Nat.reduceLeDiff, Int.reduceToNat, Int.reduceLE, Int.reduceLT, Int.reduceGT, Int.reduceGE, Int.reduceAdd, Int.reduceSub, Int.reduceNeg, Int.reduceBEq, Int.reduceBNe, f6, f7, g7, g6, hle, htk, hdz, hZ])) <;> (try (have hd_ : True := hd; clear hd_ hd)))
      have hw := wkn_node (.own G.next) n.dim ts (mvC inner ps n.all)
      rw [hts] at hw
      exact fin_wkn hw (hS.ext.set (by omega))
  have hmv : mvC inner ps n.all = if inner = true ∧ 0 ≤ n.all.child ∧ n.all.child < ps.length then ⟨n.all.key, ps.getD n.all.child.toNat 0, n.all.agg⟩ else n.all := rfl
  have h2 : H.next + 1 + 1 = H.next + 2 := rfl
  by_cases hcond : inner = true ∧ 0 ≤ n.all.child ∧ n.all.child < ps.length
  · rw [if_pos hcond] at hmv
    obtain ⟨c1, c2, c3⟩ := hcond
    obtain ⟨c, hc⟩ : ∃ c : Nat, n.all.child = c := ⟨n.all.child.toNat, by omega⟩
    have hcp : c < ps.length := by omega
    have d1 : decide ((c : Int) ≥ 0) = true := by simp
    have d2 : decide ((c : Int) < (ps.length : Int)) = true := by simp; omega
    have d3 : (c : Int) < (ps.length : Int) := by omega
    have hgd : ps.getD n.all.child.toNat 0 = ps[c] := by rw [hc]; simp [hcp]
    ((have hd := trivial; repeat' (first | ((first | refine GdK_st (fun hd => ?_) (fun hd => ?_) | refine GdK_sf (fun hd => ?_) (fun hd => ?_) | refine CondK_s (fun hd => ?_) (fun hd => ?_)) <;> (try simp only [hd])) | simp (disch := first | assumption | omega | (simp only [nx] <;> omega) | fail) only [hd, hQr, hQn, c60_0, ↓YA, YB, YC, YE, YF, YZ, ↓reduceIte, Nat.reduceEqDiff, Nat.reduceAdd, Nat.reduceMul, Nat.reduceLeDiff, Int.reduceToNat, Int.reduceLE, Int.reduceLT, Int.reduceGT, Int.reduceGE, Int.reduceAdd, Int.reduceSub, Int.reduceNeg, Int.reduceBEq, Int.reduceBNe, hin, c1, hc, d1, d2, d3, hp, eCel])) <;> (try (have hd_ : True := hd; clear hd_ hd)))
    refine key [.i 0, .sl .full [], .i 0, .i 0, .i 0, .i 0, .i 0, .i 0, .i 0, .i 0, .i 0, .i 0, .i 0, .i 0] _ _ rfl AXT ?_ ?_ rfl rfl rfl (by rw [c1]; rfl) rfl rfl rfl
    · rw [hmv, hgd]; exact AHeap.get_alloc_at rfl
    · rw [AHeap.get_alloc_ne (by simp)]; exact AHeap.get_alloc_at rfl
  · rw [if_neg hcond] at hmv
    have hbi := bfd inner
    rcases hbi with hbi | hbi
    · ((have hd := trivial; repeat' (first | ((first | refine GdK_st (fun hd => ?_) (fun hd => ?_) | refine GdK_sf (fun hd => ?_) (fun hd => ?_) | refine CondK_s (fun hd => ?_) (fun hd => ?_)) <;> (try simp only [hd])) | simp (disch := first | assumption | omega | (simp only [nx] <;> omega) | fail) only [hd, hQr, hQn, c60_0, ↓YA, YB, YC, YE, YF, YZ, ↓reduceIte, Nat.reduceEqDiff, Nat.reduceAdd, Nat.reduceMul, Nat.reduceLeDiff, Int.reduceToNat, Int.reduceLE, Int.reduceLT, Int.reduceGT, Int.reduceGE, Int.reduceAdd, Int.reduceSub, Int.reduceNeg, Int.reduceBEq, Int.reduceBNe, hin, hbi])) <;> (try (have hd_ : True := hd; clear hd_ hd)))
      refine key [.i 0, .sl .full [], .i 0, .i 0, .i 0, .i 0, .i 0, .i 0, .i 0, .i 0, .i 0, .i 0, .i 0, .i 0] _ _ rfl AXT ?_ ?_ rfl rfl rfl (by rw [hbi]; rfl) rfl rfl rfl
      · rw [hmv]; exact AHeap.get_alloc_at rfl
      · rw [AHeap.get_alloc_ne (by simp)]; exact AHeap.get_alloc_at rfl
    · have hcc : ¬ (0 ≤ n.all.child ∧ n.all.child < ps.length) := fun h => hcond ⟨hbi, h⟩
      ((have hd := trivial; repeat' (first | ((first | refine GdK_st (fun hd => ?_) (fun hd => ?_) | refine GdK_sf (fun hd => ?_) (fun hd => ?_) | refine CondK_s (fun hd => ?_) (fun hd => ?_)) <;> (try simp only [hd])) | simp (disch := first | assumption | omega | (simp only [nx] <;> omega) | fail) only [hd, hQr, hQn, c60_0, ↓YA, YB, YC, YE, YF, YZ, ↓reduceIte, Nat.reduceEqDiff, Nat.reduceAdd, Nat.reduceMul, Nat.reduceLeDiff, Int.reduceToNat, Int.reduceLE, Int.reduceLT, Int.reduceGT, Int.reduceGE, Int.reduceAdd, Int.reduceSub, Int.reduceNeg, Int.reduceBEq, Int.reduceBNe, hin, hbi])) <;> (try (have hd_ : True := hd; clear hd_ hd)))
      · rename_i e1
        exact absurd ⟨of_decide_eq_true e1, of_decide_eq_true hd⟩ hcc
      all_goals
        refine key [.i 0, .sl .full [], .i 0, .i 0, .i 0, .i 0, .i 0, .i 0, .i 0, .i 0, .i 0, .i 0, .i 0, .i 0] _ _ rfl AXT ?_ ?_ rfl rfl rfl (by rw [hbi]; rfl) rfl rfl rfl
        · rw [hmv]; exact AHeap.get_alloc_at rfl
        · rw [AHeap.get_alloc_ne (by simp)]; exact AHeap.get_alloc_at rfl
end Go.Proofs.Ytgnpihhakogeeaa

namespace Go.Proofs.Ytgnpihhakogeeaa
set_option linter.unusedSimpArgs false
set_option linter.unusedVariables false
open Go.RowKit

def plF (n : Nat) (r : List Int) : Nat → List Int
  | 0 => List.replicate n 0
  | k + 1 => (plF n r k).set (r.getD k 0).toNat (k : Int)
theorem plF_len (n : Nat) (r : List Int) : ∀ k, (plF n r k).length = n
  | 0 => by simp [plF]
  | k + 1 => by simp [plF, plF_len n r k]
def canonR (x : Shp) (l : List Nod) (r : List Int) : List Nod := r.map fun a => mvN x (plF l.length r r.length) (nodAt l a)
theorem ordR_plc {x : Shp} {l : List Nod} (hd : Down x l) (top : Int) : Plc l.length (ordR x l top) := by
  unfold ordR
  split
  · rename_i h
    exact (vis_ok hd l.length [] top (Plc.nil _) (fun i h => by cases h) h.1 h.2 h.2).plc
  · exact Plc.nil _
set_option maxHeartbeats 4000000 in
theorem canon_sound {x : Shp} {l : List Nod} (lt : Tok) (top : Int) (H : AHeap) (hx : x.sizes.length ≤ 1000) (hl0 : l.length ≠ 0) (hll : l.length ≤ 100000) (hn : ∀ n ∈ l, smallN n) (hdm : ∀ n ∈ l, 0 ≤ n.dim ∧ n.dim < x.sizes.length) (hd : Down x l) :
    Sound Try.prog 28 [.agg (eShp x), .sl lt (rN l), .i top] H (Pure H (.sl .no (rN (canonR x l (ordR x l top))))) := by
  have hP := ordR_plc hd top
  refine fn_soundQ hE cf28 (Nat.le_of_ble_eq_true rfl) fun Q hQr hQn => ?_
  ((have hd := trivial; repeat' (first | ((first | refine GdK_st (fun hd => ?_) (fun hd => ?_) | refine GdK_sf (fun hd => ?_) (fun hd => ?_) | refine CondK_s (fun hd => ?_) (fun hd => ?_)) <;> (try simp only [hd])) | simp (disch := first | assumption | omega | (simp only [nx] <;> omega) | fail) only [hd, hQr, hQn, c28_0, ↓YA, YB, YC, YE, YF, YZ, ↓reduceIte, Nat.reduceEqDiff, Nat.reduceAdd, Nat.reduceMul, Nat.reduceLeDiff, Int.reduceToNat, Int.reduceLE, Int.reduceLT, Int.reduceGT, Int.reduceGE, Int.reduceAdd, Int.reduceSub, Int.reduceNeg, Int.reduceBEq, Int.reduceBNe])) <;> (try (have hd_ : True := hd; clear hd_ hd)))
  (refine CallK.use (rvis_sound lt top _ hx hll hn hdm hd) ?_; rintro _ _ ⟨rfl, k1, rfl⟩)
  unfold canonR at hQr hQn
  generalize hR : ordR x l top = R at *
  have hRl := hP.len
  have hc1 : (0 : Int) ≤ (l.length : Int) ∧ (l.length : Int) ≤ (l.length : Int) ∧ l.length ≤ maxLen ∧ l.length * 8 ≤ 140737488355328 := by unfold maxLen; omega
  have hc2 : ¬ ((l.length : Int) = 0) := by omega
  have hc3 : l.length ≤ maxLen ∧ l.length * 8 ≤ 140737488355328 := by unfold maxLen; omega
  have hc4 : l.length ≤ maxLen := by unfold maxLen; omega
  have hc5 : l.length * 8 ≤ 140737488355328 := by omega
  have hp0 : (List.replicate l.length 0).map AV.i = (plF l.length R 0).map AV.i := rfl
  ((have hd := trivial; repeat' (first | ((first | refine GdK_st (fun hd => ?_) (fun hd => ?_) | refine GdK_sf (fun hd => ?_) (fun hd => ?_) | refine CondK_s (fun hd => ?_) (fun hd => ?_)) <;> (try simp only [hd])) | simp (disch := first | assumption | omega | (simp only [nx] <;> omega) | fail) only [hd, hQr, hQn, c28_0, ↓YA, YB, YC, YE, YF, YZ, ↓reduceIte, Nat.reduceEqDiff, Nat.reduceAdd, Nat.reduceMul, Nat.reduceLeDiff, Int.reduceToNat, Int.reduceLE, Int.reduceLT, Int.reduceGT, Int.reduceGE, Int.reduceAdd, Int.reduceSub, Int.reduceNeg, Int.reduceBEq, Int.reduceBNe, hc1, hc2, hc4, hc5, rep_flat, hp0, if_true])) <;> (try (have hd_ : True := hd; clear hd_ hd)))
  refine AW_for [1, 3, 7, 8, 21, 22] (σ := Unit) (fun (k : Nat) s => True) (fun k s => []) (fun k s => [(H.next + 1 + k1, .cells ((plF l.length R k).map AV.i) 3)]) () (GStep.refl _ _) (by simp only [keep_nil, keep_cons, Fr.put, Fr.get, ↓reduceIte, Nat.reduceEqDiff]; rfl) (by intro k s; rfl) (by intro k s; rfl) (by rfl) (by unfold maxLen; omega) ?_ (by simp only [FrL_nil]) ?_ ?_ ?_
  · trivial
  · rw [ObjL_cons]
    exact ⟨AHeap.get_alloc_at rfl, by simp [ObjL]⟩
  · (rintro k s G hk ht hG hn1; try simp only [nx] at hn1)
    have hg := hG.o (_, _) (List.mem_singleton.2 rfl)
    have hlg := AHeap.lt hg
    obtain ⟨p1, p2⟩ := hP.lo _ (List.getElem_mem hk)
    obtain ⟨a, ha⟩ : ∃ a : Nat, R[k] = a := ⟨R[k].toNat, by omega⟩
    have ha1 : (a : Int) < (l.length : Int) := by omega
    have hlen := plF_len l.length R k
    have hset := set_map_i (ms := plF l.length R k) (k : Int) (by omega : a < _)
    have hst : (plF l.length R k).set a (k : Int) = plF l.length R (k + 1) := by
      show _ = (plF l.length R k).set (R.getD k 0).toNat (k : Int)
      rw [List.getD_eq_getElem?_getD, List.getElem?_eq_getElem hk, Option.getD_some, ha]; rfl
    rw [hst] at hset
    have hle : a + 1 ≤ l.length := by omega
    ((have hd := trivial; repeat' (first | ((first | refine GdK_st (fun hd => ?_) (fun hd => ?_) | refine GdK_sf (fun hd => ?_) (fun hd => ?_) | refine CondK_s (fun hd => ?_) (fun hd => ?_)) <;> (try simp only [hd])) | simp (disch := first | assumption | omega | (simp only [nx] <;> omega) | fail) only [hd, hQr, hQn, c28_0, ↓YA, YB, YC, YE, YF, YZ, ↓reduceIte, Nat.reduceEqDiff, Nat.reduceAdd, Nat.reduceMul, Nat.reduceLeDiff, Int.reduceToNat, Int.reduceLE, Int.reduceLT, Int.reduceGT, Int.reduceGE, Int.reduceAdd, Int.reduceSub, Int.reduceNeg, Int.reduceBEq, Int.reduceBNe, ha, ha1, hg, hlen, hle, hset])) <;> (try (have hd_ : True := hd; clear hd_ hd)))
    exact ⟨(), hG.put⟩
  · (rintro s G ht hG hn1; try simp only [nx] at hn1)
    have hg : G.get (H.next + 1 + k1) = some (.cells ((plF l.length R R.length).map AV.i) 3) := hG.o (_, _) (List.mem_singleton.2 rfl)
    have hxb : G.get H.next = some (.cells (eShp x) 24) := by
      rw [hG.g _ (by simp only [nx]; omega) (by simp; omega), AHeap.get_alloc_ne (by simp only [nx]; omega)]
      simp only [AHeap.get_bump]
      exact AHeap.get_alloc_self
    have hxG : AHeap.Ext H G := hG.extO (by exact AXT) (by simp; omega)
    have hpl := plF_len l.length R R.length
    generalize hPs : plF l.length R R.length = ps at *
    have hlg := AHeap.lt hg
    have hlx := AHeap.lt hxb
    ((have hd := trivial; repeat' (first | ((first | refine GdK_st (fun hd => ?_) (fun hd => ?_) | refine GdK_sf (fun hd => ?_) (fun hd => ?_) | refine CondK_s (fun hd => ?_) (fun hd => ?_)) <;> (try simp only [hd])) | simp (disch := first | assumption | omega | (simp only [nx] <;> omega) | fail) only [hd, hQr, hQn, c28_0, ↓YA, YB, YC, YE, YF, YZ, ↓reduceIte, Nat.reduceEqDiff, Nat.reduceAdd, Nat.reduceMul, Nat.reduceLeDiff, Int.reduceToNat, Int.reduceLE, Int.reduceLT, Int.reduceGT, Int.reduceGE, Int.reduceAdd, Int.reduceSub, Int.reduceNeg, Int.reduceBEq, Int.reduceBNe])) <;> (try (have hd_ : True := hd; clear hd_ hd)))
    refine AW_for [1, 3, 8, 33, 34] (σ := Unit) (fun (k : Nat) s => True) (fun k s => [(11, .sl (.own G.next) (rN ((R.take k).map fun a => mvN x ps (nodAt l a))))]) (fun k s => [(G.next, .tok k 45 14)]) () (GStep.tok 11 45 14 rfl) (by simp only [keep_nil, keep_cons, Fr.put, Fr.get, ↓reduceIte, Nat.reduceEqDiff]; rfl) (by intro k s; rfl) (by intro k s; rfl) (by rfl) (by unfold maxLen; omega) ?_ (by simp only [FrL_nil, FrL_cons, Fr.put, Fr.get, ↓reduceIte, Nat.reduceEqDiff, and_self] <;> simp) ?_ ?_ ?_
    · trivial
    · rw [ObjL_cons]
      exact ⟨AHeap.get_alloc_self (H := G), by simp [ObjL]⟩
    · (rintro k s G2 hk ht hG2 hn2; try simp only [nx] at hn2)
      have hg2 : G2.get G.next = some (.tok k 45 14) := hG2.o (_, _) (List.mem_singleton.2 rfl)
      have hlg2 := AHeap.lt hg2
      obtain ⟨p1, p2⟩ := hP.lo _ (List.getElem_mem hk)
      obtain ⟨a, ha⟩ : ∃ a : Nat, R[k] = a := ⟨R[k].toNat, by omega⟩
      have ha1 : a < l.length := by omega
      have hx2 : G2.get H.next = some (.cells (eShp x) 24) := by
        rw [hG2.g _ (by simp only [nx]; omega) (by simp; omega), AHeap.get_alloc_ne (by omega)]; exact hxb
      have hp2 : G2.get (H.next + 1 + k1) = some (.cells (ps.map AV.i) 3) := by
        rw [hG2.g _ (by simp only [nx]; omega) (by simp; omega), AHeap.get_alloc_ne (by omega)]; exact hg
      have hrk : ((R.take k).map fun a => mvN x ps (nodAt l a)).length = k := by simp; omega
      have la1 := allLen_rN ((R.take k).map fun a => mvN x ps (nodAt l a))
      have la2 : allLen 14 [eNod .no (mvN x ps l[a])] = true := rfl
      have lm1 : k + 1 ≤ maxLen := by unfold maxLen; omega
      have lm2 : (k + 1) * 128 ≤ 140737488355328 := by omega
      have hsn := rN_snoc ((R.take k).map fun a => mvN x ps (nodAt l a)) (mvN x ps l[a])
      rw [show mvN x ps l[a] = mvN x ps (nodAt l R[k]) by rw [ha, nodAt_nat ha1], ← take_map_snoc hk, ← show mvN x ps l[a] = mvN x ps (nodAt l R[k]) by rw [ha, nodAt_nat ha1]] at hsn
      generalize ((R.take k).map fun a => mvN x ps (nodAt l a)) = D at *
      ((have hd := trivial; repeat' (first | ((first | refine GdK_st (fun hd => ?_) (fun hd => ?_) | refine GdK_sf (fun hd => ?_) (fun hd => ?_) | refine CondK_s (fun hd => ?_) (fun hd => ?_)) <;> (try simp only [hd])) | simp (disch := first | assumption | omega | (simp only [nx] <;> omega) | fail) only [hd, hQr, hQn, c28_0, ↓YA, YB, YC, YE, YF, YZ, ↓reduceIte, Nat.reduceEqDiff, Nat.reduceAdd, Nat.reduceMul, Nat.reduceLeDiff, Int.reduceToNat, Int.reduceLE, Int.reduceLT, Int.reduceGT, Int.reduceGE, Int.reduceAdd, Int.reduceSub, Int.reduceNeg, Int.reduceBEq, Int.reduceBNe, ha, hx2])) <;> (try (have hd_ : True := hd; clear hd_ hd)))
      have hmv := move_sound .no l[a] hp2 (by omega) (hn _ (List.getElem_mem ha1)) hx
      rw [hpl] at hmv
      (refine CallK.use (hmv) ?_; rintro _ _ ⟨rfl, k3, rfl⟩)
      ((have hd := trivial; repeat' (first | ((first | refine GdK_st (fun hd => ?_) (fun hd => ?_) | refine GdK_sf (fun hd => ?_) (fun hd => ?_) | refine CondK_s (fun hd => ?_) (fun hd => ?_)) <;> (try simp only [hd])) | simp (disch := first | assumption | omega | (simp only [nx] <;> omega) | fail) only [hd, hQr, hQn, c28_0, ↓YA, YB, YC, YE, YF, YZ, ↓reduceIte, Nat.reduceEqDiff, Nat.reduceAdd, Nat.reduceMul, Nat.reduceLeDiff, Int.reduceToNat, Int.reduceLE, Int.reduceLT, Int.reduceGT, Int.reduceGE, Int.reduceAdd, Int.reduceSub, Int.reduceNeg, Int.reduceBEq, Int.reduceBNe, la1, la2, hrk, lm1, lm2, hg2])) <;> (try (have hd_ : True := hd; clear hd_ hd)))
      exact ⟨(), congrArg (AV.sl _) hsn, hG2.bump.put⟩
    · (rintro s G2 ht hG2 hn2; try simp only [nx] at hn2)
      ((have hd := trivial; repeat' (first | ((first | refine GdK_st (fun hd => ?_) (fun hd => ?_) | refine GdK_sf (fun hd => ?_) (fun hd => ?_) | refine CondK_s (fun hd => ?_) (fun hd => ?_)) <;> (try simp only [hd])) | simp (disch := first | assumption | omega | (simp only [nx] <;> omega) | fail) only [hd, hQr, hQn, c28_0, ↓YA, YB, YC, YE, YF, YZ, ↓reduceIte, Nat.reduceEqDiff, Nat.reduceAdd, Nat.reduceMul, Nat.reduceLeDiff, Int.reduceToNat, Int.reduceLE, Int.reduceLT, Int.reduceGT, Int.reduceGE, Int.reduceAdd, Int.reduceSub, Int.reduceNeg, Int.reduceBEq, Int.reduceBNe])) <;> (try (have hd_ : True := hd; clear hd_ hd)))
      rw [List.take_length]
      exact fin_pure (hxG.trans (hG2.extO (AHeap.Ext.refl G).alloc (by simp))) rfl
end Go.Proofs.Ytgnpihhakogeeaa

namespace Go.Proofs.Ytgnpihhakogeeaa
set_option linter.unusedSimpArgs false
set_option linter.unusedVariables false
open Go.RowKit

theorem plF_get {n : Nat} {r : List Int} (hp : Plc n r) : ∀ k, k ≤ r.length → ∀ j (hj : j < k) (hr : j < r.length), (plF n r k).getD (r[j]).toNat 0 = (j : Int)
  | 0, _, j, hj, _ => by omega
  | k + 1, hk, j, hj, hr => by
    have hkr : k < r.length := by omega
    have e : plF n r (k + 1) = (plF n r k).set (r.getD k 0).toNat (k : Int) := rfl
    have hgd : r.getD k 0 = r[k] := by rw [List.getD_eq_getElem?_getD, List.getElem?_eq_getElem hkr]; rfl
    rw [e, hgd]
    have l1 := hp.lo _ (List.getElem_mem hr)
    have l2 := hp.lo _ (List.getElem_mem hkr)
    have hlen := plF_len n r k
    rcases Nat.lt_or_ge j k with h | h
    · have hne : r[j] ≠ r[k] := List.pairwise_iff_getElem.1 hp.nodup j k hr hkr h
      rw [List.getD_eq_getElem?_getD, List.getElem?_set, if_neg (by omega), ← List.getD_eq_getElem?_getD]
      exact plF_get hp k (by omega) j h hr
    · obtain rfl : j = k := by omega
      rw [List.getD_eq_getElem?_getD, List.getElem?_set, if_pos rfl, if_pos (by omega)]
      rfl
theorem mvC_false (ps : List Int) (c : Cel) : mvC false ps c = c := by unfold mvC; simp
theorem each_mv (x : Shp) (ps : List Int) (n : Nod) : each (mvN x ps n) = (each n).map (mvC (!lastB x n.dim) ps) := by
  unfold each mvN
  simp only [List.map_append, List.map_flatten, List.map_map, List.map_cons, List.map_nil]
  rfl
theorem mvC_key (i : Bool) (ps : List Int) (c : Cel) : (mvC i ps c).key = c.key := by unfold mvC; split <;> rfl
theorem mvC_agg (i : Bool) (ps : List Int) (c : Cel) : (mvC i ps c).agg = c.agg := by unfold mvC; split <;> rfl
theorem listErr_mv {x : Shp} {dim size : Int} {f : Cel → Cel} (hf : ∀ c, (f c).key = c.key) : ∀ (p : Option Int) (l : List Cel), (∀ c ∈ l, cellOk x dim (f c) = cellOk x dim c) → listErr x dim size p (l.map f) = listErr x dim size p l
  | p, [], _ => by cases p <;> rfl
  | p, c :: l, h => by
    rw [List.map_cons]
    unfold listErr
    rw [hf, h c List.mem_cons_self, listErr_mv hf (some c.key) l fun d hd => h d (List.mem_cons_of_mem _ hd)]
theorem listsErr_mv {x : Shp} {dim : Int} {f : Cel → Cel} (hf : ∀ c, (f c).key = c.key) : ∀ (p : Option Nat) (s : List Int) (l : List (List Cel)), (∀ r ∈ l, ∀ c ∈ r, cellOk x dim (f c) = cellOk x dim c) → listsErr x dim p s (l.map (List.map f)) = listsErr x dim p s l
  | p, s, [], _ => by simp [listsErr_end]
  | p, [], r :: l, _ => by cases p <;> rfl
  | p, s :: ss, r :: l, h => by
    rw [List.map_cons]
    unfold listsErr listErr0
    rw [List.length_map, listErr_mv hf none r (h r List.mem_cons_self), listsErr_mv hf (some r.length) ss l fun d hd => h d (List.mem_cons_of_mem _ hd)]
theorem check_mv {x : Shp} {ps : List Int} {n : Nod} (h : ∀ c ∈ each n, cellOk x n.dim (mvC (!lastB x n.dim) ps c) = cellOk x n.dim c) : checkErr x (mvN x ps n) = checkErr x n := by
  have h1 : (mvN x ps n).lists = n.lists.map (List.map (mvC (!lastB x n.dim) ps)) := rfl
  have h2 : (mvN x ps n).all = mvC (!lastB x n.dim) ps n.all := rfl
  have h3 : (mvN x ps n).dim = n.dim := rfl
  have hl : ∀ p s, listsErr x n.dim p s (n.lists.map (List.map (mvC (!lastB x n.dim) ps))) = listsErr x n.dim p s n.lists := fun p s =>
    listsErr_mv (mvC_key _ ps) p s n.lists fun r hr c hc => h c (by unfold each; exact List.mem_append_left _ (List.mem_flatten.2 ⟨r, hr, hc⟩))
  simp only [checkErr, h1, h2, h3, hl, List.length_map, mvC_key, h n.all (by unfold each; simp)]
theorem load_of {x : Shp} {l : List Nod} (hm : shpMay x = true) (h : ∀ i (hi : i < l.length), addErr x 131072 (l.take i) l[i] = 0) : loadErr x l = 0 := by
  unfold loadErr
  rw [hm]
  simp only [Bool.true_eq_false, if_false]
  have : ∀ n k, l.length - k = n → loadFrom x 131072 (l.take k) (l.drop k) = 0 := by
    intro n
    induction n with
    | zero => intro k hk; rw [List.drop_of_length_le (by omega)]; rfl
    | succ n ih =>
      intro k hk
      have hkl : k < l.length := by omega
      rw [loadFrom_step x 131072 l k hkl, if_neg (by simpa using h k hkl)]
      exact ih (k + 1) (by omega)
  exact this _ 0 rfl
/-- an arena's nodes, moved: by an order whose places are ps -/
structure Ord (x : Shp) (l : List Nod) (r : List Int) (ps : List Int) : Prop where
  plc : Plc l.length r
  clo : Clo x l r
  len : ps.length = l.length
  get : ∀ j (h : j < r.length), ps.getD (r[j]).toNat 0 = (j : Int)
section
variable {x : Shp} {l : List Nod} {r ps : List Int}
theorem Ord.node (h : Ord x l r ps) {i : Nat} (hi : i < r.length) : nodAt l r[i] = l[(r[i]).toNat]'(by have := h.plc.lo _ (List.getElem_mem hi); omega) := by
  have := h.plc.lo _ (List.getElem_mem hi)
  obtain ⟨a, ha⟩ : ∃ a : Nat, r[i] = a := ⟨(r[i]).toNat, by omega⟩
  have ha1 : a < l.length := by omega
  simp only [ha, nodAt_nat ha1, Int.toNat_natCast]
/-- where a cell of an inner node leads -/
theorem Ord.child (h : Ord x l r ps) {i : Nat} (hi : i < r.length) (hl : lastB x (nodAt l r[i]).dim = false) {c : Cel} (hc : c ∈ each (nodAt l r[i])) :
    ∃ j, ∃ hj : j < r.length, j < i ∧ c.child = r[j] ∧ (mvC true ps c).child = (j : Int) := by
  have hm : c.child ∈ chs x l r[i] := by
    unfold chs
    rw [hl]
    simp only [Bool.false_eq_true, if_false]
    exact List.mem_map.2 ⟨c, hc, rfl⟩
  have := h.clo i hi _ hm
  obtain ⟨j, hj, e⟩ := List.getElem_of_mem this
  rw [List.length_take] at hj
  rw [List.getElem_take] at e
  have hjr : j < r.length := by omega
  refine ⟨j, hjr, by omega, e.symm, ?_⟩
  have hlo := h.plc.lo _ (List.getElem_mem hjr)
  unfold mvC
  rw [if_pos ⟨rfl, by omega, by rw [h.len]; omega⟩]
  rw [← e]
  exact h.get j hjr
def canN (x : Shp) (l : List Nod) (r ps : List Int) : List Nod := r.map fun a => mvN x ps (nodAt l a)
theorem load_mv (h : Ord x l r ps) (hl : loadErr x l = 0) (hlen : l.length ≤ 100000) : loadErr x (canN x l r ps) = 0 := by
  obtain ⟨hm, ha⟩ := load_all hl
  refine load_of hm fun i hi => ?_
  have hir : i < r.length := by simpa [canN] using hi
  have hrl := h.plc.len
  have hci : (canN x l r ps)[i] = mvN x ps (nodAt l r[i]) := by simp [canN]
  have hlo := h.plc.lo _ (List.getElem_mem hir)
  have hao := ha (r[i]).toNat (by omega)
  rw [← h.node hir] at hao
  obtain ⟨h1, h2, _⟩ := add_zero' hao
  have hck : checkErr x (mvN x ps (nodAt l r[i])) = 0 := by
    rw [check_mv, h1]
    intro c hc
    cases hlast : lastB x (nodAt l r[i]).dim with
    | true => simp only [Bool.not_true]; rw [mvC_false]
    | false =>
      obtain ⟨j, hj, hji, a, b⟩ := h.child hir hlast hc
      have hc0 := check_child h1 hlast c hc
      unfold cellOk
      rw [hlast]
      simp only [Bool.not_false, Bool.false_eq_true, if_false]
      rw [b, mvC_agg]
      simp [hc0]
  have hle : leadsB x ((canN x l r ps).take i) (mvN x ps (nodAt l r[i])) = true := by
    unfold leadsB
    cases hlast : lastB x (nodAt l r[i]).dim with
    | true =>
      have : lastB x (mvN x ps (nodAt l r[i])).dim = true := hlast
      rw [this]; rfl
    | false =>
      have : lastB x (mvN x ps (nodAt l r[i])).dim = false := hlast
      rw [this, Bool.false_or, List.all_eq_true]
      intro c hc
      rw [each_mv, hlast] at hc
      obtain ⟨d, hd, rfl⟩ := List.mem_map.1 hc
      obtain ⟨j, hj, hji, a, b⟩ := h.child hir hlast hd
      simp only [Bool.not_false]
      rw [b]
      have hjc : j < ((canN x l r ps).take i).length := by rw [List.length_take]; simp [canN]; omega
      have hget : ((canN x l r ps).take i).getD (j : Int).toNat ⟨0, [], cel0⟩ = mvN x ps (nodAt l r[j]) := by
        rw [Int.toNat_natCast, List.getD_eq_getElem?_getD, List.getElem?_eq_getElem hjc]
        simp [canN]
      rw [hget]
      have hdimj : (mvN x ps (nodAt l r[j])).dim = (nodAt l r[j]).dim := rfl
      have hdimi : (mvN x ps (nodAt l r[i])).dim = (nodAt l r[i]).dim := rfl
      rw [hdimj, hdimi]
      unfold leadsB at h2
      rw [hlast, Bool.false_or, List.all_eq_true] at h2
      have h3 := h2 d hd
      simp only [Bool.and_eq_true, decide_eq_true_eq, List.length_take] at h3 ⊢
      have hlj := h.plc.lo _ (List.getElem_mem hj)
      refine ⟨by simp [canN]; omega, ?_⟩
      rw [← h3.2, h.node hj, a, List.getD_eq_getElem?_getD, List.getElem?_take, if_pos (by omega), List.getElem?_eq_getElem (by omega)]
      rfl
  unfold addErr
  rw [hci, if_neg (by simpa using hck), if_neg (by simp [hle]), if_neg (by simp [canN]; omega)]
end
end Go.Proofs.Ytgnpihhakogeeaa

namespace Go.Proofs.Ytgnpihhakogeeaa
set_option linter.unusedSimpArgs false
set_option linter.unusedVariables false
open Go.RowKit

theorem mv_small {x : Shp} {ps : List Int} {n : Nod} (h : smallN n) : smallN (mvN x ps n) := by
  obtain ⟨h1, h2, h3⟩ := h
  refine ⟨by simpa [mvN] using h1, ?_, fun c hc => ?_⟩
  · have : (mvN x ps n).lists.flatten.length = n.lists.flatten.length := by
      simp [mvN, mvL, List.length_flatten, Function.comp_def]
    omega
  · obtain ⟨d, hd, rfl⟩ := List.mem_map.1 hc
    simpa [mvL] using h3 d hd
theorem ord_of {x : Shp} {l : List Nod} (hd : Down x l) (top : Int) : Ord x l (ordR x l top) (plF l.length (ordR x l top) (ordR x l top).length) := by
  have hp := ordR_plc hd top
  refine ⟨hp, ?_, plF_len _ _ _, fun j hj => plF_get hp _ (Nat.le_refl _) j hj hj⟩
  unfold ordR
  split
  · rename_i h
    exact (vis_ok hd l.length [] top (Plc.nil _) (fun i h => by cases h) h.1 h.2 h.2).clo
  · intro i h; cases h
end Go.Proofs.Ytgnpihhakogeeaa
