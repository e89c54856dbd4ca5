/- The abstract machine is sound: slices that are built, slice expressions, make, append. -/
import Derived.Test.YtgnpihhakogeeaaB7
import Derived.Laws.MakeOwn
namespace Go.Proofs.Ytgnpihhakogeeaa
set_option linter.unusedSimpArgs false
set_option linter.unusedVariables false
open Go.RowKit

theorem flatLen {α : Type} {css : List (List α)} {m : Nat} (h : ∀ r ∈ css, r.length = m) : css.flatten.length = css.length * m := by
  induction css with
  | nil => simp
  | cons x r ih =>
    rw [List.flatten_cons, List.length_append, h x List.mem_cons_self, ih (fun y hy => h y (List.mem_cons_of_mem _ hy)), List.length_cons, Nat.add_mul]; omega
theorem flatGet {α : Type} {l : List (List α)} {m : Nat} (h : ∀ r ∈ l, r.length = m) (hm : 0 < m) (j : Nat) : l.flatten[j]? = (l[j / m]?).bind (fun r => r[j % m]?) := by
  induction l generalizing j with
  | nil => simp
  | cons x r ih =>
    have hx := h x List.mem_cons_self
    rw [List.flatten_cons]
    by_cases hj : j < m
    · rw [List.getElem?_append_left (by omega), Nat.div_eq_of_lt hj, Nat.mod_eq_of_lt hj]
      simp
    · rw [List.getElem?_append_right (by omega), hx, ih (fun y hy => h y (List.mem_cons_of_mem _ hy))]
      have e1 : j / m = (j - m) / m + 1 := by
        rw [Nat.div_eq_sub_div hm (by omega)]
      have e2 : j % m = (j - m) % m := by
        rw [Nat.mod_eq_sub_mod (by omega)]
      rw [e1, e2]
      simp
section
variable {P : Program} {g g' : Gh} {H H' : AHeap} {w w' : World} {N : Nat} {F : Fr} {a : Act}
/-- a slice of rows that lie in a block of cells that are not written any more -/
theorem vr_rows {g : Gh} {w : World} {rows : List (List AV)} {b o sz c : Nat} {xs : List Value} (tok : Tok) (hsz : ∀ r ∈ rows, r.length = sz ∧ ∀ x ∈ r, x.one = true) (hV : VRs g w rows.flatten xs) (hcell : ∀ j u, xs[j]? = some u → w.cell? ⟨b, o + j, none⟩ = some u ∧ g.RO b (o + j))
    (hc : rows.length ≤ c) (hm : c ≤ maxLen) (ht : TokOk g tok rows.length (some ⟨b, o, none⟩) c) : VR g w (.sl tok rows) (.slice (some ⟨b, o, none⟩) rows.length c) := by
  have hget : ∀ i r j x, rows[i]? = some r → r[j]? = some x → rows.flatten[i * sz + j]? = some x := by
    intro i r j x hr hx
    have hj : j < sz := by
      have := (List.getElem?_eq_some_iff.1 hx).1
      rw [(hsz r (List.mem_of_getElem? hr)).1] at this; exact this
    rw [flatGet (fun r hr => (hsz r hr).1) (by omega)]
    have e1 : (i * sz + j) / sz = i := by
      rw [Nat.mul_comm, Nat.mul_add_div (by omega), Nat.div_eq_of_lt hj]; rfl
    have e2 : (i * sz + j) % sz = j := by
      rw [Nat.mul_comm, Nat.mul_add_mod, Nat.mod_eq_of_lt hj]
    rw [e1, e2, hr]
    exact hx
  refine .sl tok rows _ c sz b o (fun i j => (xs[i * sz + j]?).getD undef) hc hm (fun _ => rfl) hsz ?_ ?_ ht
  · intro i r j x hr hx
    obtain ⟨u, hu, _⟩ := hV.get (hget i r j x hr hx)
    have := hcell _ u hu
    rw [hu]
    rw [Nat.add_assoc]
    exact this
  · intro i r j x hr hx
    obtain ⟨u, hu, hv⟩ := hV.get (hget i r j x hr hx)
    rw [hu]
    exact hv
/-- the cells of a slice, as they lie -/
theorem vr_cells {tok : Tok} {rows : List (List AV)} {v : Value} (h : VR g w (.sl tok rows) v) : ∃ A c sz b o xs, v = .slice A rows.length c ∧ rows.length ≤ c ∧ c ≤ maxLen ∧ (rows ≠ [] → A = some ⟨b, o, none⟩) ∧ (∀ r ∈ rows, r.length = sz ∧ ∀ x ∈ r, x.one = true) ∧ VRs g w rows.flatten xs ∧ (∀ j u, xs[j]? = some u → w.cell? ⟨b, o + j, none⟩ = some u ∧ g.RO b (o + j)) ∧ TokOk g tok rows.length A c := by
  cases h with
  | sl _ _ A c sz b o f hc hm hA hsz hcell hv ht =>
  have hlen := flatLen (fun r hr => (hsz r hr).1)
  by_cases h0 : sz = 0
  · subst h0
    have e : rows.flatten = [] := List.eq_nil_of_length_eq_zero (by rw [hlen]; rfl)
    exact ⟨A, c, 0, b, o, [], rfl, hc, hm, hA, hsz, by rw [e]; exact .nil, fun j u h => by simp at h, ht⟩
  · have hpos : 0 < sz := by omega
    refine ⟨A, c, sz, b, o, (List.range (rows.length * sz)).map (fun q => f (q / sz) (q % sz)), rfl, hc, hm, hA, hsz, ⟨by simp [hlen], ?_⟩, ?_, ht⟩
    · intro q x u hx hu
      have hq : q < rows.length * sz := by have := (List.getElem?_eq_some_iff.1 hx).1; rw [hlen] at this; exact this
      rw [flatGet (fun r hr => (hsz r hr).1) hpos] at hx
      simp [hq] at hu
      subst hu
      cases hr : rows[q / sz]? with
      | none => rw [hr] at hx; simp at hx
      | some r =>
        rw [hr] at hx
        exact hv _ r _ x hr (by simpa using hx)
    · intro q u hu
      have hq : q < rows.length * sz := by have := (List.getElem?_eq_some_iff.1 hu).1; simpa using this
      simp [hq] at hu
      subst hu
      have hi : q / sz < rows.length := Nat.div_lt_of_lt_mul (by rw [Nat.mul_comm]; exact hq)
      have hr := List.getElem?_eq_getElem hi
      have hrl := (hsz _ (List.getElem_mem hi)).1
      have hj : q % sz < rows[q / sz].length := by rw [hrl]; exact Nat.mod_lt _ hpos
      have := hcell _ _ _ _ hr (List.getElem?_eq_getElem hj)
      have e : o + q / sz * sz + q % sz = o + q := by rw [Nat.add_assoc, Nat.div_add_mod']
      rw [e] at this
      exact this
theorem fill_rows (size : Nat) : ∀ (ps : List (Nat × Value)) (k : Nat) (arr : Array Value), (∀ p ∈ ps, p.2.cells.size = size) → ps.map (·.1) = List.range' k ps.length → arr.size = (k + ps.length) * size →
    ∃ o, Instr.fill (fun i => some (i * size, size)) arr ps = some o ∧ o.toList = arr.toList.take (k * size) ++ (ps.map (·.2.cells.toList)).flatten
  | [], k, arr, _, _, h => ⟨arr, rfl, by simp at h ⊢; rw [List.take_of_length_le (by simp; omega)]⟩
  | (i, v) :: ps, k, arr, hp, hi, h => by
    have hv := hp (i, v) (by simp)
    simp only at hv
    simp only [List.map_cons, List.length_cons, List.range'_succ, List.cons.injEq] at hi
    obtain ⟨rfl, hi⟩ := hi
    simp only [List.length_cons] at h
    have hle : i * size + v.cells.size ≤ arr.size := by
      rw [hv, h, show i * size + size = (i + 1) * size by rw [Nat.add_mul]; omega]
      exact Nat.mul_le_mul_right _ (by omega)
    have h1 := fill_one v.cells arr (i * size) hle
    have hsz : (v.cells.zipIdx.foldl (fun cs (p : Value × Nat) => cs.setIfInBounds (i * size + p.2) p.1) arr).size = arr.size := by
      rw [← Array.length_toList, h1]; simp [splice]; omega
    obtain ⟨o, h2, h3⟩ := fill_rows size ps (i + 1) _ (fun p hp' => hp p (by simp [hp'])) hi (by rw [hsz, h]; congr 1; omega)
    refine ⟨o, ?_, ?_⟩
    · simp only [Instr.fill]
      rw [if_neg (by simp; omega)]
      exact h2
    · rw [h3, h1]
      unfold splice
      have e : (i + 1) * size = i * size + size := by rw [Nat.add_mul]; omega
      rw [e, List.take_append_of_le_length (by simp; omega), List.take_of_length_le (by simp; omega)]
      simp
theorem rowsOf_ok (hF : FR g w N F a) {sz : Nat} : ∀ {xs : List Operand} {rows : List (List AV)}, rowsOf F sz (xs.map cX) = some rows → rows.length = xs.length ∧ (∀ r ∈ rows, r.length = sz ∧ ∀ x ∈ r, x.one = true) ∧ (∀ x ∈ xs, (a.eval x).cells.size = sz) ∧ VRs g w rows.flatten ((xs.map fun x => (a.eval x).cells.toList).flatten)
  | [], rows, h => by
    simp [rowsOf] at h
    subst h
    exact ⟨rfl, fun r h => by simp at h, fun x h => by simp at h, .nil⟩
  | x :: xs, rows, h => by
    simp only [List.map_cons, rowsOf] at h
    cases hc : ((cX x).ev F).cells with
    | none => rw [hc] at h; cases h
    | some vs =>
      rw [hc] at h
      simp only at h
      split at h
      · rename_i hl
        cases hr : rowsOf F sz (xs.map cX) with
        | none => rw [hr] at h; cases h
        | some rs =>
          rw [hr] at h
          simp at h
          subst h
          obtain ⟨h1, h2, h3, h4⟩ := rowsOf_ok hF hr
          obtain ⟨hv, hv1⟩ := (cX_ok hF x).cells hc
          refine ⟨by simp [h1], fun r hr => ?_, fun y hy => ?_, by simpa using hv.app h4⟩
          · rcases List.mem_cons.1 hr with rfl | hr
            · exact ⟨hl, hv1⟩
            · exact h2 r hr
          · rcases List.mem_cons.1 hy with rfl | hy
            · have := hv.1; simp at this; omega
            · exact h3 y hy
      · cases h
theorem new_block_cell (o : Array Value) (E : TypeId) (j : Nat) : (w.alloc (.cells o E)).cell? ⟨w.heap.size, j, none⟩ = o[j]? := by
  have h := heap_alloc_new w (.cells o E)
  unfold World.cell?
  rw [h]
  simp
theorem bsl_ok (hF : FR g w N F a) (hW : WR g H w) {t e : TypeId} {sz len : Nat} {i : TypeInfo} {z : Value} {parts : Array (Nat × Operand)} {v : AV} (hu : P.underlying t = some (.slice e)) (hi : P.info? e = some i) (hz : i.zero = some z) (hsz : i.size = sz) (hzs : z.cells.size = sz) (h0 : 0 < sz) (hcap : len * sz ≤ 16777216) (hr : parts.toList.map (·.1) = List.range len)
    (he : AOp.ev F H (.bsl sz (parts.toList.map fun p => cX p.2)) = some (v, H')) : DoesV P g H w (Instr.buildSlice t len (parts.map fun (i, x) => (i, a.eval x))) v H' := by
  simp only [AOp.ev] at he
  have em : (parts.toList.map fun p => cX p.2) = (parts.toList.map (·.2)).map cX := by simp
  rw [em] at he
  cases hro : rowsOf F sz ((parts.toList.map (·.2)).map cX) with
  | none => rw [hro] at he; cases he
  | some rows =>
    rw [hro] at he
    simp at he
    obtain ⟨rfl, rfl⟩ := he
    obtain ⟨h1, h2, h3, h4⟩ := rowsOf_ok hF hro
    have hlen : parts.toList.length = len := by have := congrArg List.length hr; simpa using this
    have hrows : rows.length = len := by rw [h1]; simpa using hlen
    obtain ⟨o, h5, h6⟩ := fill_rows sz (parts.toList.map fun (i, x) => (i, a.eval x)) 0 ((Array.range (len * sz)).map (z.cells[· % z.cells.size]!)) (by
      intro p hp
      obtain ⟨q, hq, rfl⟩ := List.mem_map.1 hp
      exact h3 q.2 (List.mem_map.2 ⟨q, hq, rfl⟩)) (by
      simp only [List.map_map, List.length_map, hlen]
      rw [← List.range_eq_range', ← hr]
      rfl) (by simp [hlen])
    simp only [Nat.zero_mul, List.take_zero, List.nil_append, List.map_map] at h6
    have hxs : o.toList = ((parts.toList.map (·.2)).map fun x => (a.eval x).cells.toList).flatten := by
      rw [h6]; simp [Function.comp_def]
    obtain ⟨k1, k2⟩ := new_tree hW (.cells o e)
    refine ⟨.slice (some ⟨w.heap.size, 0, none⟩) len len, w.alloc (.cells o e), g.tree w.heap.size, ?_, ?_, k1, k2⟩
    · have hle : ¬ (16777216 < len * sz) := by omega
      simp only [Instr.buildSlice, Sem.run_bind, run_underlying hu, run_sz (P := P) (w := w) (sz := sz) (show tySz P e = some sz by simp [tySz, hi, hsz]), Result.andThen_ok]
      by_cases hl0 : len * sz = 0
      · have hl : len = 0 := by rcases Nat.mul_eq_zero.1 hl0 with h | h <;> omega
        subst hl
        have : parts = #[] := by
          apply Array.ext'
          exact List.eq_nil_of_length_eq_zero hlen
        subst this
        simp [Instr.fill, newRow] at h5 ⊢
        rw [← h5]
        have e0 : Array.range 0 = #[] := rfl
        rw [e0]
        simp
      · simp [hle, hl0, zeroValue, typeInfo, hi, hz, newRow]
        simp at h5
        simp [h5]
    · rw [← hrows]
      refine vr_rows (xs := o.toList) .full h2 (by rw [hxs]; exact h4.mono k2.le) (fun j u hj => ⟨?_, .inr rfl⟩) (Nat.le_refl _) ?_ rfl
      · rw [new_block_cell, Nat.zero_add]; simpa using hj
      · have : rows.length * 1 ≤ len * sz := by rw [hrows]; exact Nat.mul_le_mul_left _ h0
        unfold maxLen; omega
end
end Go.Proofs.Ytgnpihhakogeeaa
