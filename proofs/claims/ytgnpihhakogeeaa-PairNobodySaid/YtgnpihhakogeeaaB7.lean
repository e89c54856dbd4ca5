/- The abstract machine is sound: structs and slices that are built, slice expressions, make, append. -/
import Derived.Test.YtgnpihhakogeeaaB6
namespace Go.Proofs.Ytgnpihhakogeeaa
set_option linter.unusedSimpArgs false
set_option linter.unusedVariables false
open Go.RowKit

theorem fold_set (off : Nat) : ∀ (vs : List Value) (k : Nat) (cs : Array Value), off + k + vs.length ≤ cs.size →
    ((vs.zipIdx k).foldl (fun cs (p : Value × Nat) => cs.setIfInBounds (off + p.2) p.1) cs).toList = cs.toList.take (off + k) ++ vs ++ cs.toList.drop (off + k + vs.length)
  | [], k, cs, h => by simp
  | v :: vs, k, cs, h => by
    simp only [List.zipIdx_cons, List.foldl_cons]
    rw [fold_set off vs (k + 1) _ (by simp at h ⊢; omega)]
    simp only [Array.toList_setIfInBounds, List.length_cons]
    have e1 : off + (k + 1) = off + k + 1 := by omega
    have e2 : off + k + 1 + vs.length = off + k + (vs.length + 1) := by omega
    rw [e1, e2]
    simp only [List.length_cons] at h
    have hlt : off + k < cs.toList.length := by simp; omega
    have h1 : (cs.toList.set (off + k) v).take (off + k + 1) = cs.toList.take (off + k) ++ [v] := by
      rw [List.take_succ_eq_append_getElem (by simpa using hlt)]
      have : (cs.toList.set (off + k) v).take (off + k) = cs.toList.take (off + k) := by
        apply List.ext_getElem?
        intro j
        simp only [List.getElem?_take]
        split
        · rw [List.getElem?_set_ne (by omega)]
        · rfl
      rw [this]
      simp
    have h2 : (cs.toList.set (off + k) v).drop (off + k + (vs.length + 1)) = cs.toList.drop (off + k + (vs.length + 1)) := by
      apply List.ext_getElem?
      intro j
      simp only [List.getElem?_drop]
      rw [List.getElem?_set_ne (by omega)]
    rw [h1, h2]
    simp
theorem fill_one (vs cells : Array Value) (off : Nat) (h : off + vs.size ≤ cells.size) :
    (vs.zipIdx.foldl (fun cs (p : Value × Nat) => cs.setIfInBounds (off + p.2) p.1) cells).toList = splice cells.toList off vs.toList := by
  have := fold_set off vs.toList 0 cells (by simpa using h)
  rw [← Array.foldl_toList, Array.toList_zipIdx, this]
  simp [splice]
section
variable {P : Program} {g g' : Gh} {H H' : AHeap} {w w' : World} {N : Nat} {F : Fr} {a : Act}
theorem splice_ok {cs vs : List AV} {us rs : List Value} {off : Nat} (h : VRs g w cs us) (k : VRs g w vs rs) : VRs g w (splice cs off vs) (splice us off rs) := by
  unfold splice
  rw [k.1]
  exact ((h.take off).app k).app (h.drop _)
theorem splice_one {cs vs : List AV} {off : Nat} (h : ∀ x ∈ cs, x.one = true) (k : ∀ x ∈ vs, x.one = true) : ∀ x ∈ splice cs off vs, x.one = true := by
  intro x hx
  unfold splice at hx
  simp only [List.mem_append] at hx
  rcases hx with (hx | hx) | hx
  · exact h x (List.mem_of_mem_take hx)
  · exact k x hx
  · exact h x (List.mem_of_mem_drop hx)
theorem fill_ok (hF : FR g w N F a) (place : Nat → Option (Nat × Nat)) : ∀ (parts : List (Nat × Operand)) (ps : List (Nat × Nat × AX)) (cs out : List AV) (carr : Array Value), parts.mapM (prt place) = some ps → VRs g w cs carr.toList → (∀ x ∈ cs, x.one = true) → fillA F cs ps = some out →
    ∃ oarr, Instr.fill place carr (parts.map fun (i, x) => (i, a.eval x)) = some oarr ∧ VRs g w out oarr.toList ∧ ∀ x ∈ out, x.one = true
  | [], ps, cs, out, carr, hp, hc, h1, hf => by
    simp at hp
    subst hp
    simp [fillA] at hf
    subst hf
    exact ⟨carr, rfl, hc, h1⟩
  | (i, x) :: parts, ps, cs, out, carr, hp, hc, h1, hf => by
    simp only [List.mapM_cons] at hp
    cases hpl : place i with
    | none => simp [prt, hpl] at hp
    | some os =>
      obtain ⟨off, sz⟩ := os
      have hq : prt place (i, x) = some (off, sz, cX x) := by simp [prt, hpl]
      rw [hq] at hp
      simp only [Option.bind_eq_bind, Option.bind_some] at hp
      cases hr : parts.mapM (prt place) with
      | none => rw [hr] at hp; simp at hp
      | some ps' =>
        rw [hr] at hp
        simp at hp
        subst hp
        simp only [fillA] at hf
        cases hcl : ((cX x).ev F).cells with
        | none => rw [hcl] at hf; cases hf
        | some vs =>
          rw [hcl] at hf
          simp only at hf
          split at hf
          · rename_i hle
            obtain ⟨hv, hv1⟩ := (cX_ok hF x).cells hcl
            have hs : (a.eval x).cells.size = sz := by have := hv.1; simp at this; omega
            have hcs : carr.size = cs.length := by have := hc.1; simp at this; omega
            have hsp := fill_one (a.eval x).cells carr off (by omega)
            obtain ⟨oarr, h3, h4, h5⟩ := fill_ok hF place parts ps' (splice cs off vs) out ((a.eval x).cells.zipIdx.foldl (fun cs (p : Value × Nat) => cs.setIfInBounds (off + p.2) p.1) carr) hr (by rw [hsp]; exact splice_ok hc hv) (splice_one h1 hv1) hf
            refine ⟨oarr, ?_, h4, h5⟩
            rw [← h3]
            simp only [List.map_cons, Instr.fill, hpl]
            rw [if_neg (by simp; omega)]
          · cases hf
theorem run_mapM_fields {fs : Array Field} (h : fs.all (fun f => (P.info? f.type).isSome) = true) : (fs.mapM fun f => do pure (f.offset, ← sizeOf f.type) : Sem (Array (Nat × Nat))).run P w = .ok (fldPlaces P fs) w := by
  have key : ∀ l : List Field, (∀ f ∈ l, (P.info? f.type).isSome = true) → (l.mapM fun f => do pure (f.offset, ← sizeOf f.type) : Sem (List (Nat × Nat))).run P w = .ok (l.map fun f => (f.offset, ((P.info? f.type).map (·.size)).getD 0)) w := by
    intro l
    induction l with
    | nil => intro _; simp
    | cons f l ih =>
      intro hl
      have hf := hl f (by simp)
      obtain ⟨i, hi⟩ := Option.isSome_iff_exists.1 hf
      have hs : (sizeOf f.type).run P w = .ok i.size w := run_sz (by simp [tySz, hi])
      simp only [List.mapM_cons, Sem.run_bind, hs, Result.andThen_ok, Sem.run_pure, ih (fun x hx => hl x (by simp [hx])), List.map_cons, hi, Option.map_some, Option.getD_some]
  have h2 : ∀ f ∈ fs.toList, (P.info? f.type).isSome = true := by
    intro f hf
    exact Array.all_eq_true_iff_forall_mem.1 h f (by simpa using hf)
  rw [Array.mapM_eq_mapM_toList, map_eq_pure_bind, Sem.run_bind, key fs.toList h2]
  simp only [Result.andThen_ok, Sem.run_pure, fldPlaces]
  congr 1
  apply Array.ext'
  simp
theorem bld_ok (hF : FR g w N F a) (hW : WR g H w) {t : TypeId} {z : Value} {zc : List AV} {parts : Array (Nat × Operand)} {ps : List (Nat × Nat × AX)} {v : AV} {i : TypeInfo} (hi : P.info? t = some i) (hz : i.zero = some z) (hzc : (ofConst z).cells = some zc)
    (hd : (∃ fs, P.underlying t = some (.struct fs) ∧ fs.all (fun f => (P.info? f.type).isSome) = true ∧ parts.toList.mapM (prt fun j => (fldPlaces P fs)[j]?) = some ps) ∨
      (∃ n e s, P.underlying t = some (.array n e) ∧ tySz P e = some s ∧ parts.toList.mapM (prt fun j => some (j * s, s)) = some ps))
    (he : AOp.ev F H (.bld zc ps) = some (v, H')) : DoesV P g H w (Instr.build t (parts.map fun (i, x) => (i, a.eval x))) v H' := by
  simp only [AOp.ev] at he
  cases hf : fillA F zc ps with
  | none => rw [hf] at he; cases he
  | some out =>
    rw [hf] at he
    simp at he
    obtain ⟨rfl, rfl⟩ := he
    obtain ⟨hzv, hz1⟩ := (ofConst_ok (g := g) (w := w) z).cells hzc
    rcases hd with ⟨fs, hu, hall, hps⟩ | ⟨n, e, s, hu, hs, hps⟩
    · obtain ⟨oarr, h1, h2, h3⟩ := fill_ok hF _ _ _ _ _ z.cells hps hzv hz1 hf
      refine .here (u := .agg oarr) ?_ (.agg _ _ (by simpa using h2.1) h3 (fun i x u hx hu => h2.2 i x u hx (by simpa using hu))) hW
      have h1' : Instr.fill (fun x => (fldPlaces P fs)[x]?) z.cells (parts.toList.map fun (i, x) => (i, a.eval x)) = some oarr := h1
      simp only [Instr.build, zeroValue, typeInfo, Sem.run_bind, run_program, hi, hz, run_underlying hu, run_mapM_fields hall, Result.andThen_ok, Sem.run_pure, Array.toList_map, h1']
    · obtain ⟨oarr, h1, h2, h3⟩ := fill_ok hF _ _ _ _ _ z.cells hps hzv hz1 hf
      refine .here (u := .agg oarr) ?_ (.agg _ _ (by simpa using h2.1) h3 (fun i x u hx hu => h2.2 i x u hx (by simpa using hu))) hW
      have h1' : Instr.fill (fun i => some (i * s, s)) z.cells (parts.toList.map fun (i, x) => (i, a.eval x)) = some oarr := h1
      simp only [Instr.build, zeroValue, typeInfo, Sem.run_bind, run_program, hi, hz, run_underlying hu, run_sz hs, Result.andThen_ok, Sem.run_pure, Array.toList_map, h1']
end
end Go.Proofs.Ytgnpihhakogeeaa
