/- The abstract machine is sound, instruction by instruction: those that read, and boxes. -/
import Derived.Test.YtgnpihhakogeeaaB3
namespace Go.Proofs.Ytgnpihhakogeeaa
set_option linter.unusedSimpArgs false
set_option linter.unusedVariables false
open Go.RowKit

structure FR (g : Gh) (w : World) (N : Nat) (F : Fr) (a : Act) : Prop where
  size : a.tmps.size = N
  df : a.defers = []
  get : ∀ t, VR g w (Fr.get F t) (a.tmps.getD t undef)
section
variable {P : Program} {g g' : Gh} {H H' : AHeap} {w w' : World} {N : Nat} {F : Fr} {a : Act}
theorem FR.mono (h : FR g w N F a) (k : g.le g' w w') : FR g' w' N F a := ⟨h.size, h.df, fun t => (h.get t).mono k⟩
theorem FR.put (h : FR g w N F a) {d : Option Nat} {x : AV} {u : Value} (hd : ∀ k, d = some k → k < N) (hx : VR g w x u) : FR g w N (Fr.put F d x) (a.put d u) := by
  cases d with
  | none => exact h
  | some k =>
    have hk := hd k rfl
    refine ⟨by simpa [Act.put] using h.size, h.df, fun t => ?_⟩
    by_cases e : t = k
    · subst e
      have : (a.put (some t) u).tmps.getD t undef = u := by simp [Act.put, Array.getElem?_setIfInBounds, h.size, hk]
      rw [this]
      simp only [Fr.put, Fr.get, if_true]
      exact hx
    · have : (a.put (some k) u).tmps.getD t undef = a.tmps.getD t undef := by simp [Act.put, Array.getElem?_setIfInBounds, Ne.symm e]
      rw [this]
      simp only [Fr.put, Fr.get]
      rw [if_neg e]
      exact h.get t
theorem vr_nil : VR g w (.sl .full []) (.slice none 0 0) :=
  VR.sl .full [] none 0 0 0 0 (fun _ _ => undef) (Nat.le_refl _) (by unfold maxLen; omega) (fun h => absurd rfl h) (fun r h => by cases h) (fun i r j x h => by simp at h) (fun i r j x h => by simp at h) rfl
theorem ofConst1_ok (v : Value) : VR g w (ofConst1 v) v := by
  unfold ofConst1
  split
  · exact vr_nil
  · exact .sc v
theorem ofConst_ok (v : Value) : VR g w (ofConst v) v := by
  unfold ofConst
  split
  · rename_i cs
    split
    · rename_i h
      refine .agg _ cs (by simp) (fun x hx => List.all_eq_true.1 h x hx) (fun i x u hx hu => ?_)
      rw [List.getElem?_map] at hx
      have : cs.toList[i]? = some u := by simpa using hu
      rw [this] at hx
      injection hx with hx
      subst hx
      exact ofConst1_ok u
    · exact .any _
  · rename_i f first caps
    split
    · rename_i h
      simp at h
      obtain ⟨rfl, rfl⟩ := h
      exact .fn f [] [] #[] #[] rfl rfl (fun i x u h => by simp at h) (fun i x u h => by simp at h)
    · exact .any _
  · exact ofConst1_ok v
theorem cX_ok (h : FR g w N F a) (x : Operand) : VR g w ((cX x).ev F) (a.eval x) := by
  cases x with
  | tmp t => exact h.get t
  | const v => exact ofConst_ok v
  | global n => exact .sc _
  | func f => exact .fn f [] [] #[] #[] rfl rfl (fun i x u h => by simp at h) (fun i x u h => by simp at h)
theorem cXs_ok (h : FR g w N F a) (xs : List Operand) : VRs g w (evs F (xs.map cX)) (xs.map a.eval) := by
  induction xs with
  | nil => exact .nil
  | cons x xs ih => exact ih.cons (cX_ok h x)

/-- what an operation does -/
def Does (P : Program) (g : Gh) (H : AHeap) (w : World) (s : Sem Next) (v : AV) (H' : AHeap) : Prop :=
  ∃ nx u w' g', s.run P w = .ok nx w' ∧ (nx = .value u ∨ nx = .skip ∧ u = undef) ∧ VR g' w' v u ∧ WR g' H' w' ∧ Stp g H w g' H' w'
theorem run_v {s : Sem Value} {u : Value} (h : s.run P w = .ok u w') : (do pure (Next.value (← s)) : Sem Next).run P w = .ok (.value u) w' := by
  simp [h]
theorem run_u {s : Sem Unit} (h : s.run P w = .ok () w') : (do s; pure Next.skip : Sem Next).run P w = .ok .skip w' := by
  simp [h]
theorem Does.still {s : Sem Value} {u : Value} {v : AV} (h : s.run P w = .ok u w) (hv : VR g w v u) (hW : WR g H w) : Does P g H w (do pure (Next.value (← s)) : Sem Next) v H :=
  ⟨_, u, w, g, run_v h, .inl rfl, hv, hW, .refl _ _ _⟩
theorem Does.pure {u : Value} {v : AV} (hv : VR g w v u) (hW : WR g H w) : Does P g H w (Pure.pure (Next.value u) : Sem Next) v H :=
  ⟨_, u, w, g, rfl, .inl rfl, hv, hW, .refl _ _ _⟩
/-- a row of cells that lie one behind the other, in the world -/
def Lie (g : Gh) (w : World) (b o : Nat) (row : List AV) : Prop := ∀ j x, row[j]? = some x → ∃ u, w.cell? ⟨b, o + j, none⟩ = some u ∧ VR g w x u
theorem addr_add (b o n : Nat) : (⟨b, o, none⟩ : Addr).add n = ⟨b, o + n, none⟩ := by unfold Addr.add; split <;> simp_all
theorem run_isAgg {t : TypeId} {ag : Bool} (h : tyAgg P t = some ag) : (isAgg t).run P w = .ok ag w := by
  unfold tyAgg at h
  cases hu : P.underlying t with
  | none => rw [hu] at h; cases h
  | some d =>
    rw [hu] at h
    cases d <;> (simp at h; subst h; simp [isAgg, run_underlying hu])
theorem run_sz {t : TypeId} {sz : Nat} (h : tySz P t = some sz) : (sizeOf t).run P w = .ok sz w := by
  unfold tySz at h
  cases hi : P.info? t with
  | none => rw [hi] at h; cases h
  | some i => rw [hi] at h; simp at h; subst h; simp [sizeOf, typeInfo, hi]
theorem load_lies {t : TypeId} {sz : Nat} {ag : Bool} {b base off : Nat} {row : List AV} {v : AV} (hs : tySz P t = some sz) (ha : tyAgg P t = some ag) (hl : Lie g w b base row) (ho : ∀ x ∈ row, x.one = true) (hv : ldRow sz ag row off = some v) :
    ∃ u, (loadVar t ⟨b, base + off, none⟩).run P w = .ok u w ∧ VR g w v u := by
  unfold ldRow at hv
  cases ag with
  | false =>
    simp only [cond_false] at hv
    obtain ⟨u, hc, hu⟩ := hl off v hv
    exact ⟨u, by simp [loadVar, run_isAgg ha, hc], hu⟩
  | true =>
    simp only [cond_true] at hv
    split at hv
    · rename_i hle
      injection hv with hv
      subst hv
      have hex : ∀ j, ∃ u, j < sz → (w.cell? ⟨b, base + off + j, none⟩ = some u ∧ ∀ x, row[off + j]? = some x → VR g w x u) := by
        intro j
        by_cases hj : j < sz
        · have hlt : off + j < row.length := by omega
          obtain ⟨u, hc, hu⟩ := hl (off + j) _ (List.getElem?_eq_getElem hlt)
          refine ⟨u, fun _ => ⟨by rw [Nat.add_assoc]; exact hc, fun x hx => ?_⟩⟩
          rw [List.getElem?_eq_getElem hlt] at hx
          injection hx with hx
          subst hx
          exact hu
        · exact ⟨undef, fun h => absurd h hj⟩
      obtain ⟨f, hf⟩ := Classical.axiomOfChoice hex
      have hrun := run_loadCells (P := P) w ⟨b, base + off, none⟩ sz f (fun j hj => by rw [addr_add]; exact (hf j hj).1)
      refine ⟨.agg ((List.range sz).map f).toArray, by simp [loadVar, run_isAgg ha, run_sz hs, hrun], .agg _ _ ?_ ?_ ?_⟩
      · simp; omega
      · intro x hx
        exact ho x (List.mem_of_mem_drop (List.mem_of_mem_take hx))
      · intro i x u hx hu
        rw [List.getElem?_take] at hx
        split at hx
        · rename_i hi
          rw [List.getElem?_drop] at hx
          simp [hi] at hu
          subst hu
          exact (hf i hi).2 x hx
        · cases hx
    · cases hv
theorem VRs.lie {b : Nat} {E : TypeId} {fz : Nat × Nat} {cs : List AV} {carr : Array Value} (h : VRs g w cs carr.toList) (hb : w.heap[b]? = some (.cells carr E fz)) : Lie g w b 0 cs := by
  intro j x hx
  obtain ⟨u, hu, hv⟩ := h.get hx
  exact ⟨u, by simp only [World.cell?, hb, Nat.zero_add]; simpa using hu, hv⟩
/-- a row that lies, read as a pointer into it -/
theorem ld_ok (hW : WR g H w) {t : TypeId} {sz : Nat} {ag : Bool} {x v : AV} {u : Value} {H' : AHeap} (hs : tySz P t = some sz) (ha : tyAgg P t = some ag) (hx : VR g w x u)
    (he : AOp.ev F H (.ld sz ag (.c x)) = some (v, H')) : H' = H ∧ ∃ r, (Instr.loadAt t u).run P w = .ok r w ∧ VR g w v r := by
  simp only [AOp.ev, AX.ev] at he
  cases hx with
  | el row off b base f hone hcell hv =>
    simp only at he
    cases hr : ldRow sz ag row off with
    | none => rw [hr] at he; cases he
    | some y =>
      rw [hr] at he
      simp at he
      obtain ⟨rfl, rfl⟩ := he
      obtain ⟨r, h1, h2⟩ := load_lies (P := P) (g := g) (w := w) (b := b) (base := base) hs ha (fun j x hx => ⟨f j, (hcell j x hx).1, hv j x hx⟩) hone hr
      exact ⟨rfl, r, by simp [Instr.loadAt, Instr.sureAddr, h1], h2⟩
  | ptr id off b h =>
    simp only at he
    cases ho : H.get id with
    | none => rw [ho] at he; cases he
    | some o =>
      rw [ho] at he
      cases o with
      | tok n E s => cases he
      | map kk es d => cases he
      | cells cs E =>
        simp only at he
        cases hr : ldRow sz ag cs off with
        | none => rw [hr] at he; cases he
        | some y =>
          rw [hr] at he
          simp at he
          obtain ⟨rfl, rfl⟩ := he
          obtain ⟨b', carr, h1, h2, h3, h4, h5⟩ := hW.obj id _ ho
          rw [h] at h1
          injection h1 with h1
          subst h1
          obtain ⟨r, h6, h7⟩ := load_lies (P := P) (g := g) (w := w) (b := b) (base := 0) hs ha (h3.lie h2) h4 hr
          rw [Nat.zero_add] at h6
          exact ⟨rfl, r, by simp [Instr.loadAt, Instr.sureAddr, h6], h7⟩
  | _ => cases he
end
end Go.Proofs.Ytgnpihhakogeeaa
