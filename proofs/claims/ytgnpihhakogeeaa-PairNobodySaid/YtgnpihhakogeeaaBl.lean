/- The abstract machine: a run of its own, to be done by the kernel. -/
import Derived.Test.YtgnpihhakogeeaaBk
namespace Go.Proofs.Ytgnpihhakogeeaa
set_option linter.unusedSimpArgs false
set_option linter.unusedVariables false
open Go.RowKit

abbrev CH := List (Option AObj)
def CH.up (C : CH) : AHeap := ⟨fun i => (C[i]?).join, C.length, fun i hi => by rw [List.getElem?_eq_none hi]; rfl⟩
theorem CH.up_nil : CH.up [] = AHeap.emp := AHeap.ext (by funext i; simp [CH.up, AHeap.emp]) rfl
/-- evaluate the spine of a list first -/
def forceL {α : Type} : List α → (List α → Bool) → Bool
  | [], k => k []
  | a :: l, k => forceL l fun l' => k (a :: l')
theorem forceL_eq {α : Type} : ∀ (l : List α) (k : List α → Bool), forceL l k = k l
  | [], _ => rfl
  | a :: l, k => forceL_eq l _
def forceO : CH → (CH → Bool) → Bool
  | [], k => k []
  | none :: l, k => forceO l fun l' => k (none :: l')
  | some a :: l, k => forceO l fun l' => k (some a :: l')
theorem forceO_eq : ∀ (l : CH) (k : CH → Bool), forceO l k = k l
  | [], _ => rfl
  | none :: l, k => forceO_eq l _
  | some _ :: l, k => forceO_eq l _
def AV.force (v : AV) (k : AV → Bool) : Bool := match v with
  | .sl tok rows => forceL rows fun r => k (.sl tok r)
  | .agg cs => forceL cs fun c => k (.agg c)
  | .tup cs => forceL cs fun c => k (.tup c)
  | .sc (.bool true) => k (.sc (.bool true))
  | .sc (.bool false) => k (.sc (.bool false))
  | v => k v
theorem AV.force_eq (v : AV) (k : AV → Bool) : v.force k = k v := by
  unfold AV.force
  split
  · exact forceL_eq _ _
  · exact forceL_eq _ _
  · exact forceL_eq _ _
  · rfl
  · rfl
  · rfl
def forceC (o : Option AObj) (k : Option AObj → Bool) : Bool := match o with
  | some (.cells cs E) => forceL cs fun c => k (some (.cells c E))
  | o => k o
theorem forceC_eq (o : Option AObj) (k : Option AObj → Bool) : forceC o k = k o := by
  unfold forceC
  split
  · exact forceL_eq _ _
  · rfl

/-- which object an instruction writes -/
def AOp.tgt (F : Fr) : AOp → Option Nat
  | .st _ x _ => match x.ev F with
    | .ptr id _ => some id
    | _ => none
  | .app _ _ _ s _ => match s.ev F with
    | .sl (.own id) _ => some id
    | _ => none
  | .mup _ m _ _ | .men _ _ m _ | .est m _ _ | .del _ m _ | .clr m => match m.ev F with
    | .mp id => some id
    | _ => none
  | _ => none
def Upd (H H' : AHeap) (t : Option Nat) : Prop := H' = H ∨ (∃ o, H' = H.alloc o) ∨ ∃ id o, t = some id ∧ H' = H.set id o
theorem ev_upd {F : Fr} {H H' : AHeap} {op : AOp} {v : AV} (h : op.ev F H = some (v, H')) : Upd H H' (op.tgt F) := by
  have fin0 : ∀ {a : AV}, some (a, H) = some (v, H') → Upd H H' (op.tgt F) := fun h => by
    simp only [Option.some.injEq, Prod.mk.injEq] at h
    exact .inl h.2.symm
  have fin1 : ∀ {a : AV} {o : AObj}, some (a, H.alloc o) = some (v, H') → Upd H H' (op.tgt F) := fun {a o} h => by
    simp only [Option.some.injEq, Prod.mk.injEq] at h
    exact .inr (.inl ⟨o, h.2.symm⟩)
  have finm : ∀ {o : Option AV}, o.map (·, H) = some (v, H') → Upd H H' (op.tgt F) := fun {o} h => by
    cases o with
    | none => cases h
    | some a => exact fin0 h
  have finv : ∀ {o : Option Value}, (o.map fun r => (AV.sc r, H)) = some (v, H') → Upd H H' (op.tgt F) := fun {o} h => by
    cases o with
    | none => cases h
    | some a => exact fin0 h
  cases op with
  | st sz x y =>
    simp only [AOp.ev] at h
    repeat' split at h
    all_goals first | (cases h; done) | skip
    rename_i h1 _ _ _ _ _ _
    simp only [Option.some.injEq, Prod.mk.injEq] at h
    exact .inr (.inr ⟨_, _, by simp [AOp.tgt, h1], h.2.symm⟩)
  | app E sz bytes s x =>
    simp only [AOp.ev] at h
    generalize hs : s.ev F = sv at h
    generalize rowsIn H sz (x.ev F) = xr at h
    cases sv with
    | sl tok rows =>
      cases xr with
      | none => cases h
      | some xs =>
        simp only at h
        split at h
        · cases tok with
          | own id =>
            simp only at h
            (repeat' split at h) <;> first | (cases h; done) | skip
            simp only [Option.some.injEq, Prod.mk.injEq] at h
            exact .inr (.inr ⟨_, _, by simp [AOp.tgt, hs], h.2.symm⟩)
          | full =>
            cases xs with
            | nil => exact fin0 h
            | cons _ _ => exact fin1 h
          | no =>
            cases xs with
            | nil => exact fin0 h
            | cons _ _ => cases h
        · cases h
    | _ => cases xr <;> cases h
  | mup kk m k x =>
    simp only [AOp.ev] at h
    cases hm : m.ev F with
    | mp id =>
      rw [hm] at h
      (repeat' split at h) <;> first | (cases h; done) | exact fin0 h | skip
      all_goals
        simp only [Option.some.injEq, Prod.mk.injEq] at h
        refine .inr (.inr ⟨_, _, ?_, h.2.symm⟩)
        simp_all [AOp.tgt]
    | _ => rw [hm] at h; (repeat' split at h) <;> (first | (cases h; done) | exact fin0 h | simp at *)
  | men kk z m k =>
    simp only [AOp.ev] at h
    cases hm : m.ev F with
    | mp id =>
      rw [hm] at h
      (repeat' split at h) <;> first | (cases h; done) | exact fin0 h | skip
      all_goals
        simp only [Option.some.injEq, Prod.mk.injEq] at h
        refine .inr (.inr ⟨_, _, ?_, h.2.symm⟩)
        simp_all [AOp.tgt]
    | _ => rw [hm] at h; (repeat' split at h) <;> (first | (cases h; done) | exact fin0 h | simp at *)
  | est m s x =>
    simp only [AOp.ev] at h
    cases hm : m.ev F with
    | mp id =>
      rw [hm] at h
      (repeat' split at h) <;> first | (cases h; done) | exact fin0 h | skip
      all_goals
        simp only [Option.some.injEq, Prod.mk.injEq] at h
        refine .inr (.inr ⟨_, _, ?_, h.2.symm⟩)
        simp_all [AOp.tgt]
    | _ => rw [hm] at h; (repeat' split at h) <;> (first | (cases h; done) | exact fin0 h | simp at *)
  | del kk m k =>
    simp only [AOp.ev] at h
    cases hm : m.ev F with
    | mp id =>
      rw [hm] at h
      (repeat' split at h) <;> first | (cases h; done) | exact fin0 h | skip
      all_goals
        simp only [Option.some.injEq, Prod.mk.injEq] at h
        refine .inr (.inr ⟨_, _, ?_, h.2.symm⟩)
        simp_all [AOp.tgt]
    | _ => rw [hm] at h; (repeat' split at h) <;> (first | (cases h; done) | exact fin0 h | simp at *)
  | clr m =>
    simp only [AOp.ev] at h
    cases hm : m.ev F with
    | mp id =>
      rw [hm] at h
      (repeat' split at h) <;> first | (cases h; done) | exact fin0 h | skip
      all_goals
        simp only [Option.some.injEq, Prod.mk.injEq] at h
        refine .inr (.inr ⟨_, _, ?_, h.2.symm⟩)
        simp_all [AOp.tgt]
    | _ => rw [hm] at h; (repeat' split at h) <;> (first | (cases h; done) | exact fin0 h | simp at *)
  | eqn kd neg x y =>
    rcases kd with _ | _ | kd <;> simp only [AOp.ev] at h <;> (repeat' split at h) <;> first | (cases h; done) | exact fin0 h
  | len s x =>
    cases s <;> simp only [AOp.ev] at h <;> (repeat' split at h) <;> first | (cases h; done) | exact fin0 h
  | _ =>
    simp only [AOp.ev] at h
    (repeat' split at h) <;> first | (cases h; done) | exact fin0 h | exact fin1 h | exact finm h | exact finv h
/-- memory after an instruction -/
def nextC (op : AOp) (F : Fr) (C : CH) (H' : AHeap) (k : CH → Bool) : Bool :=
  bif H'.next == C.length then
    match op.tgt F with
    | some id => forceC (H'.get id) fun o => forceO (C.set id o) k
    | none => k C
  else forceC (H'.get C.length) fun o => forceO (C ++ [o]) k
theorem nextC_ok {op : AOp} {F : Fr} {C : CH} {v : AV} {H' : AHeap} {k : CH → Bool} (h : op.ev F C.up = some (v, H')) (hk : nextC op F C H' k = true) : ∃ C' : CH, C'.up = H' ∧ k C' = true := by
  unfold nextC at hk
  rcases ev_upd h with e | ⟨o, e⟩ | ⟨id, o, ht, e⟩
  · subst e
    have : (C.up.next == C.length) = true := by simp [CH.up]
    rw [this, cond_true] at hk
    split at hk
    · rename_i id hid
      rw [forceC_eq, forceO_eq] at hk
      refine ⟨_, ?_, hk⟩
      refine AHeap.ext ?_ (by simp [CH.up])
      funext i
      simp only [CH.up, List.getElem?_set]
      split
      · rename_i hi
        subst hi
        split
        · rename_i hl; simp
        · rename_i hl; simp at hl; simp [List.getElem?_eq_none hl]
      · rfl
    · exact ⟨C, rfl, hk⟩
  · subst e
    have : ((C.up.alloc o).next == C.length) = false := by simp [CH.up]
    rw [this, cond_false, forceC_eq, forceO_eq] at hk
    refine ⟨_, ?_, hk⟩
    refine AHeap.ext ?_ (by simp [CH.up])
    funext i
    have hn : (C.up.alloc o).get C.length = some o := AHeap.get_alloc_self (H := C.up)
    rw [hn]
    by_cases hi : i = C.length
    · subst hi; rw [hn]; simp [CH.up]
    · rw [AHeap.get_alloc_ne (H := C.up) hi]
      simp only [CH.up]
      by_cases hl : i < C.length
      · rw [List.getElem?_append_left hl]
      · rw [List.getElem?_eq_none (by simp; omega), List.getElem?_eq_none (by omega)]
  · subst e
    have : ((C.up.set id o).next == C.length) = true := by simp [CH.up]
    rw [this, cond_true, ht] at hk
    simp only at hk
    rw [forceC_eq, forceO_eq] at hk
    refine ⟨_, ?_, hk⟩
    refine AHeap.ext ?_ (by simp [CH.up])
    funext i
    simp only [CH.up, List.getElem?_set]
    by_cases hi : id = i
    · subst hi
      rw [if_pos rfl]
      split
      · rename_i hl; simp
      · rename_i hl
        simp only [AHeap.set]
        simp at hl
        simp; omega
    · rw [if_neg hi, AHeap.get_set_ne (Ne.symm hi)]
end Go.Proofs.Ytgnpihhakogeeaa
