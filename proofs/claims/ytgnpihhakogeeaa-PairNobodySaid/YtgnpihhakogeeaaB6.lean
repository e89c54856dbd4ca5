/- The abstract machine is sound: operators, functions, structs and slices that are built, slice expressions. -/
import Derived.Test.YtgnpihhakogeeaaB5
namespace Go.Proofs.Ytgnpihhakogeeaa
set_option linter.unusedSimpArgs false
set_option linter.unusedVariables false
open Go.RowKit

section
variable {P : Program} {g g' : Gh} {H H' : AHeap} {w w' : World} {N : Nat} {F : Fr} {a : Act}
theorem intSc_ok {op : BinOp} {k : IntKind} {x y : Int} {r : Value} {t : TypeId} (h : intSc op k x y = some r) : (binOp op t (.int k x) (.int k y)).run P w = .ok r w := by
  cases op <;> simp only [intSc] at h <;> first
    | (injection h with h; subst h; simp [binOp, Op.intArith, Op.intBits, Op.intCmp]; done)
    | (split at h
       · cases h
       · rename_i h0; injection h with h; subst h; simp [binOp, Op.intDiv, h0])
    | cases h
theorem strSc_ok {op : BinOp} {x y : ByteArray} {r : Value} {t : TypeId} (h : strSc op x y = some r) : (binOp op t (.string x) (.string y)).run P w = .ok r w := by
  by_cases ha : op = .add
  · subst ha
    simp only [strSc] at h
    split at h
    · rename_i h0
      injection h with h
      subst h
      simp only [maxLen] at h0
      simp [binOp, Op.stringOp]
      omega
    · cases h
  · cases op <;> simp only [strSc] at h <;> first
    | exact absurd rfl ha
    | (injection h with h; subst h; simp [binOp, Op.stringOp]; done)
    | cases h
theorem binSc_ok {op : BinOp} {u v r : Value} {t : TypeId} {x y : Operand} (h : binSc op u v = some r) : (do eqGuard op t x y u v; binOp op t u v : Sem Value).run P w = .ok r w := by
  have hg : (eqGuard op t x y u v).run P w = .ok () w := by
    cases u <;> (try (simp [binSc] at h; done)) <;> cases v <;> (try (simp [binSc] at h; done)) <;> (cases op <;> simp [eqGuard])
  simp only [Sem.run_bind, hg, Result.andThen_ok]
  cases u with
  | int k a =>
    cases v with
    | int k' b =>
      simp only [binSc] at h
      cases op <;> simp only at h <;> first
        | (split at h
           · cases h
           · rename_i h0; injection h with h; subst h; simp [binOp, Op.shift, h0]; done)
        | (split at h
           · rename_i hk; subst hk; exact intSc_ok h
           · cases h)
    | _ => simp [binSc] at h
  | string a =>
    cases v with
    | string b => exact strSc_ok h
    | _ => simp [binSc] at h
  | _ => simp [binSc] at h
theorem bin_ok (hW : WR g H w) {t : TypeId} {op : BinOp} {x y v : AV} {u r : Value} {ox oy : Operand} (hx : VR g w x u) (hy : VR g w y r) (he : AOp.ev F H (.bin op (.c x) (.c y)) = some (v, H')) :
    DoesV P g H w (do eqGuard op t ox oy u r; binOp op t u r) v H' := by
  simp only [AOp.ev, AX.ev] at he
  cases hx with
  | sc u =>
    cases hy with
    | sc r =>
      simp only at he
      cases hb : binSc op u r with
      | none => rw [hb] at he; cases he
      | some q =>
        rw [hb] at he
        simp at he
        obtain ⟨rfl, rfl⟩ := he
        exact .here (binSc_ok hb) (.sc _) hW
    | _ => cases he
  | _ => cases he
theorem equal_run {t : TypeId} {u r : Value} {x : Result Bool} (h : ∀ n, (Op.equalIn (n + 1) t u r).run P w = x) : (Op.equal t u r).run P w = x := h 9999
theorem eqn_fin {t : TypeId} {neg b : Bool} {u r : Value} {ox oy : Operand} (hg : ∀ op, (eqGuard op t ox oy u r).run P w = .ok () w) (h1 : binOp .eql t u r = (do pure (.bool (← Op.equal t u r)))) (h2 : binOp .neq t u r = (do pure (.bool (!(← Op.equal t u r))))) (he : (Op.equal t u r).run P w = .ok b w) :
    (do eqGuard (bif neg then .neq else .eql) t ox oy u r; binOp (bif neg then .neq else .eql) t u r : Sem Value).run P w = .ok (.bool (neg ^^ b)) w := by
  cases neg
  · simp [hg, h1, he]
  · simp [hg, h2, he]
theorem eq_done (hW : WR g H w) {t : TypeId} {neg b : Bool} {v : AV} {u r : Value} {ox oy : Operand} (h1 : v = .b (neg ^^ b)) (h2 : H' = H) (h3 : ∀ op, (eqGuard op t ox oy u r).run P w = .ok () w) (h4 : binOp .eql t u r = (do pure (.bool (← Op.equal t u r)))) (h5 : binOp .neq t u r = (do pure (.bool (!(← Op.equal t u r))))) (h6 : (Op.equal t u r).run P w = .ok b w) :
    DoesV P g H w (do eqGuard (bif neg then .neq else .eql) t ox oy u r; binOp (bif neg then .neq else .eql) t u r) v H' := by
  subst h1 h2
  exact .here (eqn_fin h3 h4 h5 h6) (.sc _) hW
theorem bnb_ok (hW : WR g H w) {t : TypeId} {neg : Bool} {x y v : AV} {u r : Value} {ox oy : Operand} (hu : P.underlying t = some .bool) (hx : VR g w x u) (hy : VR g w y r) (he : AOp.ev F H (.bnb neg (.c x) (.c y)) = some (v, H')) :
    DoesV P g H w (do eqGuard (bif neg then .neq else .eql) t ox oy u r; binOp (bif neg then .neq else .eql) t u r) v H' := by
  simp only [AOp.ev, AX.ev] at he
  split at he
  · cases hx; cases hy
    simp only [Option.some.injEq, Prod.mk.injEq] at he
    exact eq_done hW he.1.symm he.2.symm (fun op => by cases op <;> simp [eqGuard]) rfl rfl (equal_run fun n => by simp [Op.equalIn, run_underlying hu])
  · cases he
theorem eqn_ok (hW : WR g H w) {t : TypeId} {kd : Nat} {neg : Bool} {x y v : AV} {u r : Value} {ox oy : Operand} {d : TypeDesc} (hu : P.underlying t = some d) (hd : (kd = 0 ∧ ∃ e, d = .pointer e) ∨ (kd = 1 ∧ ∃ k e, d = .map k e) ∨ (kd = 2 ∧ ∃ p q z, d = .func p q z)) (hx : VR g w x u) (hy : VR g w y r)
    (he : AOp.ev F H (.eqn kd neg (.c x) (.c y)) = some (v, H')) :
    DoesV P g H w (do eqGuard (bif neg then .neq else .eql) t ox oy u r; binOp (bif neg then .neq else .eql) t u r) v H' := by
  rcases hd with ⟨rfl, e, rfl⟩ | ⟨rfl, k, e, rfl⟩ | ⟨rfl, p, q, z, rfl⟩
  · simp only [AOp.ev, AX.ev] at he
    split at he
    · cases hx; cases hy
      simp only [Option.some.injEq, Prod.mk.injEq] at he
      exact eq_done hW he.1.symm he.2.symm (fun op => by cases op <;> simp [eqGuard]) rfl rfl (equal_run fun n => by simp [Op.equalIn, run_underlying hu])
    · cases hx; cases hy
      simp only [Option.some.injEq, Prod.mk.injEq] at he
      exact eq_done hW he.1.symm he.2.symm (fun op => by cases op <;> simp [eqGuard]) rfl rfl (equal_run fun n => by simp [Op.equalIn, run_underlying hu])
    · cases hx; cases hy
      simp only [Option.some.injEq, Prod.mk.injEq] at he
      exact eq_done hW he.1.symm he.2.symm (fun op => by cases op <;> simp [eqGuard]) rfl rfl (equal_run fun n => by simp [Op.equalIn, run_underlying hu])
    · cases he
  · simp only [AOp.ev, AX.ev] at he
    split at he
    · cases hx; cases hy
      simp only [Option.some.injEq, Prod.mk.injEq] at he
      exact eq_done hW he.1.symm he.2.symm (fun op => by cases op <;> simp [eqGuard]) rfl rfl (equal_run fun n => by simp [Op.equalIn, run_underlying hu])
    · cases hx; cases hy
      simp only [Option.some.injEq, Prod.mk.injEq] at he
      exact eq_done hW he.1.symm he.2.symm (fun op => by cases op <;> simp [eqGuard]) rfl rfl (equal_run fun n => by simp [Op.equalIn, run_underlying hu])
    · cases he
  · simp only [AOp.ev, AX.ev] at he
    split at he
    · cases hx; cases hy
      simp only [Option.some.injEq, Prod.mk.injEq] at he
      exact eq_done hW he.1.symm he.2.symm (fun op => by cases op <;> simp [eqGuard]) rfl rfl (equal_run fun n => by simp [Op.equalIn, run_underlying hu])
    · cases hx; cases hy
      simp only [Option.some.injEq, Prod.mk.injEq] at he
      exact eq_done hW he.1.symm he.2.symm (fun op => by cases op <;> simp [eqGuard]) rfl rfl (equal_run fun n => by simp [Op.equalIn, run_underlying hu])
    · cases he
/-- equality of plain structs and arrays, as the program's types have it -/
def EqOk (P : Program) (t : TypeId) (ks : List SK) : Prop :=
  ∀ (xs ys : List Value), xs.length = ks.length → ys.length = ks.length → (∀ (i : Nat) (k : SK) (x : Value), ks[i]? = some k → xs[i]? = some x → k.is x = true) → (∀ (i : Nat) (k : SK) (y : Value), ks[i]? = some k → ys[i]? = some y → k.is y = true) → ∀ w,
    (Op.equal t (.agg xs.toArray) (.agg ys.toArray)).run P w = .ok (vsEq xs ys) w ∧ ∀ b, (Instr.checkKey b 10000 t (.agg xs.toArray)).run P w = .ok () w
theorem scs_ok : ∀ {ks : List SK} {cs : List AV} {us : List Value} {vs : List Value}, scs ks cs = some us → VRs g w cs vs → vs = us ∧ us.length = ks.length ∧ ∀ (i : Nat) (k : SK) (x : Value), ks[i]? = some k → us[i]? = some x → k.is x = true
  | [], [], us, vs, h, hv => by
    simp [scs] at h
    subst h
    have := hv.1
    simp at this
    exact ⟨List.eq_nil_of_length_eq_zero this.symm, rfl, fun i k x h => by simp at h⟩
  | [], c :: cs, us, vs, h, hv => by simp [scs] at h
  | k :: ks, [], us, vs, h, hv => by simp [scs] at h
  | k :: ks, c :: cs, us, vs, h, hv => by
    cases c with
    | sc v =>
      simp only [scs] at h
      cases hk : k.is v with
      | false => rw [hk] at h; cases h
      | true =>
        rw [hk] at h
        simp only [cond_true] at h
        cases hs : scs ks cs with
        | none => rw [hs] at h; cases h
        | some rs =>
          rw [hs] at h
          simp at h
          subst h
          cases vs with
          | nil => have := hv.1; simp at this
          | cons y ys =>
            have h0 := hv.2 0 _ _ rfl rfl
            cases h0
            have hr : VRs g w cs ys := ⟨by have := hv.1; simpa using this, fun i x u hx hu => hv.2 (i + 1) x u (by simpa using hx) (by simpa using hu)⟩
            obtain ⟨h1, h2, h3⟩ := scs_ok hs hr
            subst h1
            refine ⟨rfl, by simp [h2], fun i k' x hk' hx => ?_⟩
            cases i with
            | zero => simp at hk' hx; subst hk' hx; exact hk
            | succ i => exact h3 i k' x (by simpa using hk') (by simpa using hx)
    | _ => simp [scs] at h
theorem eqf_ok (hW : WR g H w) {t : TypeId} {ks : List SK} {neg : Bool} {x y v : AV} {u r : Value} {ox oy : Operand} (hE : EqOk P t ks) (hgd : P.eqGuardType P.depth t = false) (hx : VR g w x u) (hy : VR g w y r)
    (he : AOp.ev F H (.eqf ks neg (.c x) (.c y)) = some (v, H')) : DoesV P g H w (do eqGuard (bif neg then .neq else .eql) t ox oy u r; binOp (bif neg then .neq else .eql) t u r) v H' := by
  simp only [AOp.ev, AX.ev] at he
  cases hx with
  | agg cs vs h1 h2 h3 =>
    cases hy with
    | agg ds rs k1 k2 k3 =>
      simp only at he
      cases hs : scs ks cs with
      | none => rw [hs] at he; simp at he
      | some us =>
        cases hs2 : scs ks ds with
        | none => rw [hs, hs2] at he; simp at he
        | some ts =>
          rw [hs, hs2] at he
          simp at he
          obtain ⟨rfl, rfl⟩ := he
          obtain ⟨e1, l1, t1⟩ := scs_ok (g := g) (w := w) hs (vs := vs.toList) ⟨by simpa using h1, fun i x u hx hu => h3 i x u hx (by simpa using hu)⟩
          obtain ⟨e2, l2, t2⟩ := scs_ok (g := g) (w := w) hs2 (vs := rs.toList) ⟨by simpa using k1, fun i x u hx hu => k3 i x u hx (by simpa using hu)⟩
          have ev : vs = us.toArray := by rw [← e1]
          have er : rs = ts.toArray := by rw [← e2]
          subst ev er
          have hq := (hE us ts l1 l2 t1 t2 w).1
          exact .here (eqn_fin (fun op => by cases op <;> simp [eqGuard, hgd]) rfl rfl hq) (.sc _) hW
    | _ => cases he
  | _ => cases he
theorem un_ok (hW : WR g H w) {op : UnOp} {x v : AV} {u : Value} (hx : VR g w x u) (he : AOp.ev F H (.un op (.c x)) = some (v, H')) : DoesV P g H w (Op.unary op u) v H' := by
  simp only [AOp.ev, AX.ev] at he
  cases hx with
  | sc u =>
    simp only at he
    cases hb : unSc op u with
    | none => rw [hb] at he; cases he
    | some q =>
      rw [hb] at he
      simp at he
      obtain ⟨rfl, rfl⟩ := he
      refine .here ?_ (.sc _) hW
      cases op <;> cases u <;> simp [unSc] at hb <;> subst hb <;> simp [Op.unary, Op.intArith, Op.intBits]
  | _ => cases he
theorem cnv_ok (hW : WR g H w) {src dst : TypeId} {k k0 : IntKind} {x v : AV} {u : Value} (h1 : P.underlying src = some (.int k0)) (h2 : P.underlying dst = some (.int k)) (hx : VR g w x u) (he : AOp.ev F H (.cnv k (.c x)) = some (v, H')) : DoesV P g H w (convert src dst u) v H' := by
  simp only [AOp.ev, AX.ev] at he
  cases hx with
  | sc u =>
    cases u with
    | int k' n =>
      simp at he
      obtain ⟨rfl, rfl⟩ := he
      exact .here (by simp [convert, run_underlying h1, run_underlying h2, Conv.intToInt]) (.sc _) hW
    | _ => cases he
  | _ => cases he
theorem mkf_ok (hW : WR g H w) {f : FuncId} {fs cs : List AX} {v : AV} {vf vc : List Value} (h1 : VRs g w (evs F fs) vf) (h2 : VRs g w (evs F cs) vc) (he : AOp.ev F H (.mkf f fs cs) = some (v, H')) : DoesV P g H w (Instr.makeFunc (.func f) vf.toArray vc.toArray) v H' := by
  simp only [AOp.ev] at he
  simp at he
  obtain ⟨rfl, rfl⟩ := he
  exact .here (u := .func (.func f) vf.toArray vc.toArray) rfl (.fn f _ _ _ _ (by simpa using h1.1) (by simpa using h2.1) (fun i x u hx hu => h1.2 i x u hx (by simpa using hu)) (fun i x u hx hu => h2.2 i x u hx (by simpa using hu))) hW
theorem mm_ok (hW : WR g H w) {mx : Bool} {x y v : AV} {u r : Value} {ts : Array TypeId} {ty : TypeId} (hx : VR g w x u) (hy : VR g w y r) (he : AOp.ev F H (.mm mx (.c x) (.c y)) = some (v, H')) : DoesV P g H w (bif mx then Builtin.max_ ts ty #[u, r] else Builtin.min_ ts ty #[u, r]) v H' := by
  simp only [AOp.ev, AX.ev] at he
  cases hx with
  | sc u =>
    cases hy with
    | sc r =>
      cases u with
      | int k p =>
        cases r with
        | int k' q =>
          simp only at he
          split at he
          · rename_i hk
            simp at he
            obtain ⟨rfl, rfl⟩ := he
            cases mx
            · exact .here (u := .int k (if q < p then q else p)) (by simp [Builtin.min_, Builtin.min2]) (.sc _) hW
            · exact .here (u := .int k (if q > p then q else p)) (by simp [Builtin.max_, Builtin.max2]) (.sc _) hW
          · cases he
        | _ => cases he
      | _ => cases r <;> simp at he
    | _ => cases u <;> cases he
  | _ => cases he
end
end Go.Proofs.Ytgnpihhakogeeaa
