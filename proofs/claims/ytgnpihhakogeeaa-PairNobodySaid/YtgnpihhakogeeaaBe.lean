/- The abstract machine: instructions one behind the other; calls by their contracts. -/
import Derived.Test.YtgnpihhakogeeaaBd
namespace Go.Proofs.Ytgnpihhakogeeaa
set_option linter.unusedSimpArgs false
set_option linter.unusedVariables false
open Go.RowKit

structure AI where
  gd : Option (Nat × Bool)
  dst : Option Nat
  op : AOp
def AI.want (i : AI) (F : Fr) : Option Bool := match i.gd with
  | none => some true
  | some (s, b) => match Fr.get F s with
    | .sc (.bool c) => some (c == b)
    | .sc _ => some false
    | _ => none
def callOk (P : Program) (f : FuncId) : Prop := ∃ fn, P.funcs[f]? = some fn ∧ fn.body.isNone = false ∧ (fn.name == "runtime.NumGoroutine") = false
/-- what a call does: a contract -/
def Sound (P : Program) (f : FuncId) (args : List AV) (H : AHeap) (R : AV → AHeap → Prop) : Prop :=
  callOk P f ∧ ∀ (g : Gh) (w : World) (vs : List Value), WR g H w → VRs g w args vs → Calls P f vs.toArray w fun e w' => ∃ v r H' g', e = .returned v ∧ R r H' ∧ VR g' w' r v ∧ WR g' H' w' ∧ Stp g H w g' H' w'
theorem Sound.mono {P : Program} {f : FuncId} {args : List AV} {H : AHeap} {R R' : AV → AHeap → Prop} (h : Sound P f args H R) (hr : ∀ r H', R r H' → R' r H') : Sound P f args H R' :=
  ⟨h.1, fun g w vs hW hV => (h.2 g w vs hW hV).mono fun e w' ⟨v, r, H', g', h1, h2, h3⟩ => ⟨v, r, H', g', h1, hr r H' h2, h3⟩⟩
def AI.step (P : Program) (i : AI) (F : Fr) (H : AHeap) (K : Fr → AHeap → Prop) : Prop := match i.op with
  | .call f args => match f.ev F with
    | .fn h first caps => Sound P h (first ++ evs F args ++ caps) H fun r H' => K (Fr.put F i.dst r) H'
    | _ => False
  | op => match op.ev F H with
    | some (v, H') => K (Fr.put F i.dst v) H'
    | none => False
def AWOps (P : Program) : List AI → Fr → AHeap → (Fr → AHeap → Prop) → Prop
  | [], F, H, K => K F H
  | i :: l, F, H, K => match i.want F with
    | some true => i.step P F H fun F' H' => AWOps P l F' H' K
    | some false => AWOps P l (Fr.put F i.dst undefA) H K
    | none => False
theorem AI.step_mono {P : Program} {i : AI} {F : Fr} {H : AHeap} {K K' : Fr → AHeap → Prop} (h : i.step P F H K) (hk : ∀ F H, K F H → K' F H) : i.step P F H K' := by
  obtain ⟨gd, dst, op⟩ := i
  cases op <;> simp only [AI.step] at h ⊢ <;> (first
    | (split at h
       · exact h.mono fun r H' hr => hk _ _ hr
       · exact h)
    | (split at h
       · exact hk _ _ h
       · exact h))
/-- which instruction an operation becomes -/
def cAI (P : Program) (eqT : TypeId → Option (List SK)) (N : Nat) (ops : Array Oper) (o : Oper) : Option AI := do
  let op := cOpB P eqT o.op
  if o.dst.all (· < N) then
    match o.guard with
    | none => some ⟨none, o.dst, op⟩
    | some (j, b) => do
      let oj ← ops[j]?
      let s ← oj.dst
      if s < N then some ⟨some (s, b), o.dst, op⟩ else none
  else none
section
variable {P : Program} {g g' : Gh} {H H' : AHeap} {w w' : World} {N : Nat} {F : Fr} {a : Act} {eqT : TypeId → Option (List SK)} {ops : Array Oper} {o : Oper} {i : AI}
theorem cAI_ok (h : cAI P eqT N ops o = some i) : cOpB P eqT o.op = i.op ∧ i.dst = o.dst ∧ (∀ k, o.dst = some k → k < N) ∧ ((o.guard = none ∧ i.gd = none) ∨ ∃ j b oj s, o.guard = some (j, b) ∧ ops[j]? = some oj ∧ oj.dst = some s ∧ s < N ∧ i.gd = some (s, b)) := by
  unfold cAI at h
  have hop : cOpB P eqT o.op = cOpB P eqT o.op := rfl
  simp only at h
  split at h
  · rename_i hd
    have hdst : ∀ k, o.dst = some k → k < N := fun k hk => by rw [hk] at hd; simpa using hd
    split at h
    · rename_i hg
      simp only [Option.some.injEq] at h
      subst h
      exact ⟨hop, rfl, hdst, .inl ⟨hg, rfl⟩⟩
    · rename_i j b hg
      obtain ⟨oj, hoj, h⟩ := bindS h
      obtain ⟨s, hs, h⟩ := bindS h
      split at h
      · rename_i hlt
        simp only [Option.some.injEq] at h
        subst h
        exact ⟨hop, rfl, hdst, .inr ⟨j, b, oj, s, hg, hoj, hs, hlt, rfl⟩⟩
      · cases h
  · cases h
theorem want_ok (hF : FR g w N F a) (h : cAI P eqT N ops o = some i) {t : Bool} (hw : i.want F = some t) : Region.wanted o (yielded ops a.tmps) = t := by
  obtain ⟨_, _, _, hg⟩ := cAI_ok h
  unfold AI.want at hw
  rcases hg with ⟨h1, h2⟩ | ⟨j, b, oj, s, h1, h2, h3, h4, h5⟩
  · rw [h2] at hw
    injection hw with hw
    subst hw
    simp [Region.wanted, h1]
  · rw [h5] at hw
    simp only at hw
    have hs := hF.get s
    have hlt : s < a.tmps.size := by rw [hF.size]; exact h4
    have hy : yielded ops a.tmps j = match a.tmps.getD s undef with | .bool c => some c | _ => none := by
      have hgd : a.tmps.getD s undef = a.tmps[s] := by simp [Array.getD, hlt]
      unfold yielded
      rw [h2, hgd]
      simp only [Option.bind_some, h3, Array.getElem?_eq_getElem hlt]
      generalize a.tmps[s] = q
      cases q <;> rfl
    unfold Region.wanted
    rw [h1]
    simp only [hy]
    generalize a.tmps.getD s undef = u at hs
    split at hw
    · rename_i c hc
      rw [hc] at hs
      cases hs
      injection hw with hw
    · rename_i v hnb hc
      rw [hc] at hs
      cases hs
      injection hw with hw
      subst hw
      cases u <;> simp
      rename_i c
      exact absurd rfl (hnb c)
    · cases hw
/-- what holds behind an instruction, of the model's state -/
def KR (N : Nat) (g : Gh) (H : AHeap) (w : World) (K : Fr → AHeap → Prop) (a' : Act) (w' : World) : Prop := ∃ F' H' g', K F' H' ∧ FR g' w' N F' a' ∧ WR g' H' w' ∧ Stp g H w g' H' w'
theorem ai_step2 (hE : ∀ t ks, eqT t = some ks → EqOk P t ks) (h : cAI P eqT N ops o = some i) (hF : FR g w N F a) (hW : WR g H w) {K : Fr → AHeap → Prop} (hs : i.step P F H K) {K2 : Act → World → Prop} {Q : Exit → Act → World → Prop} (hK : ∀ u w' H' g' F', F' = F' → K F' H' → FR g' w' N F' (a.put o.dst u) → WR g' H' w' → Stp g H w g' H' w' → K2 (a.put o.dst u) w') : o.wp P a w K2 Q := by
  obtain ⟨hop, hdst, hlt, _⟩ := cAI_ok h
  have nocall : (∀ f args, i.op ≠ .call f args) → o.wp P a w K2 Q := by
    intro hnc
    have hs' : match i.op.ev F H with | some (v, H') => K (Fr.put F i.dst v) H' | none => False := by
      unfold AI.step at hs
      split at hs
      · rename_i f args e; exact absurd e (hnc f args)
      · exact hs
    split at hs'
    · rename_i v H' hev
      obtain ⟨nx, u, w', g', h1, h2, h3, h4, h5⟩ := opB_sound hE o hF hW (by rw [hop]; exact hev)
      have hfin : K2 (a.put o.dst u) w' := hK u w' H' g' _ rfl hs' (by rw [hdst]; exact (hF.mono h5.le).put hlt h3) h4 h5
      unfold Oper.wp
      rw [h1]
      rcases h2 with rfl | ⟨rfl, rfl⟩
      · exact hfin
      · exact hfin
    · exact hs'.elim
  cases hio : i.op with
  | call f args =>
    rw [hio] at hop
    have hop : cOp P eqT o.op = some (.call f args) := by
      unfold cOpB at hop
      split at hop
      · rename_i ao hc; rw [hc, hop]
      · cases hop
    unfold AI.step at hs
    rw [hio] at hs
    simp only at hs
    obtain ⟨fo, ao, ats, ho, rfl, rfl⟩ : ∃ fo ao ats, o.op = .call ⟨.value fo, ao, ats⟩ ∧ f = cX fo ∧ args = ao.toList.map cX := by
      obtain ⟨dst, op, type, pos, after, guard⟩ := o
      simp only at hop ⊢
      cases op with
      | call c =>
        obtain ⟨callee, ar, ats⟩ := c
        cases callee with
        | value fo =>
          simp only [cOp, Option.some.injEq, AOp.call.injEq] at hop
          exact ⟨fo, ar, ats, rfl, hop.1.symm, hop.2.symm⟩
        | invoke r m => cases hop
        | builtin bt =>
          exfalso
          cases bt <;> simp only [cOp] at hop <;> first
            | cases hop
            | (split at hop
               · first
                 | (obtain ⟨d, _, hop⟩ := bindS hop
                    cases d <;> simp only at hop <;> first
                      | cases hop
                      | (obtain ⟨i, _, hop⟩ := bindS hop
                         first
                         | (obtain ⟨z, _, hop⟩ := bindS hop
                            split at hop
                            · cases hop
                            · cases hop)
                         | cases hop))
                 | cases hop
               · cases hop)
      | build t parts =>
        exfalso
        simp only [cOp] at hop
        obtain ⟨z, _, hop⟩ := bindS hop
        obtain ⟨zc, _, hop⟩ := bindS hop
        obtain ⟨d, _, hop⟩ := bindS hop
        cases d <;> simp only at hop <;> first
          | cases hop
          | (split at hop
             · obtain ⟨ps, _, hop⟩ := bindS hop; cases hop
             · cases hop)
          | (obtain ⟨s, _, hop⟩ := bindS hop; obtain ⟨ps, _, hop⟩ := bindS hop; cases hop)
      | makeFunc fn first caps => exfalso; cases fn <;> simp [cOp] at hop
      | makeMap t r =>
        exfalso
        cases r with
        | none =>
          simp only [cOp] at hop
          obtain ⟨d, _, hop⟩ := bindS hop
          cases d <;> simp only at hop <;> first
            | cases hop
            | (obtain ⟨kk, _, hop⟩ := bindS hop; cases hop)
        | some x => simp [cOp] at hop
      | convert src dst x =>
        exfalso
        simp only [cOp] at hop
        obtain ⟨d1, _, hop⟩ := bindS hop
        obtain ⟨d2, _, hop⟩ := bindS hop
        split at hop <;> first | cases hop | (split at hop <;> cases hop)
      | binOp op t x y t' =>
        exfalso
        simp only [cOp] at hop
        obtain ⟨d, _, hop⟩ := bindS hop
        cases d <;> simp only at hop <;> first
          | cases hop
          | (cases op <;> cases hop)
          | (split at hop
             · cases op <;> simp [eqsOp] at hop
             · cases hop)
          | (split at hop
             · cases hop
             · obtain ⟨ks, _, hop⟩ := bindS hop
               cases op <;> cases hop)
      | slice t x lo hi mx =>
        exfalso
        simp only [cOp] at hop
        obtain ⟨d, _, hop⟩ := bindS hop
        cases d <;> simp only at hop <;> first
          | cases hop
          | (obtain ⟨s, _, hop⟩ := bindS hop
             split at hop <;> cases hop)
          | (cases mx <;> cases hop)
      | buildSlice t len parts =>
        exfalso
        simp only [cOp] at hop
        obtain ⟨d, _, hop⟩ := bindS hop
        cases d <;> simp only at hop <;> first
          | cases hop
          | (obtain ⟨s, _, hop⟩ := bindS hop
             obtain ⟨z, _, hop⟩ := bindS hop
             split at hop <;> cases hop)
      | makeSlice t l c =>
        exfalso
        simp only [cOp] at hop
        obtain ⟨d, _, hop⟩ := bindS hop
        cases d <;> simp only at hop <;> first
          | cases hop
          | (obtain ⟨s, _, hop⟩ := bindS hop
             obtain ⟨z, _, hop⟩ := bindS hop
             obtain ⟨zc, _, hop⟩ := bindS hop
             split at hop <;> cases hop)
      | fieldAddr s x f =>
        exfalso
        simp only [cOp] at hop
        obtain ⟨d, _, hop⟩ := bindS hop
        cases d <;> simp only at hop <;> first
          | cases hop
          | (obtain ⟨fd, _, hop⟩ := bindS hop
             obtain ⟨z, _, hop⟩ := bindS hop
             split at hop <;> cases hop)
      | _ =>
        exfalso
        simp only [cOp] at hop
        first
        | cases hop
        | (obtain ⟨d, _, hop⟩ := bindS hop
           first
           | cases hop
           | (obtain ⟨d2, _, hop⟩ := bindS hop; cases hop)
           | (cases d <;> simp only at hop <;> first
               | cases hop
               | (obtain ⟨s, _, hop⟩ := bindS hop
                  first
                  | cases hop
                  | (obtain ⟨z, _, hop⟩ := bindS hop
                     first
                     | cases hop
                     | (obtain ⟨z2, _, hop⟩ := bindS hop; cases hop)))))
    have hf := cX_ok hF fo
    split at hs
    · rename_i fid first caps hfe
      rw [hfe] at hf
      generalize hfv : a.eval fo = fv at hf
      cases hf with
      | fn _ _ _ vf vc hl1 hl2 h1 h2 =>
      obtain ⟨⟨fn, hfn, hbody, hname⟩, hcall⟩ := hs
      have hV : VRs g w (first ++ evs F (ao.toList.map cX) ++ caps) (vf.toList ++ ao.toList.map a.eval ++ vc.toList) :=
        (VRs.app ⟨by simpa using hl1, fun i x u hx hu => h1 i x u hx (by simpa using hu)⟩ (cXs_ok hF ao.toList)).app ⟨by simpa using hl2, fun i x u hx hu => h2 i x u hx (by simpa using hu)⟩
      have hC := hcall g w _ hW hV
      have hrun : (execOp a.eval o).run P w = .ok (.enter fid (vf.toList ++ ao.toList.map a.eval ++ vc.toList).toArray) w := by
        unfold execOp
        simp only [ho, resolve, Deferred.ofValue, hfv, invoke, callFunc, Sem.run_bind, Sem.run_pure, Result.andThen_ok, run_program, hfn]
        rw [if_neg (by simpa using hname), if_neg (by intro h; rw [h] at hbody; cases hbody)]
        have : (vf ++ ao.map a.eval ++ vc) = (vf.toList ++ ao.toList.map a.eval ++ vc.toList).toArray := by apply Array.ext'; simp
        rw [this]
        rfl
      unfold Oper.wp
      rw [hrun, Oper.upon_enter]
      refine hC.mono fun e w' ⟨v, r, H', g', he, hR, k1, k2, k3⟩ => ?_
      subst he
      exact hK v w' H' g' _ rfl hR (by rw [hdst]; exact (hF.mono k3.le).put hlt k1) k2 k3
    · exact hs.elim
  | _ => exact nocall (by intro f args e; rw [hio] at e; cases e)
theorem ai_step (hE : ∀ t ks, eqT t = some ks → EqOk P t ks) (h : cAI P eqT N ops o = some i) (hF : FR g w N F a) (hW : WR g H w) {K : Fr → AHeap → Prop} (hs : i.step P F H K) {K2 : Act → World → Prop} {Q : Exit → Act → World → Prop} (hK : ∀ a' w', KR N g H w K a' w' → K2 a' w') : o.wp P a w K2 Q :=
  ai_step2 hE h hF hW hs fun u w' H' g' F' _ h1 h2 h3 h4 => hK _ _ ⟨F', H', g', h1, h2, h3, h4⟩
theorem KR.next {K : Fr → AHeap → Prop} {K' : Fr → AHeap → Prop} {a' : Act} (hst : Stp g H w g' H' w') {a2 : Act} {w2 : World} (h : KR N g' H' w' K a2 w2) : KR N g H w K a2 w2 := by
  obtain ⟨F', H2, g2, h1, h2, h3, h4⟩ := h
  exact ⟨F', H2, g2, h1, h2, h3, hst.trans h4⟩
theorem ops_sound (hE : ∀ t ks, eqT t = some ks → EqOk P t ks) {Q : Exit → Act → World → Prop} {K : Fr → AHeap → Prop} {g0 : Gh} {H0 : AHeap} {w0 : World} (hQ : ∀ a' w', KR N g0 H0 w0 K a' w' → Q .normal a' w') :
    ∀ (os : List Oper) (l : List AI) (g : Gh) (H : AHeap) (w : World) (F : Fr) (a : Act), os.mapM (cAI P eqT N ops) = some l → FR g w N F a → WR g H w → Stp g0 H0 w0 g H w → AWOps P l F H K → wpList P ops Q os a w
  | [], l, g, H, w, F, a, hl, hF, hW, hst, h => by
    simp at hl
    subst hl
    exact hQ _ _ ⟨F, H, g, h, hF, hW, hst⟩
  | o :: os, l, g, H, w, F, a, hl, hF, hW, hst, h => by
    simp only [List.mapM_cons] at hl
    obtain ⟨i, hi, hl⟩ := bindS hl
    obtain ⟨l', hl', hl⟩ := bindS hl
    simp at hl
    subst hl
    simp only [AWOps] at h
    unfold wpList
    split at h
    · rename_i hw
      rw [if_pos (want_ok hF hi hw)]
      refine .inl (ai_step hE hi hF hW h fun a' w' ⟨F', H', g', k1, k2, k3, k4⟩ => ?_)
      exact ops_sound hE hQ os l' g' H' w' F' a' hl' k2 k3 (hst.trans k4) k1
    · rename_i hw
      rw [if_neg (by rw [want_ok hF hi hw]; simp)]
      obtain ⟨_, hd, hlt, _⟩ := cAI_ok hi
      exact ops_sound hE hQ os l' g H w _ _ hl' (by rw [hd]; exact hF.put hlt (.sc _)) hW hst h
    · exact h.elim
end
end Go.Proofs.Ytgnpihhakogeeaa
