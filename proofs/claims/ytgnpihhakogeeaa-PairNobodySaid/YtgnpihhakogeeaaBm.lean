/- The abstract machine: a run of its own is sound. -/
import Derived.Test.YtgnpihhakogeeaaBl
namespace Go.Proofs.Ytgnpihhakogeeaa
set_option linter.unusedSimpArgs false
set_option linter.unusedVariables false
open Go.RowKit

def listSame {α : Type} (p : α → α → Bool) : List α → List α → Bool
  | [], [] => true
  | a :: l, b :: m => p a b && listSame p l m
  | _, _ => false
theorem listSame_ok {α : Type} {p : α → α → Bool} (hp : ∀ a b, p a b = true → a = b) : ∀ {l m : List α}, listSame p l m = true → l = m
  | [], [], _ => rfl
  | a :: l, b :: m, h => by
    simp only [listSame, Bool.and_eq_true] at h
    rw [hp _ _ h.1, listSame_ok hp h.2]
  | [], _ :: _, h => by simp [listSame] at h
  | _ :: _, [], h => by simp [listSame] at h
def vSame : Value → Value → Bool
  | .int k a, .int k' b => decide (k = k') && decide (a = b)
  | .bool a, .bool b => a == b
  | .string a, .string b => decide (a = b)
  | .pointer none, .pointer none => true
  | .map none, .map none => true
  | _, _ => false
theorem vSame_ok {a b : Value} (h : vSame a b = true) : a = b := by
  unfold vSame at h
  split at h <;> simp_all
def AV.same : Nat → AV → AV → Bool
  | n + 1, a, b => match a, b with
    | .any, .any => true
    | .ub, .ub => true
    | .sc u, .sc v => vSame u v
    | .sl t r, .sl t' r' => decide (t = t') && listSame (listSame (AV.same n)) r r'
    | .el r o, .el r' o' => listSame (AV.same n) r r' && decide (o = o')
    | .ptr i o, .ptr i' o' => decide (i = i') && decide (o = o')
    | .arr i o l c, .arr i' o' l' c' => decide (i = i') && (decide (o = o') && (decide (l = l') && decide (c = c')))
    | .agg cs, .agg ds => listSame (AV.same n) cs ds
    | .tup cs, .tup ds => listSame (AV.same n) cs ds
    | .mp i, .mp i' => decide (i = i')
    | .fn f a b, .fn f' a' b' => decide (f = f') && (listSame (AV.same n) a a' && listSame (AV.same n) b b')
    | _, _ => false
  | 0, _, _ => false
theorem AV.same_ok : ∀ {n : Nat} {a b : AV}, AV.same n a b = true → a = b
  | 0, _, _, h => by simp [AV.same] at h
  | n + 1, a, b, h => by
    have ih : ∀ a b, AV.same n a b = true → a = b := fun a b h => AV.same_ok h
    unfold AV.same at h
    split at h
    · rfl
    · rfl
    · rw [vSame_ok h]
    · simp only [Bool.and_eq_true, decide_eq_true_eq] at h
      rw [h.1, listSame_ok (fun a b h => listSame_ok ih h) h.2]
    · simp only [Bool.and_eq_true, decide_eq_true_eq] at h
      rw [h.2, listSame_ok ih h.1]
    · simp only [Bool.and_eq_true, decide_eq_true_eq] at h
      rw [h.1, h.2]
    · simp only [Bool.and_eq_true, decide_eq_true_eq] at h
      rw [h.1, h.2.1, h.2.2.1, h.2.2.2]
    · rw [listSame_ok ih h]
    · rw [listSame_ok ih h]
    · simp only [decide_eq_true_eq] at h
      rw [h]
    · simp only [Bool.and_eq_true, decide_eq_true_eq] at h
      rw [h.1, listSame_ok ih h.2.1, listSame_ok ih h.2.2]
    · cases h
theorem ev_read {op : AOp} {F : Fr} {H H' : AHeap} {v : AV} (hk : op.kind < 2) (h : op.ev F H = some (v, H')) : H' = H := by
  rcases Nat.lt_or_ge op.kind 1 with h0 | h1
  · have := pure_map (F := F) H H (show op.kind = 0 by omega)
    rw [h] at this
    simp only [Option.map_some, Option.some.injEq, Prod.mk.injEq, true_and] at this
    exact this
  · have finm : ∀ {o : Option AV}, o.map (·, H) = some (v, H') → H' = H := fun {o} h => by
      cases o with
      | none => cases h
      | some a => simp only [Option.map_some, Option.some.injEq, Prod.mk.injEq] at h; exact h.2.symm
    have fin0 : ∀ {a : AV}, some (a, H) = some (v, H') → H' = H := fun h => by
      simp only [Option.some.injEq, Prod.mk.injEq] at h
      exact h.2.symm
    cases op with
    | ld sz ag x =>
      simp only [AOp.ev] at h
      (repeat' split at h) <;> first | (cases h; done) | exact finm h
    | lkp kk z ok m k =>
      simp only [AOp.ev] at h
      (repeat' split at h) <;> first | (cases h; done) | exact fin0 h
    | sob x =>
      simp only [AOp.ev] at h
      (repeat' split at h) <;> first | (cases h; done) | exact fin0 h
    | mln m =>
      simp only [AOp.ev] at h
      (repeat' split at h) <;> first | (cases h; done) | exact fin0 h
    | _ => simp [AOp.kind] at h1 hk
def AI.stableB (r : AI) (F : Fr) (C : CH) : Bool := match r.want F with
  | some false => true
  | some true => match r.dst with
    | some d => decide (r.op.kind < 2) && (match r.op.ev F C.up with
      | some (v, _) => AV.same 20 v (Fr.get F d)
      | none => false)
    | none => false
  | none => false
theorem stable_ok {r : AI} {F : Fr} {C : CH} (h : r.stableB F C = true) : r.stable F C.up := by
  unfold AI.stableB at h
  unfold AI.stable
  split at h
  · rename_i e; rw [e]; trivial
  · rename_i e
    rw [e]
    split at h
    · rename_i d hd
      simp only [Bool.and_eq_true, decide_eq_true_eq] at h
      obtain ⟨hk, h⟩ := h
      split at h
      · rename_i v H' hv
        have := ev_read hk hv
        subst this
        exact ⟨d, hd, by rw [hv, AV.same_ok h]⟩
      · cases h
    · cases h
  · cases h

abbrev CallR := FuncId → List AV → (AV → CH → Bool) → CH → Bool
def forceV : List AV → (List AV → Bool) → Bool
  | [], k => k []
  | a :: l, k => a.force fun a => forceV l fun l => k (a :: l)
theorem forceV_eq : ∀ (l : List AV) (k : List AV → Bool), forceV l k = k l
  | [], _ => rfl
  | a :: l, k => by simp only [forceV, AV.force_eq]; exact forceV_eq l _
def runI (call : CallR) (i : AI) (k : Fr → CH → Bool) (F : Fr) (C : CH) : Bool := match i.op with
  | .call f args => match f.ev F with
    | .fn h first caps => forceV (first ++ evs F args ++ caps) fun as => call h as (fun r C' => k (Fr.put F i.dst r) C') C
    | _ => false
  | op => match op.ev F C.up with
    | some (v, H') => v.force fun v => nextC op F C H' fun C' => k (Fr.put F i.dst v) C'
    | none => false
def runOps (call : CallR) : List AI → (Fr → CH → Bool) → Fr → CH → Bool
  | [], k, F, C => k F C
  | i :: l, k, F, C => match i.want F with
    | some true => runI call i (runOps call l k) F C
    | some false => runOps call l k (Fr.put F i.dst undefA) C
    | none => false
def runDraw (call : CallR) : List (AI × List AI) → (Fr → CH → Bool) → Fr → CH → Bool
  | [], k, F, C => k F C
  | (i, chk) :: l, k, F, C => match i.want F with
    | some true => runI call i (fun F' C' => bif chk.all (fun r => r.stableB F' C') then runDraw call l k F' C' else false) F C
    | some false => runDraw call l k (Fr.put F i.dst undefA) C
    | none => false
def loopN (step : (AEx → Fr → CH → Bool) → Fr → CH → Bool) (k : AEx → Fr → CH → Bool) : Nat → Fr → CH → Bool
  | 0, _, _ => false
  | n + 1, F, C => step (fun e F' C' => match e with
    | .normal => loopN step k n F' C'
    | e => k e F' C') F C
def runC (call : CallR) (lf : Nat) : ACode → (AEx → Fr → CH → Bool) → Fr → CH → Bool
  | .skip, k, F, C => k .normal F C
  | .reg l, k, F, C => runOps call l (k .normal) F C
  | .drw l, k, F, C => runDraw call l (k .normal) F C
  | .seq a b, k, F, C => runC call lf a (fun e F C => match e with
    | .normal => runC call lf b k F C
    | e => k e F C) F C
  | .cond c a b, k, F, C => match c.ev F with
    | .sc (.bool t) => bif t then runC call lf a k F C else runC call lf b k F C
    | .ub => bif runC call lf a k F C then runC call lf b k F C else false
    | _ => false
  | .blk id a, k, F, C => runC call lf a (fun e F C => match e with
    | .exit j => if j = id then k .normal F C else k (.exit j) F C
    | e => k e F C) F C
  | .loop a, k, F, C => loopN (runC call lf a) k lf F C
  | .exit id, k, F, C => k (.exit id) F C
  | .ret, k, F, C => k .ret F C
  | .bad, _, _, _ => false
def runF (X : FuncId → List AV → CH → Option (AV × CH)) (T : FuncId → Option (ACode × List ARes × Nat)) (lf : Nat) : Nat → CallR
  | 0, _, _, _, _ => false
  | n + 1, f, args, k, C => match X f args C with
   | some (r, C') => forceO C' fun C' => k r C'
   | none => match T f with
    | some (code, rs, N) => bif decide (args.length ≤ N) then runC (runF X T lf n) lf code (fun e F C' => match e with
        | .exit _ => false
        | _ => match resA F C'.up rs with
          | some r => r.force fun r => k r C'
          | none => false) (argsFr 0 args) C else false
    | none => false
section
variable {P : Program} {call : CallR}
def CallOk (P : Program) (call : CallR) : Prop := ∀ f args k C, call f args k C = true → Sound P f args C.up fun r H' => ∃ C' : CH, C'.up = H' ∧ k r C' = true
theorem runI_ok (hc : CallOk P call) {i : AI} {k : Fr → CH → Bool} {F : Fr} {C : CH} {K : Fr → AHeap → Prop} (h : runI call i k F C = true) (hk : ∀ F' C', k F' C' = true → K F' (CH.up C')) : i.step P F C.up K := by
  have key : (∀ f args, i.op ≠ .call f args) → i.step P F C.up K := by
    intro hnc
    unfold runI at h
    unfold AI.step
    split
    · rename_i f args he; exact absurd he (hnc f args)
    · split at h
      · rename_i f args he; exact absurd he (hnc f args)
      · split at h
        · rename_i v H' hv
          rw [AV.force_eq] at h
          obtain ⟨C', h1, h2⟩ := nextC_ok hv h
          rw [hv]
          have := hk _ _ h2
          rw [h1] at this
          exact this
        · cases h
  cases hio : i.op with
  | call f args =>
    unfold runI at h
    unfold AI.step
    rw [hio] at h ⊢
    simp only at h ⊢
    split at h
    · rename_i hf
      rw [forceV_eq] at h
      rw [hf]
      exact (hc _ _ _ _ h).mono fun r H' ⟨C', h1, h2⟩ => by
        have := hk _ _ h2
        rw [h1] at this
        exact this
    · cases h
  | _ => exact key (by intro f args e; rw [hio] at e; cases e)
theorem runOps_ok (hc : CallOk P call) : ∀ {l : List AI} {k : Fr → CH → Bool} {F : Fr} {C : CH} {K : Fr → AHeap → Prop}, runOps call l k F C = true → (∀ F' C', k F' C' = true → K F' (CH.up C')) → AWOps P l F C.up K
  | [], k, F, C, K, h, hk => hk _ _ h
  | i :: l, k, F, C, K, h, hk => by
    simp only [runOps] at h
    simp only [AWOps]
    split at h
    · rename_i e; rw [e]; exact runI_ok hc h fun F' C' h' => runOps_ok hc h' hk
    · rename_i e; rw [e]; exact runOps_ok hc h hk
    · cases h
theorem runDraw_ok (hc : CallOk P call) : ∀ {l : List (AI × List AI)} {k : Fr → CH → Bool} {F : Fr} {C : CH} {K : Fr → AHeap → Prop}, runDraw call l k F C = true → (∀ F' C', k F' C' = true → K F' (CH.up C')) → AWDraw P l F C.up K
  | [], k, F, C, K, h, hk => hk _ _ h
  | (i, chk) :: l, k, F, C, K, h, hk => by
    simp only [runDraw] at h
    simp only [AWDraw]
    split at h
    · rename_i e
      rw [e]
      refine runI_ok hc h fun F' C' h' => ?_
      by_cases ha : (chk.all fun r => r.stableB F' C') = true
      · rw [ha, cond_true] at h'
        exact ⟨fun r hr => stable_ok (List.all_eq_true.1 ha r hr), runDraw_ok hc h' hk⟩
      · simp only [Bool.not_eq_true] at ha
        rw [ha] at h'
        cases h'
    · rename_i e; rw [e]; exact runDraw_ok hc h hk
    · cases h
theorem runC_ok (hc : CallOk P call) {lf : Nat} : ∀ (c : ACode) {k : AEx → Fr → CH → Bool} {F : Fr} {C : CH} {Q : AEx → Fr → AHeap → Prop}, runC call lf c k F C = true → (∀ e F' C', k e F' C' = true → Q e F' (CH.up C')) → AW P c Q F C.up := by
  intro c
  induction c with
  | skip => intro k F C Q h hk; exact hk _ _ _ h
  | reg l => intro k F C Q h hk; exact runOps_ok hc h fun F' C' h' => hk _ _ _ h'
  | drw l => intro k F C Q h hk; exact runDraw_ok hc h fun F' C' h' => hk _ _ _ h'
  | seq a b iha ihb =>
    intro k F C Q h hk
    simp only [runC] at h
    simp only [AW]
    refine iha h fun e F' C' h' => ?_
    cases e with
    | normal => exact ihb h' hk
    | exit i => exact hk _ _ _ h'
    | ret => exact hk _ _ _ h'
  | cond c a b iha ihb =>
    intro k F C Q h hk
    simp only [runC] at h
    simp only [AW]
    split at h
    · rename_i t e
      rw [e]
      simp only
      cases t
      · exact ihb h hk
      · exact iha h hk
    · rename_i e
      rw [e]
      simp only
      cases ha : runC call lf a k F C with
      | true => rw [ha, cond_true] at h; exact ⟨iha ha hk, ihb h hk⟩
      | false => rw [ha] at h; cases h
    · cases h
  | blk id a iha =>
    intro k F C Q h hk
    simp only [runC] at h
    simp only [AW]
    refine iha h fun e F' C' h' => ?_
    cases e with
    | normal => exact hk _ _ _ h'
    | ret => exact hk _ _ _ h'
    | exit j =>
      simp only at h' ⊢
      by_cases hj : j = id
      · rw [if_pos hj] at h' ⊢; exact hk _ _ _ h'
      · rw [if_neg hj] at h' ⊢; exact hk _ _ _ h'
  | loop a iha =>
    intro k F C Q h hk
    simp only [runC] at h
    simp only [AW]
    refine ⟨fun n F H => ∃ C' : CH, C'.up = H ∧ loopN (runC call lf a) k n F C' = true, ⟨lf, F, _, .refl _ _, C, rfl, h⟩, ?_⟩
    rintro n F H ⟨C', rfl, h'⟩
    cases n with
    | zero => simp [loopN] at h'
    | succ n =>
      simp only [loopN] at h'
      refine iha h' fun e F' C'' h'' => ?_
      cases e with
      | normal => exact ⟨n, F', _, Nat.lt_succ_self _, .refl _ _, C'', rfl, h''⟩
      | exit i => exact hk _ _ _ h''
      | ret => exact hk _ _ _ h''
  | exit id => intro k F C Q h hk; exact hk _ _ _ h
  | ret => intro k F C Q h hk; exact hk _ _ _ h
  | bad => intro k F C Q h hk; simp [runC] at h
theorem runF_ok {eqT : TypeId → Option (List SK)} (hE : ∀ t ks, eqT t = some ks → EqOk P t ks) {X : FuncId → List AV → CH → Option (AV × CH)} (hX : ∀ f args C r C', X f args C = some (r, C') → Sound P f args (CH.up C) fun r' H' => r' = r ∧ H' = CH.up C') {T : FuncId → Option (ACode × List ARes × Nat)} (hT : ∀ f x, T f = some x → cFn P eqT f = some x) (lf : Nat) : ∀ n, CallOk P (runF X T lf n)
  | 0 => fun f args k C h => by simp [runF] at h
  | n + 1 => fun f args k C h => by
    simp only [runF] at h
    split at h
    · rename_i r C' hx
      rw [forceO_eq] at h
      exact (hX _ _ _ _ _ hx).mono fun r' H' ⟨h1, h2⟩ => ⟨C', h2.symm, by rw [h1]; exact h⟩
    split at h
    · rename_i code rs N e
      by_cases hl : args.length ≤ N
      · rw [decide_eq_true hl, cond_true] at h
        refine fn_sound hE (hT _ _ e) hl (runC_ok (runF_ok hE hX hT lf n) code h fun e F' C' h' => ?_)
        have fin : ∀ {b : Bool}, (match resA F' (CH.up C') rs with | some r => r.force fun r => k r C' | none => false) = true → (match resA F' (CH.up C') rs with | some r => ∃ r2 H2, RStep r (CH.up C') r2 H2 ∧ ∃ C'' : CH, C''.up = H2 ∧ k r2 C'' = true | none => False) := by
          intro _ hh
          split at hh
          · rename_i r hr
            rw [AV.force_eq] at hh
            exact ⟨r, _, RStep.keep (fun _ _ h => h) (Nat.le_refl _), C', rfl, hh⟩
          · cases hh
        cases e with
        | normal => exact fin (b := true) h'
        | ret => exact fin (b := true) h'
        | exit i => cases h'
      · rw [decide_eq_false hl] at h; cases h
    · cases h
/-- a call that takes plain values and yields one: whatever memory there is -/
theorem Sound.closed {f : FuncId} {as : List Value} {R : AV → AHeap → Prop} {v : Value} (h : Sound P f (as.map .sc) AHeap.emp R) (hR : ∀ r H, R r H → r = .sc v) (H : AHeap) : Sound P f (as.map .sc) H (Pure H (.sc v)) := by
  refine ⟨h.1, fun g w vs hW hV => ?_⟩
  let g0 : Gh := ⟨fun _ => none, fun _ => none, fun _ _ => none, g.RO⟩
  have hW0 : WR g0 AHeap.emp w := ⟨fun id o h => by simp [AHeap.emp] at h, fun id id' o o' b h => by simp [AHeap.emp] at h, fun id _ => ⟨rfl, rfl, fun _ => rfl⟩, fun id o b h => by simp [AHeap.emp] at h, hW.ro⟩
  have hV0 : VRs g0 w (as.map .sc) vs := ⟨hV.1, fun i x u hx hu => by
    have hh := hV.2 i x u hx hu
    rw [List.getElem?_map] at hx
    cases hy : as[i]? with
    | none => rw [hy] at hx; cases hx
    | some y =>
      rw [hy] at hx
      simp only [Option.map_some, Option.some.injEq] at hx
      subst hx
      cases hh
      exact .sc _⟩
  refine (h.2 g0 w vs hW0 hV0).mono fun e w' ⟨u, r, H', g', he, hr, hv, hw', hs⟩ => ?_
  have hblk : ∀ b, b < w.heap.size → w'.heap[b]? = w.heap[b]? := fun b hb => hs.frame b hb (fun ⟨id, o, h1, _⟩ => by simp [AHeap.emp] at h1)
  have hle : g.le g w w' := ⟨fun _ _ h => h, fun _ _ _ _ h => ⟨_, _, _, h, .inr ⟨rfl, rfl, rfl⟩⟩, fun _ _ _ h => h, fun _ _ h => h, fun b j h => cell?_block (hblk b (hW.ro b j h)) j⟩
  refine ⟨u, .sc v, H, g, he, ⟨rfl, 0, bump_zero.symm⟩, ?_, ⟨fun id o ho => ?_, hW.inj, hW.dom, fun id o b h1 h2 => Nat.lt_of_lt_of_le (hW.bd id o b h1 h2) hs.size, fun b j h => Nat.lt_of_lt_of_le (hW.ro b j h) hs.size⟩, ⟨hle, Nat.le_refl _, hs.os, hs.tape, hs.output, hs.size, fun b hb _ => hblk b hb, fun _ _ h => h, fun _ _ _ h => .inl h⟩⟩
  · have := hR _ _ hr
    subst this
    cases hv
    exact .sc _
  · exact (hW.obj id o ho).mono hle (fun b hb => hblk b (hW.bd id o b ho hb)) (fun _ _ _ h => h) rfl rfl (fun _ => rfl)
end
end Go.Proofs.Ytgnpihhakogeeaa
