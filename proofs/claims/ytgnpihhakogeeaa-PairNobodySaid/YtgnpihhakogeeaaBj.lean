/- The abstract machine: functions; what is known, known otherwise; rules to walk by. -/
import Derived.Test.YtgnpihhakogeeaaBi
namespace Go.Proofs.Ytgnpihhakogeeaa
set_option linter.unusedSimpArgs false
set_option linter.unusedVariables false
open Go.RowKit

inductive ARes where
  | tmp (t : Nat)
  | cell (sz : Nat) (ag : Bool) (a : Nat)
def cRes (P : Program) : ResultVar → Option ARes
  | .tmp t => some (.tmp t)
  | .cell a t => do let s ← tySz P t; let g ← tyAgg P t; some (.cell s g a)
def ARes.ev (F : Fr) (H : AHeap) : ARes → Option AV
  | .tmp t => some (Fr.get F t)
  | .cell sz ag a => match AOp.ev F H (.ld sz ag (.t a)) with
    | some (v, _) => some v
    | none => none
def resL (F : Fr) (H : AHeap) : List ARes → Option (List AV)
  | [] => some []
  | r :: rs => match r.ev F H with
    | some v => match resL F H rs with
      | some vs => some (v :: vs)
      | none => none
    | none => none
def resA (F : Fr) (H : AHeap) (rs : List ARes) : Option AV := match rs with
  | [r] => r.ev F H
  | rs => match resL F H rs with
    | some vs => some (.tup vs)
    | none => none
def argsFr : Nat → List AV → Fr
  | _, [] => []
  | k, a :: as => (k, a) :: argsFr (k + 1) as
def cFn (P : Program) (eqT : TypeId → Option (List SK)) (f : FuncId) : Option (ACode × List ARes × Nat) := do
  let fn ← P.funcs[f]?
  let c ← fn.body
  if fn.name == "runtime.NumGoroutine" then none else
  let ac ← cCode P eqT fn.ntmps c
  let rs ← fn.results.toList.mapM (cRes P)
  some (ac, rs, fn.ntmps)
/-- a result and memory, known otherwise -/
def RStep (r : AV) (H : AHeap) (r2 : AV) (H2 : AHeap) : Prop := ∀ (g : Gh) (w : World) (v : Value), VR g w r v → WR g H w → ∃ g', VR g' w r2 v ∧ WR g' H2 w ∧ Stp g H w g' H2 w
def RetQ (rs : List ARes) (R : AV → AHeap → Prop) (e : AEx) (F : Fr) (H : AHeap) : Prop := match e with
  | .exit _ => False
  | _ => match resA F H rs with
    | some r => ∃ r2 H2, RStep r H r2 H2 ∧ R r2 H2
    | none => False
section
variable {P : Program} {eqT : TypeId → Option (List SK)} {N : Nat} {g g' : Gh} {H H' : AHeap} {w w' : World} {F F' : Fr} {a : Act}
theorem argsFr_get : ∀ {k : Nat} {as : List AV} {t : Nat}, Fr.get (argsFr k as) t = if k ≤ t then (as[t - k]?).getD .any else .any
  | k, [], t => by simp [argsFr, Fr.get]
  | k, x :: as, t => by
    simp only [argsFr, Fr.get]
    by_cases h : t = k
    · subst h; simp
    · rw [if_neg h, argsFr_get]
      by_cases h2 : k ≤ t
      · rw [if_pos (by omega), if_pos h2, show t - k = (t - (k + 1)) + 1 by omega]
        simp
      · rw [if_neg (by omega), if_neg h2]
def resOne (tmps : Array Value) : ResultVar → Sem Value
  | .tmp t => pure (tmps.getD t undef)
  | .cell x t => do loadVar t (← asAddr (tmps.getD x undef))
theorem results_eq (fn : Func) (tmps : Array Value) : results fn tmps = (do let vs ← fn.results.mapM (resOne tmps); pure (if h : vs.size = 1 then vs[0] else .tuple vs)) := by
  unfold results
  have : (fun x => match x with | ResultVar.tmp t => pure (tmps.getD t undef) | .cell a t => do loadVar t (← asAddr (tmps.getD a undef)) : ResultVar → Sem Value) = resOne tmps := by
    funext x
    cases x <;> rfl
  rw [← this]
  rfl
theorem res_ev (hF : FR g w N F a) (hW : WR g H w) {rv : ResultVar} {r : ARes} {v : AV} (hr : cRes P rv = some r) (he : r.ev F H = some v) : ∃ u, (resOne a.tmps rv).run P w = .ok u w ∧ VR g w v u := by
  cases rv with
  | tmp t =>
    simp only [cRes, Option.some.injEq] at hr
    subst hr
    simp only [ARes.ev, Option.some.injEq] at he
    subst he
    exact ⟨_, rfl, hF.get t⟩
  | cell x t =>
    simp only [cRes] at hr
    obtain ⟨s, hs, hr⟩ := bindS hr
    obtain ⟨ag, ha, hr⟩ := bindS hr
    simp only [Option.some.injEq] at hr
    subst hr
    simp only [ARes.ev] at he
    split at he
    · rename_i v' H' hev
      simp only [Option.some.injEq] at he
      subst he
      obtain ⟨_, u, h1, h2⟩ := ld_ok (P := P) (F := F) hW hs ha (hF.get x) hev
      refine ⟨u, ?_, h2⟩
      have hx := hF.get x
      have hx0 : a.eval (.tmp x) = a.tmps.getD x undef := rfl
      obtain ⟨ux, hux⟩ : ∃ ux, a.tmps.getD x undef = ux := ⟨_, rfl⟩
      have h1' : (Instr.loadAt t ux).run P w = .ok u w := by rw [← hux]; exact h1
      rw [hux] at hx
      clear h1
      have hp : ∃ ad, ux = .pointer (some ad) := by
        simp only [AOp.ev, AX.ev] at hev
        generalize Fr.get F x = ax at hev hx
        cases hx with
        | el row off b base f h3 h4 h5 => exact ⟨_, rfl⟩
        | ptr id off b h3 => exact ⟨_, rfl⟩
        | _ => cases hev
      obtain ⟨ad, rfl⟩ := hp
      simp only [resOne, hux, asAddr, Sem.run_bind, Sem.run_pure, Result.andThen_ok]
      simpa [Instr.loadAt, Instr.sureAddr] using h1'
    · cases he
theorem res_all (hF : FR g w N F a) (hW : WR g H w) : ∀ {rvs : List ResultVar} {rs : List ARes} {vs : List AV}, rvs.mapM (cRes P) = some rs → resL F H rs = some vs → ∃ us, (rvs.mapM (resOne a.tmps)).run P w = .ok us w ∧ VRs g w vs us
  | [], rs, vs, h1, h2 => by
    simp at h1
    subst h1
    simp [resL] at h2
    subst h2
    exact ⟨[], by simp, .nil⟩
  | rv :: rvs, rs, vs, h1, h2 => by
    simp only [List.mapM_cons] at h1
    obtain ⟨r, hr, h1⟩ := bindS h1
    obtain ⟨rs', hrs, h1⟩ := bindS h1
    simp at h1
    subst h1
    simp only [resL] at h2
    split at h2
    · rename_i v hv
      split at h2
      · rename_i vs' hvs
        simp only [Option.some.injEq] at h2
        subst h2
        obtain ⟨u, k1, k2⟩ := res_ev hF hW hr hv
        obtain ⟨us, k3, k4⟩ := res_all hF hW hrs hvs
        refine ⟨u :: us, ?_, k4.cons k2⟩
        simp only [List.mapM_cons, Sem.run_bind, k1, Result.andThen_ok, k3, Sem.run_pure]
      · cases h2
    · cases h2
theorem resL_len : ∀ {rs : List ARes} {vs : List AV}, resL F H rs = some vs → vs.length = rs.length
  | [], vs, h => by simp [resL] at h; subst h; rfl
  | r :: rs, vs, h => by
    simp only [resL] at h
    split at h
    · split at h
      · rename_i vs' hvs
        simp only [Option.some.injEq] at h
        subst h
        simp [resL_len hvs]
      · cases h
    · cases h
theorem res_sound (hF : FR g w N F a) (hW : WR g H w) {fn : Func} {rs : List ARes} {r : AV} (hrs : fn.results.toList.mapM (cRes P) = some rs) (hr : resA F H rs = some r) : ∃ u, (results fn a.tmps).run P w = .ok u w ∧ VR g w r u := by
  have hlen := (mapM_get hrs).1
  have key : ∀ vs, resL F H rs = some vs → ∃ us, (results fn a.tmps).run P w = .ok (if h : us.toArray.size = 1 then us.toArray[0] else .tuple us.toArray) w ∧ VRs g w vs us := by
    intro vs hvs
    obtain ⟨us, k1, k2⟩ := res_all hF hW hrs hvs
    refine ⟨us, ?_, k2⟩
    rw [results_eq, Array.mapM_eq_mapM_toList, map_eq_pure_bind]
    simp only [Sem.run_bind, k1, Result.andThen_ok, Sem.run_pure]
  unfold resA at hr
  split at hr
  · rename_i r0
    obtain ⟨us, k1, k2⟩ := key [r] (by simp [resL, hr])
    have hl : us.length = 1 := by have := k2.1; simpa using this.symm
    obtain ⟨u, rfl⟩ := List.length_eq_one_iff.1 hl
    refine ⟨u, by simpa using k1, k2.2 0 _ _ rfl rfl⟩
  · rename_i hne
    split at hr
    · rename_i vs hvs
      simp only [Option.some.injEq] at hr
      subst hr
      obtain ⟨us, k1, k2⟩ := key vs hvs
      have hl : us.length ≠ 1 := by
        intro h
        have h1 : rs.length = 1 := by rw [← resL_len hvs, k2.1, h]
        obtain ⟨r0, hr0⟩ := List.length_eq_one_iff.1 h1
        exact hne r0 hr0
      refine ⟨.tuple us.toArray, ?_, .tup _ _ (by simpa using k2.1) (fun i x u hx hu => k2.2 i x u hx (by simpa using hu))⟩
      rw [k1]
      simp [hl]
    · cases hr
theorem fn_sound (hE : ∀ t ks, eqT t = some ks → EqOk P t ks) {f : FuncId} {ac : ACode} {rs : List ARes} {args : List AV} {H : AHeap} {R : AV → AHeap → Prop} (hc : cFn P eqT f = some (ac, rs, N)) (hn : args.length ≤ N) (h : AW P ac (RetQ rs R) (argsFr 0 args) H) : Sound P f args H R := by
  unfold cFn at hc
  obtain ⟨fn, hfn, hc⟩ := bindS hc
  obtain ⟨c, hb, hc⟩ := bindS hc
  split at hc
  · cases hc
  · rename_i hname
    obtain ⟨ac', hac, hc⟩ := bindS hc
    obtain ⟨rs', hrs, hc⟩ := bindS hc
    simp only [Option.some.injEq, Prod.mk.injEq] at hc
    obtain ⟨rfl, rfl, rfl⟩ := hc
    refine ⟨⟨fn, hfn, by rw [hb]; rfl, by simpa using hname⟩, fun g w vs hW hV => ?_⟩
    refine calls_of_wp hfn hb ?_
    have hl : vs.length = args.length := hV.1.symm
    have hF : FR g w fn.ntmps (argsFr 0 args) { tmps := vs.toArray ++ Array.replicate (fn.ntmps - vs.toArray.size) undef, defers := [] } := by
      refine ⟨by simp; omega, rfl, fun t => ?_⟩
      rw [argsFr_get]
      simp only [Nat.zero_le, if_true, Nat.sub_zero]
      by_cases ht : t < args.length
      · have ht2 : t < vs.length := by omega
        rw [List.getElem?_eq_getElem ht]
        have e : (vs.toArray ++ Array.replicate (fn.ntmps - vs.toArray.size) undef).getD t undef = vs[t] := by
          simp [Array.getD, Array.getElem_append, ht2]
          intro h
          omega
        simp only [Option.getD_some]
        rw [e]
        exact hV.2 t _ _ (List.getElem?_eq_getElem ht) (List.getElem?_eq_getElem ht2)
      · rw [List.getElem?_eq_none (by omega)]
        exact .any _
    refine wp_mono (code_sound hE c ac' hac _ _ H g w _ hF hW h) (fun e a' w' ⟨e', F', H', g', he, hQ, k1, k2, k3⟩ => ?_)
    have fin : (match resA F' H' rs' with | some r => ∃ r2 H2, RStep r H' r2 H2 ∧ R r2 H2 | none => False) → a'.defers = [] ∧ ∃ v, (results fn a'.tmps).run P w' = .ok v w' ∧ ∃ v2 r H2 g2, Ending.returned v = .returned v2 ∧ R r H2 ∧ VR g2 w' r v2 ∧ WR g2 H2 w' ∧ Stp g H w g2 H2 w' := by
      intro hq
      split at hq
      · rename_i r hr
        obtain ⟨r2, H2, hrs2, hR⟩ := hq
        obtain ⟨u, j1, j2⟩ := res_sound k1 k2 hrs hr
        obtain ⟨g2, j3, j4, j5⟩ := hrs2 g' w' u j2 k2
        exact ⟨k1.df, u, j1, u, r2, H2, g2, rfl, hR, j3, j4, k3.trans j5⟩
      · exact hq.elim
    cases e with
    | normal =>
      cases e' with
      | normal => exact fin hQ
      | _ => exact he.elim
    | ret =>
      cases e' with
      | ret => exact fin hQ
      | _ => exact he.elim
    | exit i =>
      cases e' with
      | exit j => exact hQ.elim
      | _ => exact he.elim
    | _ => cases e' <;> exact he.elim

/-! what is known, known otherwise -/
theorem GStep.refl (F : Fr) (H : AHeap) : GStep F H F H := fun _ g _ _ hF hW => ⟨g, hF, hW, .refl _ _ _⟩
theorem GStep.trans {F1 F2 F3 : Fr} {H1 H2 H3 : AHeap} (h : GStep F1 H1 F2 H2) (k : GStep F2 H2 F3 H3) : GStep F1 H1 F3 H3 := fun N g w a hF hW => by
  obtain ⟨g1, h1, h2, h3⟩ := h N g w a hF hW
  obtain ⟨g2, k1, k2, k3⟩ := k N g1 w a h1 h2
  exact ⟨g2, k1, k2, h3.trans k3⟩
/-- slots are forgotten -/
theorem GStep.fr {F F' : Fr} {H : AHeap} (h : ∀ p ∈ F', Fr.get F p.1 = p.2) : GStep F H F' H := fun N g w a hF hW => by
  refine ⟨g, ⟨hF.size, hF.df, fun t => ?_⟩, hW, .refl _ _ _⟩
  have : Fr.get F' t = .any ∨ Fr.get F' t = Fr.get F t := by
    clear hF
    induction F' with
    | nil => exact .inl rfl
    | cons p F' ih =>
      obtain ⟨k, x⟩ := p
      simp only [Fr.get]
      by_cases e : t = k
      · subst e
        right
        rw [if_pos rfl]
        exact (h (t, x) (by simp)).symm
      · rw [if_neg e]
        exact ih (fun p hp => h p (by simp [hp]))
  rcases this with h | h
  · rw [h]; exact .any _
  · rw [h]; exact hF.get t
theorem drop_ok {H H2 : AHeap} (hW : WR g H w) (h1 : ∀ i o, H2.get i = some o → H.get i = some o) (h2 : H.next ≤ H2.next) : WR g H2 w ∧ Stp g H w g H2 w :=
  ⟨⟨fun id o h => hW.obj id o (h1 id o h), fun i i' o o' b a1 a2 => hW.inj i i' o o' b (h1 _ _ a1) (h1 _ _ a2), fun id hid => hW.dom id (by omega), fun id o b h => hW.bd id o b (h1 _ _ h), hW.ro⟩,
   ⟨.refl _ _, h2, rfl, rfl, rfl, Nat.le_refl _, fun _ _ _ => rfl, fun b _ ⟨i, o, a1, a2⟩ => ⟨i, o, h1 _ _ a1, a2⟩, fun _ _ _ h => .inl h⟩⟩
/-- objects are forgotten -/
theorem GStep.drop {F : Fr} {H H2 : AHeap} (h1 : ∀ i o, H2.get i = some o → H.get i = some o) (h2 : H.next ≤ H2.next) : GStep F H F H2 := fun N g w a hF hW => by
  obtain ⟨k1, k2⟩ := drop_ok hW h1 h2
  exact ⟨g, hF, k1, k2⟩
theorem GStep.ext {F : Fr} {H H2 : AHeap} (h : AHeap.Ext H2 H) : GStep F H F (H2.bump (H.next - H2.next)) := GStep.drop (fun i o hi => h.get i o hi) (by have := h.next; simp; omega)
/-- a nil slice may be appended to -/
theorem GStep.tok {F : Fr} {H : AHeap} (x E sz : Nat) (hx : Fr.get F x = .sl .full []) : GStep F H (Fr.put F (some x) (.sl (.own H.next) [])) (H.alloc (.tok 0 E sz)) := fun N g w a hF hW => by
  have hdom := hW.dom H.next (Nat.le_refl _)
  let g' : Gh := { g with τ := fun i => if i = H.next then some (0, 0, 0) else g.τ i }
  have hle : g.le g' w w := ⟨fun _ _ h => h, fun i fr c b h => by
    have : i ≠ H.next := by rintro rfl; rw [hdom.2.1] at h; cases h
    exact ⟨fr, c, b, by simp [g', this, h], .inr ⟨rfl, rfl, rfl⟩⟩, fun _ _ _ h => h, fun _ _ h => h, fun _ _ _ => rfl⟩
  have hown : ∀ id o b, id < H.next → (Owns g' id o b ↔ Owns g id o b) := fun id o b hl => Owns.le (by simp [g']; omega) rfl
  have hnew : ∀ b, ¬ Owns g' H.next (.tok 0 E sz) b := by
    rintro b ⟨fr, c, h, hc⟩
    simp [g'] at h
    omega
  have hget : ∀ id o', (H.alloc (.tok 0 E sz)).get id = some o' → (id = H.next ∧ o' = .tok 0 E sz) ∨ (id < H.next ∧ H.get id = some o') := by
    intro id o' h
    by_cases e : id = H.next
    · subst e; rw [AHeap.get_alloc_self] at h; injection h with h; exact .inl ⟨rfl, h.symm⟩
    · rw [AHeap.get_alloc_ne e] at h; exact .inr ⟨AHeap.lt h, h⟩
  refine ⟨g', ?_, ⟨fun id o' h => ?_, fun id id' o1 o2 b h1 h2 h3 h4 => ?_, fun id hid => ?_, fun id o' b h1 h2 => ?_, hW.ro⟩, ⟨hle, Nat.le_succ _, rfl, rfl, rfl, Nat.le_refl _, fun _ _ _ => rfl, fun b hb ⟨id, o', h1, h2⟩ => ?_, fun _ _ _ h => .inl h⟩⟩
  · have hF' := hF.mono hle
    refine ⟨hF'.size, hF'.df, fun t => ?_⟩
    rw [Fr.get_put]
    by_cases e : x = t
    · subst e
      rw [if_pos rfl]
      have hv := hF'.get x
      rw [hx] at hv
      generalize a.tmps.getD x undef = u at hv
      cases hv with
      | sl _ _ A c sz' b o f hc hm hA hsz hcell hval ht =>
        exact .sl _ [] A c sz' b o f hc hm hA hsz hcell hval ⟨0, 0, 0, by simp [g'], Nat.le_refl _, fun _ => ⟨ht, fun h => by omega⟩⟩
    · rw [if_neg (fun h => e (by injection h))]
      exact hF'.get t
  · rcases hget id o' h with ⟨rfl, rfl⟩ | ⟨hl, h⟩
    · exact ⟨0, 0, by simp [g'], Nat.le_refl _, by unfold maxLen; omega, fun h => by omega⟩
    · exact (hW.obj id o' h).mono hle (fun _ _ => rfl) (fun _ _ _ h => h) (by simp [g']; omega) rfl (fun _ => rfl)
  · rcases hget id o1 h1 with ⟨rfl, rfl⟩ | ⟨hl, k1⟩
    · exact absurd h3 (hnew b)
    · rcases hget id' o2 h2 with ⟨rfl, rfl⟩ | ⟨hl2, k2⟩
      · exact absurd h4 (hnew b)
      · exact hW.inj id id' o1 o2 b k1 k2 ((hown id o1 b hl).1 h3) ((hown id' o2 b hl2).1 h4)
  · simp only [AHeap.next_alloc] at hid
    have h := hW.dom id (by omega)
    refine ⟨h.1, ?_, h.2.2⟩
    simp [g', h.2.1]; omega
  · rcases hget id o' h1 with ⟨rfl, rfl⟩ | ⟨hl, h1⟩
    · exact absurd h2 (hnew b)
    · exact hW.bd id o' b h1 ((hown id o' b hl).1 h2)
  · rcases hget id o' h1 with ⟨rfl, rfl⟩ | ⟨hl, h1⟩
    · exact absurd h2 (hnew b)
    · exact ⟨id, o', h1, (hown id o' b hl).1 h2⟩
/-- a value whose slices are not appended to any more -/
def AV.weak1 : AV → AV
  | .sl _ rows => .sl .no rows
  | a => a
def AV.weak : AV → AV
  | .agg cs => .agg (cs.map AV.weak1)
  | .tup vs => .tup (vs.map fun | .agg cs => .agg (cs.map AV.weak1) | a => a.weak1)
  | a => a.weak1
theorem VR.weak1 {r : AV} {v : Value} (h : VR g w r v) : VR g w r.weak1 v := by
  cases h with
  | sl tok rows A c sz b o f hc hm hA hsz hcell hv ht => exact .sl .no rows A c sz b o f hc hm hA hsz hcell hv trivial
  | any v => exact .any v
  | ub b => exact .ub b
  | sc v => exact .sc v
  | el row off b base f h1 h2 h3 => exact .el row off b base f h1 h2 h3
  | ptr id off b h => exact .ptr id off b h
  | arr id off len cap b h hc hm => exact .arr id off len cap b h hc hm
  | agg cs vs hl hone hv => exact .agg cs vs hl hone hv
  | tup cs vs hl hv => exact .tup cs vs hl hv
  | mp id b h => exact .mp id b h
  | stp id key n h => exact .stp id key n h
  | fn f first caps vf vc h1 h2 h3 h4 => exact .fn f first caps vf vc h1 h2 h3 h4
theorem weak1_one (r : AV) : r.weak1.one = r.one := by cases r <;> rfl
theorem VR.weakA {cs : List AV} {v : Value} (h : VR g w (.agg cs) v) : VR g w (.agg (cs.map AV.weak1)) v := by
  cases h with
  | agg _ vs hl hone hv =>
    refine .agg _ vs (by simpa using hl) (fun x hx => ?_) (fun i x u hx hu => ?_)
    · obtain ⟨y, hy, rfl⟩ := List.mem_map.1 hx
      rw [weak1_one]; exact hone y hy
    · rw [List.getElem?_map] at hx
      cases hy : cs[i]? with
      | none => rw [hy] at hx; cases hx
      | some y => rw [hy] at hx; simp at hx; subst hx; exact (hv i y u hy hu).weak1
theorem VR.weak {r : AV} {v : Value} (h : VR g w r v) : VR g w r.weak v := by
  cases h with
  | agg cs vs hl hone hv => exact (VR.agg cs vs hl hone hv).weakA
  | tup cs vs hl hv =>
    refine .tup _ vs (by simpa using hl) (fun i x u hx hu => ?_)
    rw [List.getElem?_map] at hx
    cases hy : cs[i]? with
    | none => rw [hy] at hx; cases hx
    | some y =>
      rw [hy] at hx
      simp at hx
      subst hx
      have := hv i y u hy hu
      split
      · exact this.weakA
      · exact this.weak1
  | any v => exact .any v
  | ub b => exact .ub b
  | sc v => exact .sc v
  | sl tok rows A c sz b o f hc hm hA hsz hcell hv ht => exact (VR.sl tok rows A c sz b o f hc hm hA hsz hcell hv ht).weak1
  | el row off b base f h1 h2 h3 => exact .el row off b base f h1 h2 h3
  | ptr id off b h => exact .ptr id off b h
  | arr id off len cap b h hc hm => exact .arr id off len cap b h hc hm
  | mp id b h => exact .mp id b h
  | stp id key n h => exact .stp id key n h
  | fn f first caps vf vc h1 h2 h3 h4 => exact .fn f first caps vf vc h1 h2 h3 h4
theorem RStep.of {r : AV} {H H2 : AHeap} (h1 : ∀ i o, H2.get i = some o → H.get i = some o) (h2 : H.next ≤ H2.next) : RStep r H r.weak H2 := fun g w v hv hW => by
  obtain ⟨k1, k2⟩ := drop_ok hW h1 h2
  exact ⟨g, hv.weak, k1, k2⟩
theorem RStep.keep {r : AV} {H H2 : AHeap} (h1 : ∀ i o, H2.get i = some o → H.get i = some o) (h2 : H.next ≤ H2.next) : RStep r H r H2 := fun g w v hv hW => by
  obtain ⟨k1, k2⟩ := drop_ok hW h1 h2
  exact ⟨g, hv, k1, k2⟩
theorem RStep.ext {r : AV} {H H2 : AHeap} (h : AHeap.Ext H2 H) : RStep r H r.weak (H2.bump (H.next - H2.next)) := RStep.of (fun i o hi => h.get i o hi) (by have := h.next; simp; omega)
end
end Go.Proofs.Ytgnpihhakogeeaa
