/- The abstract machine is sound: every instruction. -/
import Derived.Test.YtgnpihhakogeeaaBc
namespace Go.Proofs.Ytgnpihhakogeeaa
set_option linter.unusedSimpArgs false
set_option linter.unusedVariables false
open Go.RowKit

section
variable {P : Program} {g g' : Gh} {H H' : AHeap} {w w' : World} {N : Nat} {F : Fr} {a : Act}
theorem lnA_ok (hW : WR g H w) {t ty e : TypeId} {n : Nat} {u : Value} {v : AV} (hu : P.underlying t = some (.array n e)) (he : AOp.ev F H (.lnA n) = some (v, H')) : DoesV P g H w (Builtin.len_ #[t] ty #[u]) v H' := by
  simp only [AOp.ev, Option.some.injEq, Prod.mk.injEq] at he
  obtain ⟨rfl, rfl⟩ := he
  exact .here (u := .int .i64 n) (by simp [Builtin.len_, run_underlying hu, goInt]) (.sc _) hW
theorem pick_ok (hW : WR g H w) {x y z v : AV} {u r q : Value} (hx : VR g w x u) (hy : VR g w y r) (hz : VR g w z q) (he : AOp.ev F H (.pick (.c x) (.c y) (.c z)) = some (v, H')) : Does P g H w (do pure (.value (if ← asBool u then r else q)) : Sem Next) v H' := by
  simp only [AOp.ev, AX.ev] at he
  split at he
  · rename_i t
    cases hx
    simp only [Option.some.injEq, Prod.mk.injEq] at he
    obtain ⟨rfl, rfl⟩ := he
    cases t
    · exact ⟨_, q, w, g, by simp [asBool], .inl rfl, hz, hW, .refl _ _ _⟩
    · exact ⟨_, r, w, g, by simp [asBool], .inl rfl, hy, hW, .refl _ _ _⟩
  · cases he
theorem info_of {t : TypeId} {s : Nat} (h : tySz P t = some s) : ∃ i, P.info? t = some i ∧ i.size = s := by
  unfold tySz at h
  cases hi : P.info? t with
  | none => rw [hi] at h; cases h
  | some i => rw [hi] at h; simp at h; exact ⟨i, rfl, h⟩
theorem zero_of {t : TypeId} {z : Value} (h : tyZero P t = some z) : ∃ i, P.info? t = some i ∧ i.zero = some z := by
  unfold tyZero at h
  cases hi : P.info? t with
  | none => rw [hi] at h; cases h
  | some i => rw [hi] at h; exact ⟨i, rfl, by simpa using h⟩
theorem bindS {α β : Type} {x : Option α} {f : α → Option β} {b : β} (h : (x >>= f) = some b) : ∃ a, x = some a ∧ f a = some b := by
  cases x with
  | none => cases h
  | some a => exact ⟨a, rfl, h⟩
theorem len_typed (hW : WR g H w) {t ty : TypeId} {d : TypeDesc} {x v : AV} {u : Value} (hu : P.underlying t = some d) (hd : (∃ e, d = .slice e) ∨ d = .string) (hx : VR g w x u) (he : AOp.ev F H (.len (bif (match d with | .string => true | _ => false) then true else false) (.c x)) = some (v, H')) : DoesV P g H w (Builtin.len_ #[t] ty #[u]) v H' := by
  simp only [AOp.ev, AX.ev] at he
  rcases hd with ⟨e, rfl⟩ | rfl
  · simp only [cond_false] at he
    cases hx with
    | sl tok rows A c sz b o f hc hm hA hsz hcell hv ht =>
      simp only [Option.some.injEq, Prod.mk.injEq] at he
      obtain ⟨rfl, rfl⟩ := he
      exact .here (by simp [Builtin.len_, run_underlying hu, goInt]) (.sc _) hW
    | arr id off len cap b h hc hm =>
      simp only [Option.some.injEq, Prod.mk.injEq] at he
      obtain ⟨rfl, rfl⟩ := he
      exact .here (by simp [Builtin.len_, run_underlying hu, goInt]) (.sc _) hW
    | _ => cases he
  · simp only [cond_true] at he
    cases hx with
    | sc u =>
      cases u with
      | string s =>
        simp only [Option.some.injEq, Prod.mk.injEq] at he
        obtain ⟨rfl, rfl⟩ := he
        exact .here (by simp [Builtin.len_, run_underlying hu, goInt]) (.sc _) hW
      | _ => cases he
    | _ => cases he
theorem eqs_ok (hW : WR g H w) {t e : TypeId} {neg : Bool} {x v : AV} {u : Value} {ox oy : Operand} (hu : P.underlying t = some (.slice e)) (hx : VR g w x u) (he : AOp.ev F H (.eqs neg (.c x)) = some (v, H')) :
    DoesV P g H w (do eqGuard (bif neg then .neq else .eql) t ox oy u (.slice none 0 0); binOp (bif neg then .neq else .eql) t u (.slice none 0 0)) v H' := by
  have heq : ∀ A n c, (Op.equal t (.slice A n c) (.slice none 0 0)).run P w = .ok A.isNone w := fun A n c => equal_run fun k => by
    cases A <;> simp [Op.equalIn, run_underlying hu]
  have hg : ∀ A n c op, (eqGuard op t ox oy (.slice A n c) (.slice none 0 0)).run P w = .ok () w := fun A n c op => by cases op <;> simp [eqGuard]
  simp only [AOp.ev, AX.ev] at he
  split at he
  · simp only [Option.some.injEq, Prod.mk.injEq] at he
    obtain ⟨rfl, rfl⟩ := he
    cases hx with
    | sl _ _ A c sz b o f hc hm hA hsz hcell hv ht => exact .here (eqn_fin (hg _ _ _) rfl rfl (heq _ _ _)) (.ub _) hW
  · simp only [Option.some.injEq, Prod.mk.injEq] at he
    obtain ⟨rfl, rfl⟩ := he
    cases hx with
    | sl _ _ A c sz b o f hc hm hA hsz hcell hv ht =>
      have := hA (by simp)
      subst this
      exact .here (eqn_fin (hg _ _ _) rfl rfl (heq _ _ _)) (.sc _) hW
  · simp only [Option.some.injEq, Prod.mk.injEq] at he
    obtain ⟨rfl, rfl⟩ := he
    cases hx with
    | arr id off len cap b h hc hm => exact .here (eqn_fin (hg _ _ _) rfl rfl (heq _ _ _)) (.sc _) hW
  · cases he
theorem cap_ok (hW : WR g H w) {t ty e : TypeId} {x v : AV} {u : Value} (hu : P.underlying t = some (.slice e)) (hx : VR g w x u) (he : AOp.ev F H (.cap (.c x)) = some (v, H')) : DoesV P g H w (Builtin.cap_ #[t] ty #[u]) v H' := by
  simp only [AOp.ev, AX.ev] at he
  split at he
  · simp only [Option.some.injEq, Prod.mk.injEq] at he
    obtain ⟨rfl, rfl⟩ := he
    cases hx with
    | sl _ _ A c sz b o f hc hm hA hsz hcell hv ht =>
      have : c = _ := ht
      subst this
      exact .here (by simp [Builtin.cap_, run_underlying hu, goInt]) (.sc _) hW
  · simp only [Option.some.injEq, Prod.mk.injEq] at he
    obtain ⟨rfl, rfl⟩ := he
    cases hx with
    | arr id off len cap b h hc hm => exact .here (by simp [Builtin.cap_, run_underlying hu, goInt]) (.sc _) hW
  · cases he
theorem op_sound {eqT : TypeId → Option (List SK)} (hE : ∀ t ks, eqT t = some ks → EqOk P t ks) (o : Oper) {ao : AOp} {v : AV} (hc : cOp P eqT o.op = some ao) (hF : FR g w N F a) (hW : WR g H w) (he : AOp.ev F H ao = some (v, H')) : Does P g H w (execOp a.eval o) v H' := by
  obtain ⟨dst, op, type, pos, after, guard⟩ := o
  simp only at hc
  cases op with
  | move x =>
    simp only [cOp, Option.some.injEq] at hc
    subst hc
    simp only [AOp.ev, Option.some.injEq, Prod.mk.injEq] at he
    obtain ⟨rfl, rfl⟩ := he
    exact .pure (cX_ok hF x) hW
  | assign x =>
    simp only [cOp, Option.some.injEq] at hc
    subst hc
    simp only [AOp.ev, Option.some.injEq, Prod.mk.injEq] at he
    obtain ⟨rfl, rfl⟩ := he
    exact .pure (cX_ok hF x) hW
  | pick c x y =>
    simp only [cOp, Option.some.injEq] at hc
    subst hc
    exact pick_ok (F := F) hW (cX_ok hF c) (cX_ok hF x) (cX_ok hF y) he
  | alloc E =>
    simp only [cOp] at hc
    obtain ⟨z, hz, hc⟩ := bindS hc
    simp only [Option.some.injEq] at hc
    subst hc
    obtain ⟨i, hi, hz⟩ := zero_of hz
    have := box_ok (P := P) (F := F) (E := E) hW (ofConst_ok z) he
    obtain ⟨u, w', g', h1, h2⟩ := this
    refine DoesV.does ⟨u, w', g', ?_, h2⟩
    simp [Instr.box] at h1
    simp [Instr.alloc, zeroValue, typeInfo, hi, hz, h1]
  | box E x =>
    simp only [cOp, Option.some.injEq] at hc
    subst hc
    exact (box_ok (P := P) (F := F) hW (cX_ok hF x) he).does
  | build t parts =>
    simp only [cOp] at hc
    obtain ⟨z, hz, hc⟩ := bindS hc
    obtain ⟨zc, hzc, hc⟩ := bindS hc
    obtain ⟨d, hu, hc⟩ := bindS hc
    obtain ⟨i, hi, hz⟩ := zero_of hz
    cases d with
    | struct fs =>
      simp only at hc
      split at hc
      · rename_i hall
        obtain ⟨ps, hps, hc⟩ := bindS hc
        simp only [Option.some.injEq] at hc
        subst hc
        exact (bld_ok (P := P) (F := F) hF hW hi hz hzc (.inl ⟨fs, hu, hall, hps⟩) he).does
      · cases hc
    | array n e =>
      simp only at hc
      obtain ⟨s, hs, hc⟩ := bindS hc
      obtain ⟨ps, hps, hc⟩ := bindS hc
      simp only [Option.some.injEq] at hc
      subst hc
      exact (bld_ok (P := P) (F := F) hF hW hi hz hzc (.inr ⟨n, e, s, hu, hs, hps⟩) he).does
    | _ => cases hc
  | buildSlice t len parts =>
    simp only [cOp] at hc
    obtain ⟨d, hu, hc⟩ := bindS hc
    cases d with
    | slice e =>
      simp only at hc
      obtain ⟨s, hs, hc⟩ := bindS hc
      obtain ⟨z, hz, hc⟩ := bindS hc
      split at hc
      · rename_i hcd
        simp only [Option.some.injEq] at hc
        subst hc
        obtain ⟨i, hi, hz⟩ := zero_of hz
        obtain ⟨i', hi', hs⟩ := info_of hs
        rw [hi] at hi'
        injection hi' with hi'
        subst hi'
        exact (bsl_ok (P := P) (F := F) hF hW hu hi hz hs hcd.2.1 hcd.1 hcd.2.2.1 hcd.2.2.2 he).does
      · cases hc
    | _ => cases hc
  | load t x =>
    simp only [cOp] at hc
    obtain ⟨s, hs, hc⟩ := bindS hc
    obtain ⟨ag, ha, hc⟩ := bindS hc
    simp only [Option.some.injEq] at hc
    subst hc
    obtain ⟨rfl, r, h1, h2⟩ := ld_ok (P := P) (F := F) hW hs ha (cX_ok hF x) he
    exact .still h1 h2 hW
  | store t x y =>
    simp only [cOp] at hc
    obtain ⟨s, hs, hc⟩ := bindS hc
    simp only [Option.some.injEq] at hc
    subst hc
    obtain ⟨rfl, h⟩ := st_ok (P := P) (F := F) hW hs (cX_ok hF x) (cX_ok hF y) he
    exact h.does
  | nilCheck x =>
    simp only [cOp, Option.some.injEq] at hc
    subst hc
    exact nck_ok (F := F) hW (cX_ok hF x) he _ x rfl rfl
  | binOp op t x y t' =>
    simp only [cOp] at hc
    obtain ⟨d, hu, hc⟩ := bindS hc
    cases d with
    | int k =>
      simp only [Option.some.injEq] at hc
      subst hc
      exact (bin_ok (P := P) (F := F) (t := t) hW (cX_ok hF x) (cX_ok hF y) he).does
    | string =>
      simp only [Option.some.injEq] at hc
      subst hc
      exact (bin_ok (P := P) (F := F) (t := t) hW (cX_ok hF x) (cX_ok hF y) he).does
    | bool =>
      cases op <;> simp only [Option.some.injEq] at hc <;> first
        | (subst hc; exact (bnb_ok (neg := false) (P := P) (F := F) hW hu (cX_ok hF x) (cX_ok hF y) he).does)
        | (subst hc; exact (bnb_ok (neg := true) (P := P) (F := F) hW hu (cX_ok hF x) (cX_ok hF y) he).does)
        | cases hc
    | pointer e =>
      cases op <;> simp only [Option.some.injEq] at hc <;> first
        | (subst hc; exact (eqn_ok (neg := false) (P := P) (F := F) hW hu (.inl ⟨rfl, _, rfl⟩) (cX_ok hF x) (cX_ok hF y) he).does)
        | (subst hc; exact (eqn_ok (neg := true) (P := P) (F := F) hW hu (.inl ⟨rfl, _, rfl⟩) (cX_ok hF x) (cX_ok hF y) he).does)
        | cases hc
    | map k e =>
      cases op <;> simp only [Option.some.injEq] at hc <;> first
        | (subst hc; exact (eqn_ok (neg := false) (P := P) (F := F) hW hu (.inr (.inl ⟨rfl, _, _, rfl⟩)) (cX_ok hF x) (cX_ok hF y) he).does)
        | (subst hc; exact (eqn_ok (neg := true) (P := P) (F := F) hW hu (.inr (.inl ⟨rfl, _, _, rfl⟩)) (cX_ok hF x) (cX_ok hF y) he).does)
        | cases hc
    | slice e =>
      simp only at hc
      split at hc
      · rename_i hnil
        have hy : a.eval y = .slice none 0 0 := by
          unfold isNilC at hnil
          split at hnil
          · rfl
          · cases hnil
        cases op <;> simp only [eqsOp, Option.some.injEq] at hc <;> first
          | (subst hc; have := (eqs_ok (neg := false) (P := P) (F := F) (ox := x) (oy := y) hW hu (cX_ok hF x) he).does; rw [← hy] at this; exact this)
          | (subst hc; have := (eqs_ok (neg := true) (P := P) (F := F) (ox := x) (oy := y) hW hu (cX_ok hF x) he).does; rw [← hy] at this; exact this)
          | cases hc
      · cases hc
    | func p q z =>
      cases op <;> simp only [Option.some.injEq] at hc <;> first
        | (subst hc; exact (eqn_ok (neg := false) (P := P) (F := F) hW hu (.inr (.inr ⟨rfl, _, _, _, rfl⟩)) (cX_ok hF x) (cX_ok hF y) he).does)
        | (subst hc; exact (eqn_ok (neg := true) (P := P) (F := F) hW hu (.inr (.inr ⟨rfl, _, _, _, rfl⟩)) (cX_ok hF x) (cX_ok hF y) he).does)
        | cases hc
    | struct fs =>
      simp only at hc
      split at hc
      · cases hc
      · rename_i hg
        obtain ⟨ks, hks, hc⟩ := bindS hc
        cases op <;> simp only [Option.some.injEq] at hc <;> first
          | (subst hc; exact (eqf_ok (neg := false) (P := P) (F := F) hW (hE t ks hks) (by simpa using hg) (cX_ok hF x) (cX_ok hF y) he).does)
          | (subst hc; exact (eqf_ok (neg := true) (P := P) (F := F) hW (hE t ks hks) (by simpa using hg) (cX_ok hF x) (cX_ok hF y) he).does)
          | cases hc
    | array n e =>
      simp only at hc
      split at hc
      · cases hc
      · rename_i hg
        obtain ⟨ks, hks, hc⟩ := bindS hc
        cases op <;> simp only [Option.some.injEq] at hc <;> first
          | (subst hc; exact (eqf_ok (neg := false) (P := P) (F := F) hW (hE t ks hks) (by simpa using hg) (cX_ok hF x) (cX_ok hF y) he).does)
          | (subst hc; exact (eqf_ok (neg := true) (P := P) (F := F) hW (hE t ks hks) (by simpa using hg) (cX_ok hF x) (cX_ok hF y) he).does)
          | cases hc
    | _ => cases hc
  | unOp op t x =>
    simp only [cOp, Option.some.injEq] at hc
    subst hc
    exact (un_ok (P := P) (F := F) hW (cX_ok hF x) he).does
  | convert src dst x =>
    simp only [cOp] at hc
    obtain ⟨d1, h1, hc⟩ := bindS hc
    obtain ⟨d2, h2, hc⟩ := bindS hc
    split at hc
    · simp only [Option.some.injEq] at hc
      subst hc
      exact (cnv_ok (P := P) (F := F) hW h1 h2 (cX_ok hF x) he).does
    · simp only [Option.some.injEq] at hc
      subst hc
      exact (cvs_ok (P := P) (F := F) hW h1 h2 (cX_ok hF x) he).does
    · split at hc
      · rename_i h3
        simp only [Option.some.injEq] at hc
        subst hc
        exact (sob_ok (P := P) (F := F) hW h1 h2 h3 (cX_ok hF x) he).does
      · cases hc
    · cases hc
  | makeFunc fn first caps =>
    cases fn with
    | func f =>
      simp only [cOp, Option.some.injEq] at hc
      subst hc
      have := mkf_ok (P := P) (F := F) hW (cXs_ok hF first.toList) (cXs_ok hF caps.toList) he
      have e1 : (first.toList.map a.eval).toArray = first.map a.eval := by apply Array.ext'; simp
      have e2 : (caps.toList.map a.eval).toArray = caps.map a.eval := by apply Array.ext'; simp
      rw [e1, e2] at this
      exact this.does
    | _ => cases hc
  | makeSlice t l c =>
    simp only [cOp] at hc
    obtain ⟨d, hu, hc⟩ := bindS hc
    cases d with
    | slice e =>
      simp only at hc
      obtain ⟨i, hi, hc⟩ := bindS hc
      obtain ⟨z, hz, hc⟩ := bindS hc
      obtain ⟨zc, hzc, hc⟩ := bindS hc
      split at hc
      · rename_i hcd
        simp only [Option.some.injEq] at hc
        subst hc
        exact (mks_ok (P := P) (F := F) hW hu hi hz hzc hcd.1 hcd.2 (cX_ok hF l) (cX_ok hF c) he).does
      · cases hc
    | _ => cases hc
  | slice t x lo hi mx =>
    simp only [cOp] at hc
    obtain ⟨d, hu, hc⟩ := bindS hc
    cases d with
    | slice e =>
      simp only at hc
      obtain ⟨s, hs, hc⟩ := bindS hc
      split at hc
      · cases hc
      · rename_i hmh
        simp only [Option.some.injEq] at hc
        subst hc
        exact (slc_ok (P := P) (F := F) hF hW hu hs hmh (cX_ok hF x) he).does
    | string =>
      cases mx with
      | none =>
        simp only [Option.some.injEq] at hc
        subst hc
        exact (slS_ok (P := P) (F := F) hF hW hu (cX_ok hF x) he).does
      | some y => cases hc
    | _ => cases hc
  | fieldAddr s x f =>
    simp only [cOp] at hc
    obtain ⟨d, hu, hc⟩ := bindS hc
    cases d with
    | struct fs =>
      simp only at hc
      obtain ⟨fd, hf, hc⟩ := bindS hc
      obtain ⟨sz, hs, hc⟩ := bindS hc
      split at hc
      · cases hc
      · rename_i h0
        simp only [Option.some.injEq] at hc
        subst hc
        exact (fla_ok (P := P) (F := F) hW hu hf hs h0 (cX_ok hF x) he).does
    | _ => cases hc
  | field t x f =>
    simp only [cOp] at hc
    obtain ⟨d, hu, hc⟩ := bindS hc
    cases d with
    | struct fs =>
      simp only at hc
      obtain ⟨fd, hf, hc⟩ := bindS hc
      obtain ⟨s, hs, hc⟩ := bindS hc
      obtain ⟨ag, ha, hc⟩ := bindS hc
      simp only [Option.some.injEq] at hc
      subst hc
      exact (fld_ok (P := P) (F := F) hW hu hf hs ha (cX_ok hF x) he).does
    | _ => cases hc
  | indexAddr t x i =>
    simp only [cOp] at hc
    obtain ⟨d, hu, hc⟩ := bindS hc
    cases d with
    | slice e =>
      simp only at hc
      obtain ⟨s, hs, hc⟩ := bindS hc
      simp only [Option.some.injEq] at hc
      subst hc
      exact (ixa_ok (P := P) (F := F) hW hu hs (cX_ok hF x) (cX_ok hF i) he).does
    | array n e =>
      simp only at hc
      obtain ⟨s, hs, hc⟩ := bindS hc
      simp only [Option.some.injEq] at hc
      subst hc
      exact (ixA_ok (P := P) (F := F) hW hu hs (cX_ok hF x) (cX_ok hF i) he).does
    | _ => cases hc
  | index t x i =>
    simp only [cOp] at hc
    obtain ⟨d, hu, hc⟩ := bindS hc
    cases d with
    | array n e =>
      simp only at hc
      obtain ⟨s, hs, hc⟩ := bindS hc
      obtain ⟨ag, ha, hc⟩ := bindS hc
      simp only [Option.some.injEq] at hc
      subst hc
      exact (ixv_ok (P := P) (F := F) hW hu hs ha (cX_ok hF x) (cX_ok hF i) he).does
    | string =>
      simp only [Option.some.injEq] at hc
      subst hc
      exact (ixs_ok (P := P) (F := F) hW hu (cX_ok hF x) (cX_ok hF i) he).does
    | _ => cases hc
  | lookup t m k ok =>
    simp only [cOp] at hc
    obtain ⟨d, hu, hc⟩ := bindS hc
    cases d with
    | map kt et =>
      simp only at hc
      obtain ⟨kk, hk, hc⟩ := bindS hc
      obtain ⟨z, hz, hc⟩ := bindS hc
      simp only [Option.some.injEq] at hc
      subst hc
      exact (lkp_ok (P := P) (F := F) hW hu (keyK_ok hE hk) hz (cX_ok hF m) (cX_ok hF k) he).does
    | _ => cases hc
  | mapUpdate t m k x =>
    simp only [cOp] at hc
    obtain ⟨d, hu, hc⟩ := bindS hc
    cases d with
    | map kt et =>
      simp only at hc
      obtain ⟨kk, hk, hc⟩ := bindS hc
      simp only [Option.some.injEq] at hc
      subst hc
      obtain ⟨rfl, h⟩ := mup_ok (P := P) (F := F) hW hu (keyK_ok hE hk) (cX_ok hF m) (cX_ok hF k) (cX_ok hF x) he
      exact h.does
    | _ => cases hc
  | insert t m k x =>
    simp only [cOp] at hc
    obtain ⟨d, hu, hc⟩ := bindS hc
    cases d with
    | map kt et =>
      simp only at hc
      obtain ⟨kk, hk, hc⟩ := bindS hc
      simp only [Option.some.injEq] at hc
      subst hc
      obtain ⟨rfl, h⟩ := mup_ok (P := P) (F := F) hW hu (keyK_ok hE hk) (cX_ok hF m) (cX_ok hF k) (cX_ok hF x) he
      exact h.does
    | _ => cases hc
  | mapEntry t m k =>
    simp only [cOp] at hc
    obtain ⟨d, hu, hc⟩ := bindS hc
    cases d with
    | map kt et =>
      simp only at hc
      obtain ⟨kk, hk, hc⟩ := bindS hc
      obtain ⟨z, hz, hc⟩ := bindS hc
      simp only [Option.some.injEq] at hc
      subst hc
      exact (men_ok (P := P) (F := F) hW hu (keyK_ok hE hk) hz (cX_ok hF m) (cX_ok hF k) he).does
    | _ => cases hc
  | entryStore t m s x =>
    simp only [cOp, Option.some.injEq] at hc
    subst hc
    obtain ⟨rfl, h⟩ := est_ok (P := P) (F := F) (t := t) hW (cX_ok hF m) (cX_ok hF s) (cX_ok hF x) he
    exact h.does
  | makeMap t r =>
    cases r with
    | none =>
      simp only [cOp] at hc
      obtain ⟨d, hu, hc⟩ := bindS hc
      cases d with
      | map kt et =>
        simp only at hc
        obtain ⟨kk, hk, hc⟩ := bindS hc
        simp only [Option.some.injEq] at hc
        subst hc
        exact (mkm_ok (P := P) (F := F) (t := t) hW he).does
      | _ => cases hc
    | some x => simp [cOp] at hc
  | extract x i =>
    simp only [cOp, Option.some.injEq] at hc
    subst hc
    exact (ext_ok (P := P) (F := F) hW (cX_ok hF x) he).does
  | call c =>
    obtain ⟨callee, args, argTypes⟩ := c
    cases callee with
    | value f => simp only [cOp, Option.some.injEq] at hc; subst hc; cases he
    | invoke r m => cases hc
    | builtin bt =>
      have hx1 : ∀ {x : Operand}, args.toList = [x] → args = #[x] := fun h => by apply Array.ext'; simpa using h
      have hx2 : ∀ {x y : Operand}, args.toList = [x, y] → args = #[x, y] := fun h => by apply Array.ext'; simpa using h
      have ht1 : ∀ {x : TypeId}, argTypes.toList = [x] → argTypes = #[x] := fun h => by apply Array.ext'; simpa using h
      have ht2 : ∀ {x y : TypeId}, argTypes.toList = [x, y] → argTypes = #[x, y] := fun h => by apply Array.ext'; simpa using h
      cases bt with
      | len =>
        simp only [cOp] at hc
        split at hc
        · rename_i x t hx ht
          obtain rfl := hx1 hx
          obtain rfl := ht1 ht
          obtain ⟨d, hu, hc⟩ := bindS hc
          have fin : DoesV P g H w (Builtin.len_ #[t] type #[a.eval x]) v H' → Does P g H w (execOp a.eval ⟨dst, .call ⟨.builtin .len, #[x], #[t]⟩, type, pos, after, guard⟩) v H' := by
            intro h
            obtain ⟨u, w', g', k1, k2⟩ := h
            refine ⟨_, u, w', g', ?_, .inl rfl, k2⟩
            simp [execOp, resolve, invoke, builtin, k1]
          cases d with
          | slice e =>
            simp only [Option.some.injEq] at hc
            subst hc
            exact fin (len_typed (P := P) (F := F) hW hu (.inl ⟨e, rfl⟩) (cX_ok hF x) he)
          | string =>
            simp only [Option.some.injEq] at hc
            subst hc
            exact fin (len_typed (P := P) (F := F) hW hu (.inr rfl) (cX_ok hF x) he)
          | array n e =>
            simp only [Option.some.injEq] at hc
            subst hc
            exact fin (lnA_ok (P := P) (F := F) hW hu he)
          | map k e =>
            simp only [Option.some.injEq] at hc
            subst hc
            exact fin (mln_ok (P := P) (F := F) hW hu (cX_ok hF x) he)
          | _ => cases hc
        · cases hc
      | append =>
        simp only [cOp] at hc
        split at hc
        · rename_i s x t t' hx ht
          obtain rfl := hx2 hx
          obtain rfl := ht2 ht
          obtain ⟨d, hu, hc⟩ := bindS hc
          cases d with
          | slice e =>
            simp only at hc
            obtain ⟨i, hi, hc⟩ := bindS hc
            obtain ⟨z, hz, hc⟩ := bindS hc
            split at hc
            · rename_i hcd
              simp only [Option.some.injEq] at hc
              subst hc
              obtain ⟨rfl, h0, hzs⟩ := hcd
              obtain ⟨u, w', g', k1, k2⟩ := app_ok (P := P) (F := F) (ty := type) hW hu hi hz h0 hzs (cX_ok hF s) (cX_ok hF x) he
              refine ⟨_, u, w', g', ?_, .inl rfl, k2⟩
              simp [execOp, resolve, invoke, builtin, k1]
            · cases hc
          | _ => cases hc
        · cases hc
      | cap =>
        simp only [cOp] at hc
        split at hc
        · rename_i x t hx ht
          obtain rfl := hx1 hx
          obtain rfl := ht1 ht
          obtain ⟨d, hu, hc⟩ := bindS hc
          cases d with
          | slice e =>
            simp only [Option.some.injEq] at hc
            subst hc
            obtain ⟨u, w', g', k1, k2⟩ := cap_ok (P := P) (F := F) (ty := type) hW hu (cX_ok hF x) he
            refine ⟨_, u, w', g', ?_, .inl rfl, k2⟩
            simp [execOp, resolve, invoke, builtin, k1]
          | _ => cases hc
        · cases hc
      | min =>
        simp only [cOp] at hc
        split at hc
        · rename_i x y hx
          obtain rfl := hx2 hx
          simp only [Option.some.injEq] at hc
          subst hc
          obtain ⟨u, w', g', k1, k2⟩ := mm_ok (P := P) (F := F) (ts := argTypes) (ty := type) hW (cX_ok hF x) (cX_ok hF y) he
          refine ⟨_, u, w', g', ?_, .inl rfl, k2⟩
          simp only [cond_false] at k1
          simp [execOp, resolve, invoke, builtin, k1]
        · cases hc
      | max =>
        simp only [cOp] at hc
        split at hc
        · rename_i x y hx
          obtain rfl := hx2 hx
          simp only [Option.some.injEq] at hc
          subst hc
          obtain ⟨u, w', g', k1, k2⟩ := mm_ok (P := P) (F := F) (ts := argTypes) (ty := type) hW (cX_ok hF x) (cX_ok hF y) he
          refine ⟨_, u, w', g', ?_, .inl rfl, k2⟩
          simp only [cond_true] at k1
          simp [execOp, resolve, invoke, builtin, k1]
        · cases hc
      | clear =>
        simp only [cOp] at hc
        split at hc
        · rename_i m t hx ht
          obtain rfl := hx1 hx
          have hts : argTypes = #[t] := by apply Array.ext'; simpa using ht
          subst hts
          obtain ⟨d, hu, hc⟩ := bindS hc
          cases d with
          | map kt et =>
            simp only [Option.some.injEq] at hc
            subst hc
            obtain ⟨u, w', g', k1, k2⟩ := clr_ok (P := P) (F := F) (ty := type) hW hu (cX_ok hF m) he
            refine ⟨_, u, w', g', ?_, .inl rfl, k2⟩
            simp [execOp, resolve, invoke, builtin, k1]
          | _ => cases hc
        · cases hc
      | delete =>
        simp only [cOp] at hc
        split at hc
        · rename_i m k t ts hx ht
          obtain rfl := hx2 hx
          have hts : argTypes = (t :: ts).toArray := by apply Array.ext'; simpa using ht
          subst hts
          obtain ⟨d, hu, hc⟩ := bindS hc
          cases d with
          | map kt et =>
            simp only at hc
            obtain ⟨kk, hk, hc⟩ := bindS hc
            simp only [Option.some.injEq] at hc
            subst hc
            obtain ⟨u, w', g', k1, k2⟩ := del_ok (P := P) (F := F) (ty := type) (t2 := t) hW hu (keyK_ok hE hk) (cX_ok hF m) (cX_ok hF k) he ts
            refine ⟨_, u, w', g', ?_, .inl rfl, k2⟩
            simp [execOp, resolve, invoke, builtin, k1]
          | _ => cases hc
        · cases hc
      | _ => cases hc
  | _ => cases hc
theorem opB_sound {eqT : TypeId → Option (List SK)} (hE : ∀ t ks, eqT t = some ks → EqOk P t ks) (o : Oper) {v : AV} (hF : FR g w N F a) (hW : WR g H w) (he : AOp.ev F H (cOpB P eqT o.op) = some (v, H')) : Does P g H w (execOp a.eval o) v H' := by
  unfold cOpB at he
  split at he
  · rename_i ao hc; exact op_sound hE o hc hF hW he
  · cases he
end
end Go.Proofs.Ytgnpihhakogeeaa
