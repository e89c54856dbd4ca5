/- The abstract machine: a call, with what comes behind it kept shut. -/
import Derived.Test.YtgnpihhakogeeaaBq
namespace Go.Proofs.Ytgnpihhakogeeaa
set_option linter.unusedSimpArgs false
set_option linter.unusedVariables false
open Go.RowKit

/-- what comes behind a call (an instance: simp does not look inside) -/
class KBox where
  out : AV → AHeap → Prop
def CallK (P : Program) (f : FuncId) (args : List AV) (H : AHeap) [K : KBox] : Prop := Sound P f args H K.out
theorem Sound_box {P : Program} {f : FuncId} {args : List AV} {H : AHeap} {R : AV → AHeap → Prop} : Sound P f args H R = @CallK P f args H ⟨R⟩ := propext ⟨fun h => h, fun h => h⟩
theorem CallK.use {P : Program} {f : FuncId} {args : List AV} {H : AHeap} {K : AV → AHeap → Prop} {R : AV → AHeap → Prop} (h : Sound P f args H R) (k : ∀ r H', R r H' → K r H') : @CallK P f args H ⟨K⟩ := Sound.mono h k
theorem fin_keep {r : AV} {H : AHeap} {R : AV → AHeap → Prop} (h : R r H) : ∃ r2 H2, RStep r H r2 H2 ∧ R r2 H2 := ⟨_, _, RStep.keep (fun _ _ h => h) (Nat.le_refl _), h⟩
/-- a call that only computes, and may leave things behind -/
def PureE (H : AHeap) (v : AV) (r : AV) (H' : AHeap) : Prop := r = v ∧ AHeap.Ext H H'
theorem stable_one {r : AI} {F : Fr} {H : AHeap} {d : Nat} (hd : r.dst = some d) (hw : r.want F = some true) (h : r.op.ev F H = some (Fr.get F d, H)) : ∀ r' ∈ [r], r'.stable F H := by
  intro r' hr
  rw [List.mem_singleton] at hr
  subst hr
  unfold AI.stable
  rw [hw]
  exact ⟨d, hd, h⟩
/-- the end of a function, by its way out -/
theorem RetQ_r {rs : List ARes} {R : AV → AHeap → Prop} {F : Fr} {H : AHeap} : RetQ rs R .ret F H = match resA F H rs with
    | some r => ∃ r2 H2, RStep r H r2 H2 ∧ R r2 H2
    | none => False := rfl
theorem RetQ_n {rs : List ARes} {R : AV → AHeap → Prop} {F : Fr} {H : AHeap} : RetQ rs R .normal F H = match resA F H rs with
    | some r => ∃ r2 H2, RStep r H r2 H2 ∧ R r2 H2
    | none => False := rfl
/-- a function, its end behind a letter -/
theorem fn_soundQ {P : Program} {eqT : TypeId → Option (List SK)} {N : Nat} (hE : ∀ t ks, eqT t = some ks → EqOk P t ks) {f : FuncId} {ac : ACode} {rs : List ARes} {args : List AV} {H : AHeap} {R : AV → AHeap → Prop} (hc : cFn P eqT f = some (ac, rs, N)) (hn : args.length ≤ N)
    (h : ∀ Q : AEx → Fr → AHeap → Prop, (∀ F H, Q .ret F H = match resA F H rs with
      | some r => ∃ r2 H2, RStep r H r2 H2 ∧ R r2 H2
      | none => False) → (∀ F H, Q .normal F H = match resA F H rs with
      | some r => ∃ r2 H2, RStep r H r2 H2 ∧ R r2 H2
      | none => False) → AW P ac Q (argsFr 0 args) H) : Sound P f args H R :=
  fn_sound hE hc hn (h (RetQ rs R) (fun _ _ => rfl) (fun _ _ => rfl))
/-- memory gets a letter -/
theorem AW_let {P : Program} {c : ACode} {Q : AEx → Fr → AHeap → Prop} {F : Fr} {H : AHeap} (h : ∀ G, G = H → AW P c Q F G) : AW P c Q F H := h H rfl
end Go.Proofs.Ytgnpihhakogeeaa
