/- The abstract machine: out of a contract with no memory of its own, what a call does. -/
import Derived.Test.YtgnpihhakogeeaaBm
import Derived.Below
namespace Go.Proofs.Ytgnpihhakogeeaa
set_option linter.unusedSimpArgs false
set_option linter.unusedVariables false
open Go.RowKit

def Gh.ro (R : Nat → Nat → Prop) : Gh := ⟨fun _ => none, fun _ => none, fun _ _ => none, R⟩
theorem WR.ofRO {R : Nat → Nat → Prop} {w : World} (h : ∀ b j, R b j → b < w.heap.size) : WR (Gh.ro R) AHeap.emp w :=
  ⟨fun id o h => by simp [AHeap.emp] at h, fun id id' o o' b h => by simp [AHeap.emp] at h, fun id _ => ⟨rfl, rfl, fun _ => rfl⟩, fun id o b h => by simp [AHeap.emp] at h, h⟩
theorem VRs.scs {g : Gh} {w : World} : ∀ (vs : List Value), VRs g w (vs.map .sc) vs
  | [] => .nil
  | v :: vs => (VRs.scs vs).cons (.sc v)
theorem Sound.calls {P : Program} {f : FuncId} {args : List AV} {R : AV → AHeap → Prop} {v : Value} (h : Sound P f args AHeap.emp R) (hR : ∀ r H, R r H → r = .sc v) {w : World} {vs : List Value} {RO : Nat → Nat → Prop} (hro : ∀ b j, RO b j → b < w.heap.size) (hV : VRs (Gh.ro RO) w args vs) : Calls P f vs.toArray w fun e w' => e = .returned v ∧ Below w.heap.size w w' := by
  refine (h.2 _ w vs (WR.ofRO hro) hV).mono fun e w' ⟨u, r, H', g', he, hr, hv, hw', hs⟩ => ?_
  have := hR _ _ hr
  subst this
  cases hv
  exact ⟨he, hs.os, hs.tape, hs.output, hs.size, fun b hb => hs.frame b hb (fun ⟨id, o, h1, _⟩ => by simp [AHeap.emp] at h1)⟩
end Go.Proofs.Ytgnpihhakogeeaa
