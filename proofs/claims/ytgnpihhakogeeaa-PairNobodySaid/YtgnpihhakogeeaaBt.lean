/- The abstract machine: arguments as they came in, as trees. -/
import Derived.Test.YtgnpihhakogeeaaBs
import Derived.Test.YtgnpihhakogeeaaBo
namespace Go.Proofs.Ytgnpihhakogeeaa
set_option linter.unusedSimpArgs false
set_option linter.unusedVariables false
open Go.RowKit

/-- the cells of all blocks that are there -/
abbrev allRO (w : World) : Nat → Nat → Prop := fun b _ => b < w.heap.size
section
variable {w : World}
theorem arg_agg {s : Sh} {cs : Array Value} {y : s.D} (hp : s.pos) (h : s.Is w (· < w.heap.size) cs.toList y) : VR (Gh.ro (allRO w)) w (.agg (s.enc y)) (.agg cs) := by
  obtain ⟨h1, h2⟩ := Sh.Is.vr (g := Gh.ro (allRO w)) (fun b hb _ => hb) hp h
  exact .agg _ _ (by rw [h1.1]; simp) h2 (fun i x u hx hu => h1.2 i x u hx (by simpa using hu))
theorem arg_one {s : Sh} {v : Value} {y : s.D} {a : AV} (hp : s.pos) (h : s.Is w (· < w.heap.size) [v] y) (he : s.enc y = [a]) : VR (Gh.ro (allRO w)) w a v := by
  obtain ⟨h1, h2⟩ := Sh.Is.vr (g := Gh.ro (allRO w)) (fun b hb _ => hb) hp h
  rw [he] at h1
  exact h1.2 0 a v rfl rfl
theorem Sound.true {P : Program} {f : FuncId} {args : List AV} {vs : List Value} (h : Sound P f args AHeap.emp fun r _ => r = .b true) (hV : VRs (Gh.ro (allRO w)) w args vs) : Calls P f vs.toArray w fun e w' => e = .returned (.bool true) ∧ Below w.heap.size w w' :=
  Sound.calls h (fun _ _ h => h) (fun _ _ h => h) hV
end
end Go.Proofs.Ytgnpihhakogeeaa
