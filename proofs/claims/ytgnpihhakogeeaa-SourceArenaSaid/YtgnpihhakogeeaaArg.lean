/- Arguments as they came in: shapes, nodes, ints. -/
import Derived.Test.YtgnpihhakogeeaaD24
namespace Go.Proofs.Ytgnpihhakogeeaa
open Go.RowKit
section
variable {w : World} {F : Nat → Prop}
theorem sl_arg {α : Type} [Rep α] {v : Value} {l : List α} (h : Rep.Is w F [v] l) : ∃ A c, v = .slice A l.length c ∧ l.length ≤ c ∧ c ≤ maxLen ∧ ElemsAt w F A l := by
  obtain ⟨v', e, A, c, e2, h1, h2, h3⟩ := h
  injection e with e _
  subst e
  exact ⟨A, c, e2, h1, h2, h3⟩
theorem nods_arg {v : Value} {x : (Sh.slice nodSh).D} (h : (Sh.slice nodSh).Is w F [v] x) : ∃ (l : List Nod) (A : Option Addr) (c : Nat), v = .slice A l.length c ∧ l.length ≤ c ∧ c ≤ maxLen ∧ ElemsAt w F A l := by
  obtain ⟨l, hl⟩ := nods_of_sh h
  exact ⟨l, sl_arg hl⟩
theorem ints_arg {v : Value} {x : (Sh.slice i64Sh).D} (h : (Sh.slice i64Sh).Is w F [v] x) : ∃ (l : List Int) (A : Option Addr) (c : Nat), v = .slice A l.length c ∧ l.length ≤ c ∧ c ≤ maxLen ∧ ElemsAt w F A l := by
  obtain ⟨l, hl⟩ := ints_of_sh h
  exact ⟨l, sl_arg hl⟩
theorem shp_arg {cs : List Value} {y : shpSh.D} (h : shpSh.Is w F cs y) : ∃ (x : Shp) (A : Option Addr) (c : Nat), cs = [.slice A x.sizes.length c, .int .i64 x.measures] ∧ x.sizes.length ≤ c ∧ c ≤ maxLen ∧ ElemsAt w F A x.sizes ∧ I64 x.measures := by
  obtain ⟨x, v, e, ⟨A, c, rfl, h1, h2, h3⟩, hm⟩ := shp_of_sh h
  exact ⟨x, A, c, e, h1, h2, h3, hm⟩
end
end Go.Proofs.Ytgnpihhakogeeaa
