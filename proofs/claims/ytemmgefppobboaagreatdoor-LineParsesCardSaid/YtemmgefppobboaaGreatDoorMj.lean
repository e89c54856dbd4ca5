/- Texts of the walk. -/
import Derived.Test.YtemmgefppobboaaGreatDoorMi
import Derived.Test.YtemmgefppobboaaGreatDoorMd
namespace Go.Proofs.YtemmgefppobboaaGreatDoor
set_option linter.defProp false
set_option linter.unusedSimpArgs false
set_option linter.unusedVariables false
open Go.RowKit Go.Lib
theorem nd_lt:∀k u:Nat,u<10 ^ (k+1)->nDigits u<=k+1
 | 0,u,h=>by rw[nDigits_small (by simpa using h)];omega
 | k+1,u,h=>by
  by_cases h10:u<10
  ·rw[nDigits_small h10];omega
  ·rw[nDigits_big h10]
   have:=nd_lt k (u / 10) (by rw[Nat.pow_succ]at h;omega)
   omega
theorem Zz8 {n:Int} (h:InI n):(itoa n).length<=20:=by
 have h1:=h.1
 have h2:=h.2
 unfold itoa
 split
 ·rw[List.length_cons,decDigits_length]
  have:=nd_lt 18 n.natAbs (by omega)
  omega
 ·rw[decDigits_length]
  have:=nd_lt 18 n.toNat (by omega)
  omega
theorem ZAp {n:Nat} (h:n<=1000000):n<=maxLen:=by unfold maxLen;omega
open Go.RowKit Go.Lib
open Go.RowKit Go.Lib
open Go.RowKit
section
variable {w:World} {F:Nat->Prop}
end
end Go.Proofs.YtemmgefppobboaaGreatDoor
