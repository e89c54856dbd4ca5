/- Texts of the walk. -/
import Derived.Test.YtfjjpndoeppbhaaGreatDoorMl
namespace Go.Proofs.YtfjjpndoeppbhaaGreatDoor
set_option linter.defProp false
set_option maxHeartbeats 64000000
set_option linter.unusedSimpArgs false
set_option linter.unusedVariables false
open Go.RowKit Go.Lib
open Go.RowKit Go.Lib
open Go.RowKit Go.Lib
theorem ZDh:∀a b:Fin 10,1<=a.val->a.val<=b.val->ZBa a.val<=ZBa b.val/\(b.val<9->ZBa b.val+2 ^ (8 - b.val)=ZBa (b.val+1))/\ZBa b.val<=255:=by decide +kernel
theorem ZIg {n:Nat} (hn:n<18446744073709551616):(UInt8.ofNat (ZBa (ZA5 n)+n / 256 ^ (ZA5 n - 1))).toNat=ZBa (ZA5 n)+n / 256 ^ (ZA5 n - 1)/\(ZA5 n<9->ZBa (ZA5 n)+n / 256 ^ (ZA5 n - 1)<ZBa (ZA5 n+1)):=by
 obtain⟨h1,h9⟩:=ZA7 n
 obtain⟨a,b⟩:=ZD2 h1 h9 (ZC3 (n:=n)) hn
 generalize n / 256 ^ (ZA5 n - 1)=q at *
 generalize ZA5 n=s at *
 obtain⟨_,m2,m3⟩:=ZDh ⟨s,Xa⟩ ⟨s,Xa⟩ h1 (zad _)
 simp only at m2 m3
 have:ZBa s+q<256/\(s<9->ZBa s+q<ZBa (s+1)):=by
  by_cases h:s<9
  ·have h2:=a h
   have h3:=m2 h
   have h4:ZBa (s+1)<=256:=Nat.sub_le _ _
   exact⟨Xa,fun _=>by omega⟩
  ·have h2:=b Xa
   exact⟨Xa,fun h'=>absurd h' h⟩
 refine⟨?_,this.2⟩
 rw[UInt8.toNat_ofNat']
 omega
open Go.RowKit Go.Lib
open Go.RowKit Go.Lib
open Go.RowKit
open Go.RowKit Go.Lib
open Go.RowKit Go.Lib
open Go.RowKit Go.Lib
end Go.Proofs.YtfjjpndoeppbhaaGreatDoor
