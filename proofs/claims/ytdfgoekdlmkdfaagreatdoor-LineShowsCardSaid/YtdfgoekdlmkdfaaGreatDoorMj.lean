/- Texts of the walk. -/
import Derived.Test.YtdfgoekdlmkdfaaGreatDoorMi
namespace Go.Proofs.YtdfgoekdlmkdfaaGreatDoor
set_option linter.defProp false
set_option maxHeartbeats 64000000
set_option linter.unusedSimpArgs false
set_option linter.unusedVariables false
open Go.RowKit Go.Lib
theorem nd_lt:∀k u:Nat,u<10 ^ (k+1)->nDigits u<=k+1
 | 0,u,h=>by rw[nDigits_small (by simpa using h)];omega
 | k+1,u,h=>by
  by_cases h10:u<10
  ·rw[nDigits_small h10];omega
  ·rw[nDigits_big h10]
   have:=nd_lt k (u / 10) (by rw[Nat.pow_succ]at h;omega)
   omega
theorem Zz8 {n:Int} (h:InI n):(itoa n).length<=20:=by
 have h1:=h.1
 have h2:=h.2
 unfold itoa
 split
 ·rw[List.length_cons,decDigits_length]
  have:=nd_lt 18 n.natAbs Xa
  omega
 ·rw[decDigits_length]
  have:=nd_lt 18 n.toNat Xa
  omega
theorem ZAl {l:List Tx} (h1:l.length<=20) (h2:ZAr l<=1000):(ZAc l).length<=3000:=by
 have h3:=ZAw [44] (l.map ZyH)
 have h4:=ZAj l
 unfold ZAc
 simp only[zan,List.length_cons,List.length_nil]at h3
 omega
theorem ZAp {n:Nat} (h:n<=1000000):n<=maxLen:=by unfold maxLen;omega
open Go.RowKit Go.Lib
open Go.RowKit Go.Lib
open Go.RowKit
def Zd9:Sh:=.int .i64
theorem Zis:(Sh.slice Zd9).Fits Tryz.prog (.inl 40):=⟨3,Tryz.underlying40,Xg,Xb,Tryz.underlying3⟩
theorem Zid:(Sh.slice .str).Fits Tryz.prog (.inl 23):=⟨9,Tryz.underlying23,Xg,Xb,Tryz.underlying9⟩
theorem ZAs {n:Int} (h:(Lit.int .i64 n).wf=true):InI n:=by
 simp[Lit.wf,IntKind.min,IntKind.max,IntKind.signed,IntKind.bits]at h
 exact h
theorem eS_of (s:ByteArray):eS s.data.toList=.sc (.string s):=by cases s;rfl
section
variable {w:World} {F:Nat->Prop}
theorem Zgi {s:Sh} {α:Type} {f:α->List AV} {p:α->Prop} (he:∀cs x,s.Is w F cs x->∃a,s.enc x=f a/\p a) {cs:List Value} {x:(Sh.slice s).D} (h:(Sh.slice s).Is w F cs x):∃l:List α,l.length<=maxLen/\(Sh.slice s).enc x=[.sl .no (l.map f)]/\∀a∈l,p a:=by
 obtain⟨A,c,css,_,h1,h2,h3,_,h5⟩:=h
 have:∀(y:List s.D),(∀z∈y,∃a,s.enc z=f a/\p a)->∃m:List α,m.length=y.length/\y.map s.enc=m.map f/\∀a∈m,p a:=by
  intro y
  induction y with
  | nil=>intro _;exact⟨[],rfl,rfl,Xc⟩
  | cons z y ih =>
   intro hz
   obtain⟨a,ha,hp⟩:=hz z zaF
   obtain⟨m,hm,e,hq⟩:=ih fun u hu=>hz u (zav _ hu)
   exact⟨a :: m,by simp[hm],by simp[ha,e],fun b hb=>by
    rcases zak.1 hb with rfl|hb
    ·exact hp
    ·exact hq b hb⟩
 obtain⟨m,hm,e,hq⟩:=this x fun y hy=>by
  obtain⟨i,hi,rfl⟩:=zar hy
  have hi2:i<css.length:=by rw[h3];exact hi
  exact he css[i] _ (h5 i _ _ (zac hi2) (zac hi))
 refine⟨m,by rw[hm];exact zaM h1 h2,?_,hq⟩
 show[AV.sl .no (List.map s.enc x)]=_
 rw[e]
theorem ZjA (y:(Sh.slice .str).D):∃l:List Tx,(Sh.slice .str).enc y=[.sl .no (rS l)]:=by
 refine⟨(show List ByteArray from y).map fun s=>s.data.toList,?_⟩
 show[AV.sl .no ((show List ByteArray from y).map fun s=>[.sc (.string s)])]=_
 congr 2
 rw[rS,zbz]
 refine List.map_congr_left fun s _=>?_
 show _=[eS s.data.toList]
 rw[eS_of]
theorem enc_ints {cs:List Value} {x:(Sh.slice Zd9).D} (h:(Sh.slice Zd9).Is w F cs x):∃l:List Int,l.length<=maxLen/\(Sh.slice Zd9).enc x=[.sl .no (rI l)]/\∀a∈l,InI a :=
 Zgi (s:=Zd9) (f:=fun n=>[AV.i n]) (p:=InI) (fun cs x hx=>⟨x,rfl,ZAs hx.2⟩) h
end
end Go.Proofs.YtdfgoekdlmkdfaaGreatDoor
