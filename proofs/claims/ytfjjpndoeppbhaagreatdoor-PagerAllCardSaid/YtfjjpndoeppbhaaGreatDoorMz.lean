/- Texts of the walk. -/
import Derived.Test.YtfjjpndoeppbhaaGreatDoorMy
namespace Go.Proofs.YtfjjpndoeppbhaaGreatDoor
set_option linter.defProp false
set_option maxHeartbeats 64000000
set_option linter.unusedSimpArgs false
set_option linter.unusedVariables false
open Go.RowKit Go.Lib
structure ZOt (p:Pg):Prop where
 g0:0<=p.root.gen/\p.root.gen<=1099511627776
 z:p.root.gen=0->p=.nil
 r:0<p.root.gen->p.root.ok=true
 l:(p.list.length:Int)=p.root.pages
 o:(p.own.length:Int)=ZL3 p.root.pages
 n:p.list.length<=2047
theorem ZOt.cat {p:Pg} (h:ZOt p):0<=p.root.cat/\p.root.cat<=1048576/\0<=p.root.nodes/\p.root.nodes<=1048576/\p.root.pages=ZLU p.root.cat+ZLU p.root.nodes:=by
 by_cases hg:0<p.root.gen
 ·have:=h.r hg
  unfold Rt.ok at this
  rw[decide_eq_true_iff]at this
  omega
 ·have:=h.z (by have:=h.g0;omega)
  rw[this]
  decide
theorem ZOt.bd {p:Pg} (h:ZOt p):p.root.cat<=900000/\p.root.nodes<=900000:=by
 obtain⟨h1,h2,h3,h4,h5⟩:=h.cat
 have h6:=h.l
 have h7:=h.n
 unfold ZLU at h5
 split at h5<;>split at h5<;>omega
theorem ZOt.inC {p:Pg} (h:ZOt p) (i:Nat) (hi:246 * i<p.root.cat.toNat):0+i<p.list.length:=by
 obtain⟨h1,h2,h3,h4,h5⟩:=h.cat
 have h6:=h.l
 unfold ZLU at h5
 split at h5<;>split at h5<;>omega
theorem ZOt.inN {p:Pg} (h:ZOt p) (i:Nat) (hi:246 * i<p.root.nodes.toNat):(ZLU p.root.cat).toNat+i<p.list.length:=by
 obtain⟨h1,h2,h3,h4,h5⟩:=h.cat
 have h6:=h.l
 unfold ZLU at h5 ⊢
 split at h5<;>split at h5<;>split<;>omega
theorem ZNA {n:Int} (h1:0<=n) (h2:n<=2000000):0<=ZLU n/\ZLU n<=10000:=by unfold ZLU;split<;>omega
section
variable {D P R C M:Nat} {d:Dv} {p:Pg} {br:Bool} {its:Its} {fet:Int} {np:Nat} {H G:Zaa}
def catP (p:Pg) (sh:Nat->Tx) (np:Nat):Option Tx:=ZM5 (fun i=>p.page sh np i) 0 p.root.cat.toNat 0 p.root.cat.toNat
def bytP (p:Pg) (sh:Nat->Tx) (np a n:Nat):Option Tx:=ZM5 (fun i=>p.page sh np i) (ZLU p.root.cat).toNat p.root.nodes.toNat a n
def PgE (D P R C M:Nat) (d:Dv) (p:Pg) (br:Bool) (np:Nat) (v:AV) (H:Zaa) (r:AV) (G:Zaa):Prop:=∃its fet,ZMe p d.sho np its/\PgR D P R C M d p br its fet np v H r G
theorem ZMC {f:FuncId} {args:List AV} {v:AV} (hd:DvX D d H) (h:PgB D P R C M p br its fet np H) (hc:ZMe p d.sho np its) (hs:Zay Tryz.prog f args H (Pure H v)):Zay Tryz.prog f args H (PgE D P R C M d p br np v H) :=
 Zay.mono hs fun r G ⟨e,k,hk⟩=>⟨its,fet,hc,e,PgQ.same hd h (by rw[hk];exact(Zaa.Ext.refl _).bump)⟩
theorem ZRT (hd:DvX D d H) (h:PgB D P R C M p br its fet np H) (hr:ZMu p br d≠0):Zay Tryz.prog 45 [.ptr P 0] H (Pure H (.tup [eS [],.i (ZMu p br d)])):=by
 have hrd:=ZLY hd h
 generalize ZMu p br d=e at *
 have d1:(e != 0)=true:=by simpa using hr
 have hx0:Zaa.Ext H H:=.refl _
 refine fnQ cf45 fun Q qr qn=>?_
 refine Bz0 ?_
 refine qcp (hrd) fun k1=>?_
 ((have hd:=tv;repeat' first|(first|apply Zad|apply Zac|apply Zab)<;>intro hd<;>try simp only[hd]|simp(disch:=first|assumption|omega|simp only[nx]<;>omega|fail)only[hd,qr,qn,Zq5,↓YA,YY,↓reduceIte,Nat.reduceEqDiff,Nat.reduceAdd,Nat.reduceMul,Nat.reduceLeDiff,Int.reduceToNat,Int.reduceLE,Int.reduceLT,Int.reduceGT,Int.reduceGE,Int.reduceAdd,Int.reduceSub,Int.reduceNeg,Int.reduceBEq,Int.reduceBNe,d1])<;>try revert hd;refine ttr ?_)
 exact Zcm rfl
theorem ZPP (hd:DvX D d H) (h:PgB D P R C M p br its fet np H) (a n:Int) (hr:ZMu p br d≠0):Zay Tryz.prog 120 [.ptr P 0,.i a,.i n] H (Pure H (.tup [eS [],.i (ZMu p br d)])):=by
 have hrd:=ZLY hd h
 generalize ZMu p br d=e at *
 have d1:(e != 0)=true:=by simpa using hr
 have hx0:Zaa.Ext H H:=.refl _
 refine fnQ cf120 fun Q qr qn=>?_
 refine Bz0 ?_
 refine qcp (hrd) fun k1=>?_
 ((have hd:=tv;repeat' first|(first|apply Zad|apply Zac|apply Zab)<;>intro hd<;>try simp only[hd]|simp(disch:=first|assumption|omega|simp only[nx]<;>omega|fail)only[hd,qr,qn,ZvF,↓YA,YY,↓reduceIte,Nat.reduceEqDiff,Nat.reduceAdd,Nat.reduceMul,Nat.reduceLeDiff,Int.reduceToNat,Int.reduceLE,Int.reduceLT,Int.reduceGT,Int.reduceGE,Int.reduceAdd,Int.reduceSub,Int.reduceNeg,Int.reduceBEq,Int.reduceBNe,d1])<;>try revert hd;refine ttr ?_)
 exact Zcm rfl
theorem ZPX {o:Option Tx}:∃a b,isV o=.tup [a,b]:=by
 cases o with
 | none=>exact⟨_,_,rfl⟩
 | some s=>exact⟨_,_,rfl⟩
theorem ZQ5 (hnp:np=ofP d.sec.length) (hpu:d.puts.length<=1000000) (hd:DvX D d H) (h:PgB D P R C M p br its fet np H) (hr:ZMu p br d=0) (ho:ZOt p) (hc:ZMe p d.sho np its) :
  Zay Tryz.prog 45 [.ptr P 0] H (PgR D P R C M d p br (ZNF p d.sho np 0 p.root.cat.toNat (ZOF 0 p.root.cat.toNat) 0 its fet).1 (ZNF p d.sho np 0 p.root.cat.toNat (ZOF 0 p.root.cat.toNat) 0 its fet).2 np (isV (catP p d.sho np)) H):=by
 have hrd:=ZLY hd h
 obtain⟨h1,h2,h3,h4,h5⟩:=ho.cat
 obtain⟨h6,h7⟩:=ho.bd
 have hl:=ho.n
 have hsp:=fun(K:Zaa) (hK:Zaa.Ext H K)=>ZOi hnp hpu (hd.ext hK) (h.ext hK) hr Xa hc 0 p.root.cat.toNat 0 p.root.cat.toNat (fun i hi=>ho.inC i hi) Xa (zat _) Xa Xa Xa
 have e0:((0:Nat):Int)=0:=rfl
 have e1:((p.root.cat.toNat:Nat):Int)=p.root.cat:=Xa
 have e2:0 / 246=0:=rfl
 rw[e0,e1,e2]at hsp
 rw[hr]at hrd
 unfold catP
 obtain⟨tw,tl,g⟩:=h.g
 obtain⟨va,vb,hv⟩:=ZPX (o:=ZM5 (fun i=>p.page d.sho np i) 0 p.root.cat.toNat 0 p.root.cat.toNat)
 rw[hv]at hsp ⊢
 have n0:((0:Int) != 0)=false:=rfl
 generalize ZNF p d.sho np 0 p.root.cat.toNat (ZOF 0 p.root.cat.toNat) 0 its fet=x at *
 refine fnQ cf45 fun Q qr qn=>?_
 refine Bz0 ?_
 refine qcp (hrd) fun k1=>?_
 refine Bz1 (X2 n0 g) ?_
 refine Zap.use (hsp _ (by exact AXT)) ?_
 rintro _ G ⟨rfl,q⟩
 refine Bz0 ?_
 exact Zaq ⟨rfl,q.d,q.p,(KD.ext (by exact AXT)).trans q.k⟩
theorem ZEd (hnp:np=ofP d.sec.length) (hpu:d.puts.length<=1000000) (hd:DvX D d H) (h:PgB D P R C M p br its fet np H) (hr:ZMu p br d=0) (ho:ZOt p) (hc:ZMe p d.sho np its) (a n:Nat) (ha:a<=p.root.nodes.toNat) (hn:n<=p.root.nodes.toNat - a) :
  Zay Tryz.prog 120 [.ptr P 0,.i (a:Int),.i (n:Int)] H (PgR D P R C M d p br (ZNF p d.sho np (ZLU p.root.cat).toNat p.root.nodes.toNat (ZOF a n) (a / 246) its fet).1 (ZNF p d.sho np (ZLU p.root.cat).toNat p.root.nodes.toNat (ZOF a n) (a / 246) its fet).2 np (isV (bytP p d.sho np a n)) H):=by
 have hrd:=ZLY hd h
 obtain⟨h1,h2,h3,h4,h5⟩:=ho.cat
 obtain⟨h6,h7⟩:=ho.bd
 have hl:=ho.n
 obtain⟨h8,h9⟩:=ZNA h1 Xa
 have hsp:=fun(K:Zaa) (hK:Zaa.Ext H K)=>ZOi hnp hpu (hd.ext hK) (h.ext hK) hr Xa hc (ZLU p.root.cat).toNat p.root.nodes.toNat a n (fun i hi=>ho.inN i hi) Xa ha hn Xa Xa
 have e1:((p.root.nodes.toNat:Nat):Int)=p.root.nodes:=Xa
 have e2:(((ZLU p.root.cat).toNat:Nat):Int)=ZLU p.root.cat:=Xa
 have hct:=fun K=>ZLZ p.root.cat K Xa Xa
 rw[e1,e2]at hsp
 rw[hr]at hrd
 unfold bytP
 obtain⟨tw,tl,g⟩:=h.g
 obtain⟨va,vb,hv⟩:=ZPX (o:=ZM5 (fun i=>p.page d.sho np i) (ZLU p.root.cat).toNat p.root.nodes.toNat a n)
 rw[hv]at hsp ⊢
 have n0:((0:Int) != 0)=false:=rfl
 generalize ZNF p d.sho np (ZLU p.root.cat).toNat p.root.nodes.toNat (ZOF a n) (a / 246) its fet=x at *
 generalize ZLU p.root.cat=ct at *
 refine fnQ cf120 fun Q qr qn=>?_
 refine Bz0 ?_
 refine qcp (hrd) fun k1=>?_
 refine Bz1 (X2 n0 g) ?_
 refine qcp (hct _) fun k2=>?_
 refine Bz1 (X2 n0 g) ?_
 refine Zap.use (hsp _ (by exact AXT)) ?_
 rintro _ G ⟨rfl,q⟩
 refine Bz0 ?_
 exact Zaq ⟨rfl,q.d,q.p,(KD.ext (by exact AXT)).trans q.k⟩
theorem ZQ4 (hd:DvX D d H) (h:PgB D P R C M p br its fet np H) (hr:ZMu p br d=0) (ho:ZOt p) (a n:Int) (hn:n<=9223372036854775807) (hi:a<0\/n<0\/a > p.root.nodes\/n > p.root.nodes - a) :
  Zay Tryz.prog 120 [.ptr P 0,.i a,.i n] H (Pure H (.tup [eS [],.i 9])):=by
 have hrd:=ZLY hd h
 obtain⟨h1,h2,h3,h4,h5⟩:=ho.cat
 have hct:=fun K=>ZLZ p.root.cat K Xa Xa
 have hsp:∀(f:Int) K,Zay Tryz.prog 97 [.ptr P 0,.i f,.i p.root.nodes,.i a,.i n] K (Pure K (.tup [eS [],.i 9])):=fun f K=>by
  have hx0:Zaa.Ext K K:=.refl _
  by_cases c1:a<0
  ·have d1:decide (a<0)=true:=decide_eq_true c1
   refine fnQ cf97 fun Q qr qn=>?_
   ((have hd:=tv;repeat' first|(first|apply Zad|apply Zac|apply Zab)<;>intro hd<;>try simp only[hd]|simp(disch:=first|assumption|omega|simp only[nx]<;>omega|fail)only[hd,qr,qn,ZvO,↓YA,YY,↓reduceIte,Nat.reduceEqDiff,Nat.reduceAdd,Nat.reduceMul,Nat.reduceLeDiff,Int.reduceToNat,Int.reduceLE,Int.reduceLT,Int.reduceGT,Int.reduceGE,Int.reduceAdd,Int.reduceSub,Int.reduceNeg,Int.reduceBEq,Int.reduceBNe,d1])<;>try revert hd;refine ttr ?_)
   exact Zcm rfl
  have d1:decide (a<0)=false:=decide_eq_false c1
  by_cases c2:n<0
  ·have d2:decide (n<0)=true:=decide_eq_true c2
   refine fnQ cf97 fun Q qr qn=>?_
   ((have hd:=tv;repeat' first|(first|apply Zad|apply Zac|apply Zab)<;>intro hd<;>try simp only[hd]|simp(disch:=first|assumption|omega|simp only[nx]<;>omega|fail)only[hd,qr,qn,ZvO,↓YA,YY,↓reduceIte,Nat.reduceEqDiff,Nat.reduceAdd,Nat.reduceMul,Nat.reduceLeDiff,Int.reduceToNat,Int.reduceLE,Int.reduceLT,Int.reduceGT,Int.reduceGE,Int.reduceAdd,Int.reduceSub,Int.reduceNeg,Int.reduceBEq,Int.reduceBNe,d1,d2])<;>try revert hd;refine ttr ?_)
   exact Zcm rfl
  have d2:decide (n<0)=false:=decide_eq_false c2
  by_cases c3:a > p.root.nodes
  ·have d3:decide (a > p.root.nodes)=true:=decide_eq_true c3
   refine fnQ cf97 fun Q qr qn=>?_
   ((have hd:=tv;repeat' first|(first|apply Zad|apply Zac|apply Zab)<;>intro hd<;>try simp only[hd]|simp(disch:=first|assumption|omega|simp only[nx]<;>omega|fail)only[hd,qr,qn,ZvO,↓YA,YY,↓reduceIte,Nat.reduceEqDiff,Nat.reduceAdd,Nat.reduceMul,Nat.reduceLeDiff,Int.reduceToNat,Int.reduceLE,Int.reduceLT,Int.reduceGT,Int.reduceGE,Int.reduceAdd,Int.reduceSub,Int.reduceNeg,Int.reduceBEq,Int.reduceBNe,d1,d2,d3])<;>try revert hd;refine ttr ?_)
   exact Zcm rfl
  have d3:decide (a > p.root.nodes)=false:=decide_eq_false c3
  have w1:IntKind.i64.wrap (p.root.nodes - a)=p.root.nodes - a:=Zaw Xa Xa
  have d4:decide (n > p.root.nodes - a)=true:=decide_eq_true Xa
  refine fnQ cf97 fun Q qr qn=>?_
  ((have hd:=tv;repeat' first|(first|apply Zad|apply Zac|apply Zab)<;>intro hd<;>try simp only[hd]|simp(disch:=first|assumption|omega|simp only[nx]<;>omega|fail)only[hd,qr,qn,ZvO,↓YA,YY,↓reduceIte,Nat.reduceEqDiff,Nat.reduceAdd,Nat.reduceMul,Nat.reduceLeDiff,Int.reduceToNat,Int.reduceLE,Int.reduceLT,Int.reduceGT,Int.reduceGE,Int.reduceAdd,Int.reduceSub,Int.reduceNeg,Int.reduceBEq,Int.reduceBNe,d1,d2,d3,w1,d4])<;>try revert hd;refine ttr ?_)
  exact Zcm rfl
 rw[hr]at hrd
 obtain⟨tw,tl,g⟩:=h.g
 have n0:((0:Int) != 0)=false:=rfl
 have hx0:Zaa.Ext H H:=.refl _
 generalize ZLU p.root.cat=ct at *
 refine fnQ cf120 fun Q qr qn=>?_
 refine Bz0 ?_
 refine qcp (hrd) fun k1=>?_
 refine Bz1 (X2 n0 g) ?_
 refine qcp (hct _) fun k2=>?_
 refine Bz1 (X2 n0 g) ?_
 refine qcp (hsp _ _) fun k3=>?_
 refine Bz0 ?_
 exact Zcm rfl
def bytE (p:Pg) (br:Bool) (d:Dv) (np:Nat) (a n:Int):AV:=if ZMu p br d≠0 then .tup [eS [],.i (ZMu p br d)] else if a<0\/n<0\/a > p.root.nodes\/n > p.root.nodes - a then .tup [eS [],.i 9] else isV (bytP p d.sho np a.toNat n.toNat)
def catE (p:Pg) (br:Bool) (d:Dv) (np:Nat):AV:=if ZMu p br d≠0 then .tup [eS [],.i (ZMu p br d)] else isV (catP p d.sho np)
theorem ZRk (hnp:np=ofP d.sec.length) (hpu:d.puts.length<=1000000) (hd:DvX D d H) (h:PgB D P R C M p br its fet np H) (ho:ZOt p) (hc:ZMe p d.sho np its) (a n:Int) (hn:n<=9223372036854775807) :
  Zay Tryz.prog 120 [.ptr P 0,.i a,.i n] H (PgE D P R C M d p br np (bytE p br d np a n) H):=by
 unfold bytE
 by_cases hr:ZMu p br d=0
 ·rw[if_neg (by simpa using hr)]
  by_cases hi:a<0\/n<0\/a > p.root.nodes\/n > p.root.nodes - a
  ·rw[if_pos hi]
   exact ZMC hd h hc (ZQ4 hd h hr ho a n hn hi)
  ·rw[if_neg hi]
   obtain⟨m,rfl⟩:=zaL (show 0<=a by omega)
   obtain⟨k,rfl⟩:=zaL (show 0<=n by omega)
   refine Zay.mono (ZEd hnp hpu hd h hr ho hc m k Xa Xa) fun r G q=>⟨_,_,ZPO _ _ _ _ hc,q⟩
 ·rw[if_pos hr]
  exact ZMC hd h hc (ZPP hd h a n hr)
theorem ZQp (hnp:np=ofP d.sec.length) (hpu:d.puts.length<=1000000) (hd:DvX D d H) (h:PgB D P R C M p br its fet np H) (ho:ZOt p) (hc:ZMe p d.sho np its) :
  Zay Tryz.prog 45 [.ptr P 0] H (PgE D P R C M d p br np (catE p br d np) H):=by
 unfold catE
 by_cases hr:ZMu p br d=0
 ·rw[if_neg (by simpa using hr)]
  exact Zay.mono (ZQ5 hnp hpu hd h hr ho hc) fun r G q=>⟨_,_,ZPO _ _ _ _ hc,q⟩
 ·rw[if_pos hr]
  exact ZMC hd h hc (ZRT hd h hr)
theorem bytE_ext (p:Pg) (br:Bool) (d:Dv) (np:Nat) (a n:Int):∃x y,bytE p br d np a n=.tup [x,y]:=by
 unfold bytE
 split
 ·exact⟨_,_,rfl⟩
 ·split
  ·exact⟨_,_,rfl⟩
  ·exact ZPX
theorem ZRa (hnp:np=ofP d.sec.length) (hpu:d.puts.length<=1000000) (hd:DvX D d H) (h:PgB D P R C M p br its fet np H) (ho:ZOt p) (hc:ZMe p d.sho np its) :
  Zay Tryz.prog 73 [.ptr P 0] H (PgE D P R C M d p br np (bytE p br d np 0 p.root.nodes) H):=by
 have hrt:=ZMK h
 obtain⟨h1,h2,h3,h4,h5⟩:=ho.cat
 have hby:=fun(K:Zaa) (hK:Zaa.Ext H K)=>ZRk hnp hpu (hd.ext hK) (h.ext hK) ho hc 0 p.root.nodes Xa
 obtain⟨x,y,e⟩:=bytE_ext p br d np 0 p.root.nodes
 rw[e]at hby ⊢
 unfold eRt at hrt
 refine fnQ cf73 fun Q qr qn=>?_
 refine Bz0 ?_
 refine qcp (hrt) fun k1=>?_
 refine Bz0 ?_
 refine Zap.use (hby _ (by exact AXT)) ?_
 rintro _ G ⟨its2,fet2,hc2,rfl,q⟩
 refine Bz0 ?_
 exact Zaq ⟨its2,fet2,hc2,rfl,q.d,q.p,(KD.ext (by exact AXT)).trans q.k⟩
end
open Go.RowKit
theorem wpList_append_run {P:Program} {w w':World} {ops:Array Oper} {rest:List Oper} {o:Oper} {a:Act} {Q:Exit->Act->World->Prop} (hgd:o.guard=none) (s x:Operand) (t u:TypeId)
  (ho:o.op=.call { callee:=.builtin .append,args:=#[s,x],argTypes:=#[t,u] }) {vs vx v:Value} (hs:a.eval s=vs) (hx:a.eval x=vx)
  (hrun:(Builtin.append_ #[t,u] o.type #[vs,vx]).run P w=.ok v w') (h:wpList P ops Q rest (a.put o.dst v) w'):wpList P ops Q (o :: rest) a w :=
 wpList_plain hgd fun _ hK=>by
  unfold Oper.wp execOp
  simp only[ho,resolve,invoke,builtin,Sem.run_bind,Sem.run_pure,Result.andThen_ok,List.map_toArray,zaD,List.map_nil,hs,hx,hrun]
  exact hK _ _ h
theorem ZNj (z:Array Value) (n:Nat):(Builtin.zeroCells z n).size=n * z.size:=by simp[Builtin.zeroCells]
theorem igcap (w:World) (need old:Nat) (e:TypeId) (h:need<9223372036854775808):need<=grownCap w need old e/\grownCap w need old e<=maxLen:=by
 have he:grownCap w need old e=need+(w.tape w.drawn (.appendCap need old e)) % (2 ^ 63 - need):=rfl
 rw[he]
 unfold maxLen
 have:(w.tape w.drawn (.appendCap need old e)) % (2 ^ 63 - need)<2 ^ 63 - need:=zbG _ Xa
 constructor
 ·exact zbW _ _
 ·omega
theorem igr_inf:(Tryz.prog.info? 3).map (fun i=>(i.zero,i.size,i.bytes))=some (some (.int .i64 0),1,8):=by kernel_rfl
def GrowIQ (w:World) (e:Ending) (w':World):Prop:=∃cap carr,e=.returned (.slice (some ⟨w.heap.size,0,none⟩) 0 cap)/\w'=w.drew.alloc (.cells carr 3)/\carr.size=cap * 1/\cap<=maxLen
set_option maxRecDepth 100000 in
theorem ZQT (A:Option Addr) (n:Nat) (w:World) (h0:0<n) (hn:n<=1000000):Calls Tryz.prog 108 #[.slice A 0 0,.int .i64 n] w (GrowIQ w):=by
 obtain⟨i0,hi,hz0,hz1,hz2⟩:=info_parts igr_inf
 have hr:=Lib.run_append_grow_zeros (P:=Tryz.prog) w 33 3 33 3 i0 _ .i64 .i64 Tryz.underlying33 Tryz.underlying3 hi hz0 A 0 0 [] (by cases A<;>simp[Builtin.firstCells,loadCells,loadCellsFrom]) n Xa (by rw[hz1];omega) Xa Xa (by rw[hz2];omega) (by rw[hz2];unfold Builtin.nextslicecap;rw[if_pos Xa];omega)
 have hc:=igcap w (0+n) 0 3 Xa
 generalize grownCap w (0+n) 0 3=cap at hr hc
 have hp:0<n:=Xa
 have hpi:(0:Int)<n:=Xa
 simp only[zax]at hr hc
 have HR:=Lib.hid hr
 have hcc:n<=cap:=hc.1
 have ho:Hid (GrowIQ w (.returned (.slice (some ⟨w.heap.size,0,none⟩) 0 cap)) (w.drew.alloc (.cells (#[]++Builtin.zeroCells (Value.int .i64 0).cells n++Builtin.zeroCells (Value.int .i64 0).cells (cap - n)) 3))):=by
  refine⟨cap,_,rfl,rfl,?_,hc.2⟩
  rw[Array.size_append,Array.size_append,ZNj,ZNj]
  simp[Value.cells]
  omega
 generalize w.drew.alloc _=w1 at HR ho
 clear hr hc
 cases A with
 | none =>
  go_enter Tryz.func108,Tryz.ntmps108
  go_wp2_with (at_builtin;refine wpList_append_run rfl (.tmp 20) (.tmp 21) _ _ rfl rfl rfl HR.out ?_)
  go_ret
  exact ho.out
 | some A =>
  go_enter Tryz.func108,Tryz.ntmps108
  go_wp2_with (at_builtin;refine wpList_append_run rfl (.tmp 20) (.tmp 21) _ _ rfl rfl rfl HR.out ?_)
  go_ret
  exact ho.out
set_option maxRecDepth 100000 in
theorem ZRj (A:Option Addr) (w:World):Calls Tryz.prog 108 #[.slice A 0 0,.int .i64 0] w (fun e w'=>e=.returned (.slice A 0 0)/\w'=w):=by
 cases A with
 | none =>
  go_enter Tryz.func108,Tryz.ntmps108
  go_wp2
  go_ret
  exact⟨rfl,rfl⟩
 | some A =>
  go_enter Tryz.func108,Tryz.ntmps108
  go_wp2
  go_ret
  exact⟨rfl,rfl⟩
theorem ZNg:Zmq Tryz.prog 108:=⟨_,Tryz.func108,Xg,Xg⟩
theorem ZPJ (n:Nat) (H:Zaa) (h0:0<n) (hn:n<=1000000):Zay Tryz.prog 108 [.sl .full [],.i n] H fun r H'=>r=.sl (.own H.next) []/\H'=H.alloc (.tok 0 3 1):=by
 refine⟨ZNg,fun g w vs hW hV hEn=>?_⟩
 obtain⟨v0,v1,rfl⟩:∃v0 v1,vs=[v0,v1]:=by
  match vs,hV.1 with
  | [v0,v1],_=>exact⟨v0,v1,rfl⟩
 have h1:=hV.2 0 _ _ rfl rfl
 have h2:=hV.2 1 _ _ rfl rfl
 cases h2
 cases h1 with
 | sl _ _ A c sz b o f hc hm hA hsz hcell hv ht =>
  have ht':c=0:=ht
  subst ht'
  refine(ZQT A n w h0 hn).mono fun e w' ⟨cap,carr,he,hw',hs,hcm⟩=>?_
  subst hw'
  have hgr:w.grownBy (w.drew.alloc (.cells carr 3)) none:=⟨rfl,rfl,rfl,Xc,fun k hk _=>heap_alloc_old w.drew _ hk⟩
  obtain⟨k1,k2⟩:=Zjz (n:=0) hW hgr (zad _) (heap_alloc_new w.drew _) hs (zat _) hcm
  refine .inl ⟨_,_,_,_,he,⟨rfl,rfl⟩,?_,k1,k2⟩
  exact VR.sl (.own H.next) [] _ cap 0 0 0 (fun _ _=>undef) (zat _) hcm (fun h=>absurd rfl h) (fun r h=>by cases h) (fun i r j x h=>by simp at h) (fun i r j x h=>by simp at h) ⟨0,cap,w.heap.size,by simp[Gh.tok],zad _,fun _=>⟨rfl,fun _=>rfl⟩⟩
theorem ZPd (H:Zaa):Zay Tryz.prog 108 [.sl .full [],.i 0] H fun r H'=>r=.sl .full []/\H'=H:=by
 refine⟨ZNg,fun g w vs hW hV hEn=>?_⟩
 obtain⟨v0,v1,rfl⟩:∃v0 v1,vs=[v0,v1]:=by
  match vs,hV.1 with
  | [v0,v1],_=>exact⟨v0,v1,rfl⟩
 have h1:=hV.2 0 _ _ rfl rfl
 have h2:=hV.2 1 _ _ rfl rfl
 cases h2
 cases h1 with
 | sl _ _ A c sz b o f hc hm hA hsz hcell hv ht =>
  have ht':c=0:=ht
  subst ht'
  refine(ZRj A w).mono fun e w' ⟨he,hw'⟩=>?_
  subst hw'
  exact .inl ⟨_,_,_,g,he,⟨rfl,rfl⟩,VR.sl .full [] A 0 sz b o f hc hm hA hsz hcell hv rfl,hW,.refl _ _ _⟩
theorem Zfq (l:List Int):ZaE 1 (rI l)=true:=ZaU (f:=fun n:Int=>[AV.i n]) (sz:=1) (fun _=>rfl) _
theorem ZMY (t t1 t2:Tok) (a b:List Int) (H:Zaa) (h1:a.length<=100000) (h2:b.length<=100000):Zay Tryz.prog 59 [.sl t [[.sl t1 (rI a)],[.sl t2 (rI b)]]] H (Pure H (.sl .no (rI (a++b)))):=by
 have hx0:Zaa.Ext H H:=.refl _
 have hla:(rI a).length=a.length:=Xc
 have hlb:(rI b).length=b.length:=Xc
 obtain⟨s,hs⟩:∃s:Nat->Nat,s=fun k=>if k=0 then 0 else if k=1 then a.length else a.length+b.length:=⟨_,rfl⟩
 have s0:s 0=0:=by rw[hs];rfl
 have s1:s 1=a.length:=by rw[hs];rfl
 have s2:s 2=a.length+b.length:=by rw[hs];rfl
 obtain⟨u,hu⟩:∃u:Nat->List Int,u=fun k=>if k=0 then [] else if k=1 then a else a++b:=⟨_,rfl⟩
 have u0:u 0=[]:=by rw[hu];rfl
 have u1:u 1=a:=by rw[hu];rfl
 have u2:u 2=a++b:=by rw[hu];rfl
 clear hs hu
 refine fnQ cf59 fun Q qr qn=>?_
 refine Bz0 ?_
 refine ZbJ (N:=2) (fun k F G=>Fr.get F 11=.i (k:Int)/\Fr.get F 10=.i 2/\Fr.get F 9=.sl t [[.sl t1 (rI a)],[.sl t2 (rI b)]]/\Fr.get F 0=.sl t [[.sl t1 (rI a)],[.sl t2 (rI b)]]/\Fr.get F 3=.i (s k:Int)/\G=H) Xb (fun k F G h=>⟨h.1,h.2.1⟩) (GStep.refl _ _) ⟨rfl,rfl,rfl,rfl,by rw[s0];rfl,rfl⟩ ?_ ?_
 ·rintro k F G hk ⟨f11,f10,f9,f0,f3,rfl⟩
  have z0:(0:Int)<=(k:Int):=Xa
  rcases zbh.1 hk with hk0|rfl
  ·obtain rfl:k=0:=Xa
   have hr0:([[.sl t1 (rI a)],[.sl t2 (rI b)]]:List (List AV))[0]?=some [.sl t1 (rI a)]:=rfl
   generalize ([[.sl t1 (rI a)],[.sl t2 (rI b)]]:List (List AV))=rows at *
   rw[s0]at f3
   have w1:IntKind.i64.wrap (((0:Nat):Int)+(a.length:Int))=(a.length:Int):=by rw[Zaw Xa Xa];omega
   have d1:decide ((a.length:Int)<0)=false:=decide_eq_false Xa
   skip
   ((have hd:=tv;repeat' first|(first|apply Zad|apply Zac|apply Zab)<;>intro hd<;>try simp only[hd]|simp(disch:=first|assumption|omega|simp only[nx]<;>omega|fail)only[hd,qr,qn,Zqj,↓YA,YY,↓reduceIte,Nat.reduceEqDiff,Nat.reduceAdd,Nat.reduceMul,Nat.reduceLeDiff,Int.reduceToNat,Int.reduceLE,Int.reduceLT,Int.reduceGT,Int.reduceGE,Int.reduceAdd,Int.reduceSub,Int.reduceNeg,Int.reduceBEq,Int.reduceBNe,f11,f10,f9,f0,f3,z0,hr0,hla,w1,d1,Int.toNat_natCast,List.getElem_cons_zero,s1])<;>try revert hd;refine ttr ?_)
  ·rw[s1]at f3
   have hr0:([[.sl t1 (rI a)],[.sl t2 (rI b)]]:List (List AV))[1]?=some [.sl t2 (rI b)]:=rfl
   generalize ([[.sl t1 (rI a)],[.sl t2 (rI b)]]:List (List AV))=rows at *
   have w1:IntKind.i64.wrap ((a.length:Int)+(b.length:Int))=((a.length+b.length:Nat):Int):=by rw[Zaw Xa Xa];omega
   have d1:decide (((a.length+b.length:Nat):Int)<0)=false:=decide_eq_false Xa
   skip
   ((have hd:=tv;repeat' first|(first|apply Zad|apply Zac|apply Zab)<;>intro hd<;>try simp only[hd]|simp(disch:=first|assumption|omega|simp only[nx]<;>omega|fail)only[hd,qr,qn,Zqj,↓YA,YY,↓reduceIte,Nat.reduceEqDiff,Nat.reduceAdd,Nat.reduceMul,Nat.reduceLeDiff,Int.reduceToNat,Int.reduceLE,Int.reduceLT,Int.reduceGT,Int.reduceGE,Int.reduceAdd,Int.reduceSub,Int.reduceNeg,Int.reduceBEq,Int.reduceBNe,f11,f10,f9,f0,f3,z0,hr0,hlb,w1,d1,Int.toNat_natCast,List.getElem_cons_zero,s2])<;>try revert hd;refine ttr ?_)
 ·rintro F G ⟨f11,f10,f9,f0,f3,rfl⟩
  rw[s2]at f3
  by_cases hz:a.length+b.length=0
  ·have ha:a=[]:=zaA Xa
   have hb:b=[]:=zaA Xa
   subst ha hb
   skip
   refine Bz1 (X2 f0 f3) ?_
   refine Zap.use (ZPd _) ?_
   rintro r H' ⟨rfl,rfl⟩
   refine Bz1 (X1 f0) ?_
   refine ZbJ (N:=2) (fun k F G=>Fr.get F 27=.i (k:Int)/\Fr.get F 26=.i 2/\Fr.get F 25=.sl t [[.sl t1 []],[.sl t2 []]]/\Fr.get F 6=.sl .full []/\Zaa.Ext H' G) Xb (fun k F G h=>⟨h.1,h.2.1⟩) (GStep.refl _ _) ⟨rfl,rfl,rfl,rfl,.refl _⟩ ?_ ?_
   ·rintro k F G hk ⟨f27,f26,f25,f6,hx⟩
    have z0:(0:Int)<=(k:Int):=Xa
    have hal:ZaE 1 ([]:List (List AV))=true:=rfl
    have hrk:([[.sl t1 []],[.sl t2 []]]:List (List AV))[k]?=some [.sl (if k=0 then t1 else t2) []]:=by
     rcases zbh.1 hk with hk0|rfl
     ·obtain rfl:k=0:=Xa
      rfl
     ·rfl
    have hm:(0:Nat)<=maxLen:=zat _
    generalize ([[.sl t1 []],[.sl t2 []]]:List (List AV))=rows at *
    skip
    ((have hd:=tv;repeat' first|(first|apply Zad|apply Zac|apply Zab)<;>intro hd<;>try simp only[hd]|simp(disch:=first|assumption|omega|simp only[nx]<;>omega|fail)only[hd,qr,qn,Zqj,↓YA,YY,↓reduceIte,Nat.reduceEqDiff,Nat.reduceAdd,Nat.reduceMul,Nat.reduceLeDiff,Int.reduceToNat,Int.reduceLE,Int.reduceLT,Int.reduceGT,Int.reduceGE,Int.reduceAdd,Int.reduceSub,Int.reduceNeg,Int.reduceBEq,Int.reduceBNe,f27,f26,f25,f6,z0,hrk,hal,hm,Int.toNat_natCast,List.getElem_cons_zero,zbf,zat,zax])<;>try revert hd;refine ttr ?_)
    exact hx
   ·rintro F G ⟨f27,f26,f25,f6,hx⟩
    skip
    refine Bz1 (X1 f6) ?_
    exact Zcm rfl
  ·skip
   refine Bz1 (X2 f0 f3) ?_
   refine Zap.use (ZPJ (a.length+b.length) _ Xa Xa) ?_
   rintro r H' ⟨rfl,rfl⟩
   refine Bz1 (X1 f0) ?_
   refine ZbJ (N:=2) (fun k F G'=>Fr.get F 27=.i (k:Int)/\Fr.get F 26=.i 2/\Fr.get F 25=.sl t [[.sl t1 (rI a)],[.sl t2 (rI b)]]/\Fr.get F 6=.sl (.own G.next) (rI (u k))/\Zaa.Ext G G'/\G'.get G.next=some (.tok (u k).length 3 1)) Xb (fun k F G h=>⟨h.1,h.2.1⟩) (GStep.refl _ _) ⟨rfl,rfl,rfl,by rw[u0];rfl,by exact AXT,by rw[u0];exact Zaa.Zat rfl⟩ ?_ ?_
   ·rintro k F G' hk ⟨f27,f26,f25,f6,hx,hg⟩
    have z0:(0:Int)<=(k:Int):=Xa
    have hgl:=Zaa.lt hg
    rcases zbh.1 hk with hk0|rfl
    ·obtain rfl:k=0:=Xa
     have hr0:([[.sl t1 (rI a)],[.sl t2 (rI b)]]:List (List AV))[0]?=some [.sl t1 (rI a)]:=rfl
     generalize ([[.sl t1 (rI a)],[.sl t2 (rI b)]]:List (List AV))=rows at *
     rw[u0]at f6 hg
     have hal:=Zfq a
     have hal0:=Zfq []
     have m1:0+a.length<=maxLen:=by unfold maxLen;omega
     have m2:(0+a.length) * 8<=140737488355328:=Xa
     have m3:a.length<=maxLen:=by unfold maxLen;omega
     have m4:a.length * 8<=140737488355328:=Xa
     have hg:G'.get G.next=some (.tok 0 3 1):=hg
     have f6:Fr.get F 6=.sl (.own G.next) []:=f6
     have hal0:ZaE 1 ([]:List (List AV))=true:=rfl
     skip
     ((have hd:=tv;repeat' first|(first|apply Zad|apply Zac|apply Zab)<;>intro hd<;>try simp only[hd]|simp(disch:=first|assumption|omega|simp only[nx]<;>omega|fail)only[hd,qr,qn,Zqj,↓YA,YY,↓reduceIte,Nat.reduceEqDiff,Nat.reduceAdd,Nat.reduceMul,Nat.reduceLeDiff,Int.reduceToNat,Int.reduceLE,Int.reduceLT,Int.reduceGT,Int.reduceGE,Int.reduceAdd,Int.reduceSub,Int.reduceNeg,Int.reduceBEq,Int.reduceBNe,f27,f26,f25,f6,z0,hr0,hla,hal,hal0,m1,m2,m3,m4,hg,Int.toNat_natCast,List.getElem_cons_zero,zax,List.nil_append,u1])<;>try revert hd;refine ttr ?_)
     exact AXT
    ·rw[u1]at f6 hg
     have hr0:([[.sl t1 (rI a)],[.sl t2 (rI b)]]:List (List AV))[1]?=some [.sl t2 (rI b)]:=rfl
     generalize ([[.sl t1 (rI a)],[.sl t2 (rI b)]]:List (List AV))=rows at *
     have hal:=Zfq a
     have hal2:=Zfq b
     have m1:a.length+b.length<=maxLen:=by unfold maxLen;omega
     have m2:(a.length+b.length) * 8<=140737488355328:=Xa
     have hap:rI a++rI b=rI (a++b):=Xc
     skip
     ((have hd:=tv;repeat' first|(first|apply Zad|apply Zac|apply Zab)<;>intro hd<;>try simp only[hd]|simp(disch:=first|assumption|omega|simp only[nx]<;>omega|fail)only[hd,qr,qn,Zqj,↓YA,YY,↓reduceIte,Nat.reduceEqDiff,Nat.reduceAdd,Nat.reduceMul,Nat.reduceLeDiff,Int.reduceToNat,Int.reduceLE,Int.reduceLT,Int.reduceGT,Int.reduceGE,Int.reduceAdd,Int.reduceSub,Int.reduceNeg,Int.reduceBEq,Int.reduceBNe,f27,f26,f25,f6,z0,hr0,hla,hlb,hal,hal2,m1,m2,hg,hap,Int.toNat_natCast,List.getElem_cons_zero,u2])<;>try revert hd;refine ttr ?_)
     exact⟨by exact AXT,by rw[zac]⟩
   ·rintro F G' ⟨f27,f26,f25,f6,hx,hg⟩
    rw[u2]at f6
    skip
    refine Bz1 (X1 f6) ?_
    exact Zcm rfl
open Go.RowKit Go.Lib
section
variable {D P R C M:Nat} {d:Dv} {p:Pg} {br:Bool} {its:Its} {fet:Int} {np:Nat} {H G:Zaa}
theorem ZNH (hd:DvX D d H) (hoff:d.off=false) (hpu:d.puts.length<=1000000) (k:Nat) (hk:k<d.sec.length):Zay Tryz.prog 100 [.ptr D 0,.i (k:Int)] H fun r G=>r=.tup [eS (d.sho k),.i 0]/\DvX D d G/\KD [100+3] H G:=by
 obtain⟨S,t,rd,hd⟩:=hd
 have hr:=ZN3 hd (k:Int) hpu
 have hv:ZQZ d (k:Int)=.tup [eS (d.sho k),.i 0]:=by
  unfold ZQZ
  rw[show d.rdy (k:Int)=0 by unfold Dv.rdy;rw[if_neg (by simp[hoff]),if_neg Xa],if_pos rfl,Int.toNat_natCast]
 rw[hv]at hr
 refine Zay.mono hr ?_
 rintro r G ⟨rfl,⟨rd2,h1⟩,kf⟩
 refine⟨rfl,⟨S,t,rd2,h1⟩,KD.of kf fun i o hi ho=>?_⟩
 subst hi
 rw[hd.gd]at ho;injection ho with ho;rw[<- ho];simp[kdO]
theorem ZN9 (hd:DvX D d H):Zay Tryz.prog 50 [.ptr D 0] H (Pure H (.i (d.sec.length:Int))):=by
 obtain⟨S,t,rd,hd⟩:=hd
 exact ZML hd
theorem ZPG (hd:DvX D d H) (hoff:d.off=false) (hpu:d.puts.length<=1000000) (hn:2<=d.sec.length):Zay Tryz.prog 51 [.ptr D 0] H fun r G=>r=.tup [eS (d.sho 0),eS (d.sho 1),.i 0]/\DvX D d G/\KD [100+3] H G:=by
 have h0:=fun(K:Zaa) (hK:DvX D d K)=>ZNH hK hoff hpu 0 Xa
 have h1:=fun(K:Zaa) (hK:DvX D d K)=>ZNH hK hoff hpu 1 Xa
 have n0:((0:Int) != 0)=false:=rfl
 refine fnQ cf51 fun Q qr qn=>?_
 refine Bz0 ?_
 refine Zap.use (h0 _ hd) ?_
 rintro _ G ⟨rfl,q1,q2⟩
 refine Bz1 (X1 n0) ?_
 refine Zap.use (h1 _ q1) ?_
 rintro _ G2 ⟨rfl,q3,q4⟩
 refine Bz1 (X1 n0) ?_
 exact Zaq ⟨rfl,q3,q2.trans q4⟩
theorem ZPf (hnp:np=ofP d.sec.length) (hoff:d.off=false) (hpu:d.puts.length<=1000000) (hd:DvX D d H) (h:PgB D P R C M p br its fet np H) (ho:ZOt p) (i:Nat) (hi:i<p.list.length) :
  Zay Tryz.prog 87 [.ptr P 0,.i (i:Int)] H (PgR D P R C M d p br its (fetP fet (ZMX d.sho np (p.list.getD i 0))) np (isV (p.page d.sho np i)) H):=by
 obtain⟨tw,tl,g⟩:=h.g
 obtain⟨ws,W,w1,w2⟩:=h.w
 obtain⟨S,t,rd,hd⟩:=hd
 obtain⟨h1,h2,_⟩:=ho.cat
 have hl:=ho.n
 subst hnp
 refine Zay.mono (ZN8 (p:=p) hoff hpu hd ⟨h1,Xa⟩ g i hi Xa) ?_
 rintro r G ⟨rfl,⟨rd2,q1⟩,q2,q3⟩
 have k:=ZST hd g q3
 exact⟨rfl,⟨S,t,rd2,q1⟩,⟨⟨tw,tl,q2⟩,⟨ws,W,⟨k.g _ _ (by show 167+3 ∉ [100+3,106+3];decide) w1.r,k.g _ _ (by show 149+3 ∉ [100+3,106+3];decide) w1.w,w1.l,w1.n1,w1.n2,w1.b⟩,w2⟩,h.c.keep k Xb⟩,k.mono Xb⟩
def chkP (p:Pg) (sh:Nat->Tx) (np:Nat):Bool:=(List.range p.list.length).all fun i=>(p.page sh np i).isSome
theorem chk_no {p:Pg} {sh:Nat->Tx} {np i:Nat} (hi:i<p.list.length) (h:p.page sh np i=none):chkP p sh np=false:=by
 unfold chkP
 rw[List.all_eq_false]
 exact⟨i,zbb.2 hi,by simp[h]⟩
def chkE (p:Pg) (br:Bool) (d:Dv) (np:Nat):Int:=if ZMu p br d≠0 then ZMu p br d else if chkP p d.sho np=true then 0 else 15
theorem ZQ1 (hnp:np=ofP d.sec.length) (hpu:d.puts.length<=1000000) (hd:DvX D d H) (h:PgB D P R C M p br its fet np H) (ho:ZOt p) (hc:ZMe p d.sho np its) :
  Zay Tryz.prog 31 [.ptr P 0] H (PgE D P R C M d p br np (.i (chkE p br d np)) H):=by
 have hrd:=ZLY hd h
 unfold chkE
 by_cases hr:ZMu p br d=0
 rotate_left
 ·rw[if_pos hr]
  refine ZMC hd h hc ?_
  generalize ZMu p br d=e at *
  have d1:(e != 0)=true:=by simpa using hr
  have hx0:Zaa.Ext H H:=.refl _
  refine fnQ cf31 fun Q qr qn=>?_
  refine Bz0 ?_
  refine qcp (hrd) fun k1=>?_
  ((have hd:=tv;repeat' first|(first|apply Zad|apply Zac|apply Zab)<;>intro hd<;>try simp only[hd]|simp(disch:=first|assumption|omega|simp only[nx]<;>omega|fail)only[hd,qr,qn,ZoW,↓YA,YY,↓reduceIte,Nat.reduceEqDiff,Nat.reduceAdd,Nat.reduceMul,Nat.reduceLeDiff,Int.reduceToNat,Int.reduceLE,Int.reduceLT,Int.reduceGT,Int.reduceGE,Int.reduceAdd,Int.reduceSub,Int.reduceNeg,Int.reduceBEq,Int.reduceBNe,d1])<;>try revert hd;refine ttr ?_)
  exact Zcm rfl
 rw[if_neg (by simpa using hr)]
 have hoff:d.off=false:=by
  unfold ZMu at hr
  split at hr
  ·cases hr
  ·rename_i hh
   simpa using fun e=>hh (.inr e)
 rw[hr]at hrd
 obtain⟨tw,tl,g⟩:=h.g
 have hrl:(rI p.list).length=p.list.length:=Xc
 have hl:=ho.n
 have n0:((0:Int) != 0)=false:=rfl
 have n15:((15:Int) != 0)=true:=rfl
 refine fnQ cf31 fun Q qr qn=>?_
 refine Bz0 ?_
 refine qcp (hrd) fun k1=>?_
 refine Bz1 (X3 n0 g hrl) ?_
 refine ZbJ (N:=p.list.length) (fun k F G=>Fr.get F 17=.i (k:Int)/\Fr.get F 16=.i (p.list.length:Int)/\Fr.get F 0=.ptr P 0/\(∃fet,PgQ D P R C M d p br its fet np H G)/\∀i,i<k->(p.page d.sho np i).isSome=true) Xd (fun k F G h=>⟨h.1,h.2.1⟩) (GStep.refl _ _) ⟨rfl,rfl,rfl,⟨fet,PgQ.same hd h (Zaa.Ext.refl _).bump⟩,fun i hi=>absurd hi (Nat.not_lt_zero i)⟩ ?_ ?_
 ·rintro k F G hk ⟨f17,f16,f0,⟨fet1,q⟩,ha⟩
  have hf:=ZPf hnp hoff hpu q.d q.p ho k hk
  have q0:=q.k
  generalize fetP fet1 (ZMX d.sho np (p.list.getD k 0))=fet2 at *
  cases e:p.page d.sho np k with
  | none =>
   rw[e]at hf
   rw[chk_no hk e]at qr
   unfold isV at hf
   skip
   refine Bz1 (X3 f17 f16 f0) ?_
   refine Zap.use hf ?_
   rintro _ G2 ⟨rfl,q2⟩
   refine Bz1 (X1 n15) ?_
   exact Zaq ⟨its,fet2,hc,rfl,q2.d,q2.p,q0.trans q2.k⟩
  | some s =>
   rw[e]at hf
   unfold isV at hf
   skip
   refine Bz1 (X3 f17 f16 f0) ?_
   refine Zap.use hf ?_
   rintro _ G2 ⟨rfl,q2⟩
   refine Bz1 (X4 f17 f16 f0 n0) ?_
   exact⟨⟨fet2,q2.d,q2.p,q0.trans q2.k⟩,fun i hi=>(zbh.1 hi).elim (ha i) fun h=>by rw[h,e];rfl⟩
 ·rintro F G ⟨f17,f16,f0,⟨fet1,q⟩,ha⟩
  have hck:chkP p d.sho np=true:=by
   unfold chkP
   rw[za6]
   exact fun i hi=>ha i (zbb.1 hi)
  rw[hck]at qr
  skip
  refine Bz0 ?_
  exact Zaq ⟨its,fet1,hc,rfl,q⟩
end
theorem ZQr {rd:Int->Nat->Option Tx} {pages:Int}:∀(m i:Nat) (a:Int) (own list o l:List Int),ZMw rd pages m i a own list=some (o,l)->(list.length:Int)<=pages->pages - list.length<=122 * m->(m=0\/122 * (m - 1:Int)<pages - list.length)->(l.length:Int)=pages/\o.length=own.length+m
 | 0,i,a,own,list,o,l,h,h1,h2,h3=>by
  simp only[ZMw,zaa,zaf]at h
  obtain⟨rfl,rfl⟩:=h
  exact⟨Xa,rfl⟩
 | m+1,i,a,own,list,o,l,h,h1,h2,h3=>by
  unfold ZMw at h
  cases e1:rd a i with
  | none=>rw[e1]at h;cases h
  | some s =>
  rw[e1,Option.bind_some]at h
  cases e2:chT s with
  | none=>rw[e2]at h;cases h
  | some x =>
  rw[e2,Option.bind_some]at h
  split at h
  ·rename_i hc
   have hcl:=hc.1
   have:=ZQr m (i+1) x.1 _ _ o l h (by rw[zac];omega) (by rw[zac];omega) (by rw[zac];omega)
   rw[zac]at this
   exact⟨this.1,by rw[this.2,List.length_cons,List.length_nil];omega⟩
  ·cases h
theorem ZPT {a b:Tx} {r:Rt} (h:choP a b=some r):r.ok=true:=by
 have key:∀{i:Int} {q:Tx} {r:Rt},staP i q=some r->r.ok=true:=fun {i q r} h=>by
  unfold staP at h
  cases hs:slT q with
  | none=>rw[hs]at h;cases h
  | some r2 =>
   rw[hs,Option.bind_some]at h
   split at h
   ·injection h with h
    subst h
    unfold slT at hs
    split at hs
    ·split at hs
     ·rename_i hc
      injection hs with hs
      rw[<- hs]
      exact hc.1
     ·cases hs
    ·cases hs
   ·cases h
 unfold choP at h
 cases h0:staP 0 a with
 | none =>
  cases h1:staP 1 b with
  | none=>rw[h0,h1]at h;cases h
  | some y=>rw[h0,h1]at h;injection h with h;rw[<- h];exact key h1
 | some x =>
  cases h1:staP 1 b with
  | none=>rw[h0,h1]at h;injection h with h;rw[<- h];exact key h0
  | some y =>
   rw[h0,h1]at h
   simp only at h
   split at h
   ·injection h with h;rw[<- h];exact key h1
   ·injection h with h;rw[<- h];exact key h0
theorem okR {r:Rt} (h:r.ok=true):1<=r.gen/\r.gen<=1099511627776/\1<=r.cat/\r.cat<=1048576/\0<=r.nodes/\r.nodes<=1048576/\0<=r.top/\r.top<max r.nodes 1/\r.pages=ZLU r.cat+ZLU r.nodes/\r.pages<=2047/\0<=r.map/\r.map<=2046:=by
 unfold Rt.ok at h
 exact of_decide_eq_true h
theorem nil_ok:ZOt .nil:=⟨Xb,fun _=>rfl,fun h=>absurd h Xb,rfl,rfl,Xb⟩
theorem fol_ok {r:Rt} {own list:List Int} {rd:Int->Nat->Option Tx} (hr:r.ok=true) (h:ZMw rd r.pages (ZL3 r.pages).toNat 0 r.map [] []=some (own,list)):ZOt ⟨r,own,list⟩:=by
 obtain⟨a1,a2,a3,a4,a5,a6,a7,a8,a9,a10,a11,a12⟩:=okR hr
 have hc:0<=r.pages:=by rw[a9];have:=ZNA (show 0<=r.cat by omega) Xa;have:=ZNA a5 Xa;omega
 obtain⟨h1,h2⟩:=ZQr _ _ _ _ _ _ _ h hc (by unfold ZL3;split<;>simp<;>omega) (by unfold ZL3;split<;>simp<;>omega)
 refine⟨⟨by simp only;omega,a2⟩,fun h=>absurd h (by simp only;omega),fun _=>hr,h1,?_,by simp only at h1 ⊢;omega⟩
 simp only
 rw[h2]
 unfold ZL3
 split<;>simp<;>omega
theorem ope_ok {sh:Nat->Tx} {np:Nat} {p:Pg} (h:opeP sh np=some p):ZOt p:=by
 unfold opeP at h
 split at h
 ·injection h with h;rw[<- h];exact nil_ok
 ·rename_i r hr
  split at h
  ·rename_i own list hf
   split at h
   ·injection h with h
    rw[<- h]
    exact fol_ok (ZPT hr) hf
   ·cases h
  ·cases h
end Go.Proofs.YtfjjpndoeppbhaaGreatDoor
