/- Texts of the walk. -/
import Derived.Test.YtdfgoekdlmkdfaaGreatDoorMf
namespace Go.Proofs.YtdfgoekdlmkdfaaGreatDoor
set_option linter.defProp false
set_option maxHeartbeats 64000000
set_option linter.unusedSimpArgs false
set_option linter.unusedVariables false
open Go.RowKit
theorem stable_n {d:Nat} {op:AOp} {F:Fr} {H:Zaa}:AI.stable ⟨none,some d,op⟩ F H=(op.ev F H=some (Fr.get F d,H)):=by
 simp[AI.stable,AI.want]
theorem stable_g {s d:Nat} {t:Bool} {op:AOp} {F:Fr} {H:Zaa}:AI.stable ⟨some (s,t),some d,op⟩ F H=@GdK (Fr.get F s) t ⟨op.ev F H=some (Fr.get F d,H)⟩ ⟨fun _ _=>True⟩:=by
 simp only[AI.stable,AI.want,GdK]
 cases Fr.get F s with
 | sc v =>
  cases v with
  | bool c=>cases c<;>cases t<;>simp
  | _=>rfl
 | _=>rfl
theorem ZiY {F:Fr} {H:Zaa}:(∀r∈([]:List AI),r.stable F H)=True:=Xc
theorem ZhH {F:Fr} {H:Zaa} {a:AI} {l:List AI}:(∀r∈a :: l,r.stable F H)=(a.stable F H/\∀r∈l,r.stable F H):=Xc
theorem ZhK (l:List UInt8):(⟨l.toArray⟩:ByteArray).toList=l:=by rw[ByteArray.toList_eq]
theorem beq_dec (a b:List UInt8):(a == b)=decide (a=b):=by rw[zaR];simp
theorem YE:(∀{l:List UInt8},(⟨l.toArray⟩:ByteArray).toList=l)/\(∀{a b:List UInt8},(a == b)=decide (a=b))/\(∀{l:List UInt8},(⟨l.toArray⟩:ByteArray).size=l.length)/\(∀{α β:Type} {f:α->β} {l:List α} {i:Nat},(l.map f)[i]?=(l[i]?).map f)/\(∀{α:Type} {l:List α} {i:Nat} (h:i<l.length),l[i]?=some l[i]) /\
  (∀{n:Nat},(0<=(n:Int))=True)/\(∀{H:Zaa} {i:Nat} {o o':Zb3},i=H.next->(H.alloc o).set i o'=H.alloc o') /\
  (∀{d op F H},AI.stable ⟨none,some d,op⟩ F H=(op.ev F H=some (Fr.get F d,H)))/\(∀{s d t op F H},AI.stable ⟨some (s,t),some d,op⟩ F H=@GdK (Fr.get F s) t ⟨op.ev F H=some (Fr.get F d,H)⟩ ⟨fun _ _=>True⟩) /\
  (∀{F:Fr} {H:Zaa},(∀r∈([]:List AI),r.stable F H)=True)/\(∀{F:Fr} {H:Zaa} {a:AI} {l:List AI},(∀r∈a :: l,r.stable F H)=(a.stable F H/\∀r∈l,r.stable F H)) :=
 ⟨ZhK _,beq_dec _ _,rfl,List.getElem?_map,zac,Xc,ZaM,stable_n,stable_g,ZiY,ZhH⟩
def YQ:=an7 Zc0.eq_1<|an7 Zgb.eq_1<|an7 Zdn.eq_1<|an7 Zdp.eq_1<|an7 ZzR.eq_1<|an7 Zvp.eq_1<|an7 ZiC.eq_1<|an7 Zqj.eq_1<|an7 ZvP.eq_1<|an7 Zg5.eq_1<|an7 Zga.eq_1<|an7 ZuT.eq_1<|an7 Zlu.eq_1<|an7 ZmV.eq_1<|an7 ZdK.eq_1<|an7 Zjp.eq_1<|an7 Zdx.eq_1<|an7 ZkZ.eq_1<|an7 Zfd.eq_1<|an7 ZkX.eq_1<|an7 ZtC.eq_1<|an7 Zt4.eq_1<|an7 ZtP.eq_1<|an7 ZcW.eq_1<|an7 Zic.eq_1<|an7 Zcf.eq_1<|an7 Zeq.eq_1<|an7 ZfJ.eq_1<|an7 Zpi.eq_1<|an7 Zfr.eq_1<|an7 Zpf.eq_1<|an7 ZpX.eq_1<|an7 Zcx.eq_1<|an7 ZtB.eq_1<|an7 Zfk.eq_1<|an7 Zt8.eq_1<|an7 ZhO.eq_1<|an7 ZuD.eq_1<|an7 ZHi.eq_1<|an7 Zrw.eq_1<|an7 Zr2.eq_1<|an7 ZK3.eq_1<|an7 ZLe.eq_1<|an7 c81_0.eq_1<|an7 Zt0.eq_1<|an7 c83_0.eq_1<|an7 ZLv.eq_1<|an7 ZHf.eq_1<|an7 ZHj.eq_1<|an7 ZlK.eq_1<|an7 ZJm.eq_1<|an7 Zeo.eq_1<|an7 ZLG.eq_1<|an7 Zsn.eq_1<|an7 ZrW.eq_1<|an7 c87_0.eq_1<|an7 Zk7.eq_1<|an7 ZrM.eq_1<|an7 c26_0.eq_1<|an7 ZnP.eq_1<|an7 Zl6.eq_1<|an7 ZoU.eq_1<|an7 Zi8.eq_1<|an7 ZiF.eq_1<|an7 c62_0.eq_1<|an7 Zno.eq_1<|an7 ZqY.eq_1<|an7 c195_0.eq_1<|an7 ZHn.eq_1<|an7 ZoS.eq_1<|an7 ZpQ.eq_1<|an7 Zk1.eq_1<|an7 ZlH.eq_1<|an7 ZDG.eq_1<|an7 ZeY.eq_1<|an7 Zj3.eq_1<|an7 c207_0.eq_1<|an7 c194_0.eq_1<|an7 Zcv.eq_1<|an7 Zks.eq_1<|an7 ZnZ.eq_1<|an7 ZdN.eq_1<|an7 ZJg.eq_1<|an7 c193_0.eq_1<|an7 c210_0.eq_1<|an7 ZGs.eq_1<|an7 ZHh.eq_1<|an7 c206_0.eq_1<|an7 Zxe.eq_1<|an7 c4_0.eq_1<|an7 Zna.eq_1<|an7 Ztx.eq_1<|an7 Zq4.eq_1<|an7 ZkB.eq_1<|an7 ZlE.eq_1<|an7 Zca.eq_1<|an7 Zew.eq_1<|an7 ZkW.eq_1<|an7 Zvh.eq_1<|an7 ZqR.eq_1<|an7 Zo4.eq_1<|an7 ZnE.eq_1<|an7 Zf9.eq_1<|an7 Zeb.eq_1<|an7 ZE3.eq_1<|an7 ZoW.eq_1<|an7 Znk.eq_1<|an7 ZId.eq_1<|an7 ZrX.eq_1<|an7 ZnS.eq_1<|an7 ZtL.eq_1<|an7 ZsN.eq_1<|an7 Zk8.eq_1<|an7 Zrk.eq_1<|an7 ZHo.eq_1<|an7 c47_0.eq_1<|an7 ZeF.eq_1<|an7 ZmE.eq_1<|an7 ZiL.eq_1<|an7 c69_0.eq_1<|an7 ZhM.eq_1<|an7 Znz.eq_1<|an7 Zuo.eq_1<|an7 ZdC.eq_1<|an7 c84_0.eq_1<|an7 c85_0.eq_1<|an7 ZdA.eq_1<|an7 c89_0.eq_1<|an7 ZLl.eq_1<|an7 ZfU.eq_1<|an7 ZHl.eq_1<|an7 Zuv.eq_1<|an7 ZvF.eq_1<|an7 ZcM.eq_1<|an7 Ztv.eq_1<|an7 Ztm.eq_1<|an7 Zgs.eq_1<|an7 Zds.eq_1<|an7 ZmU.eq_1<|an7 ZHm.eq_1<|an7 Zka.eq_1<|an7 ZfC.eq_1<|an7 ZgH.eq_1<|an7 Zln.eq_1<|an7 c196_0.eq_1<|an7 c197_0.eq_1<|c208_0.eq_1
def YY:=an7 YB<|an7 YC<|an7 YE<|an7 YF YZ
theorem qcp {P:Prg} {f:FuncId} {args:List AV} {H:Zaa} {v:AV} {k:AV->Zaa->Prop} (h:Zay P f args H (Pure H v)) (c:∀n,k v (H.bump n)):@Zap P f args H ⟨k⟩:=Zap.use h (by rintro _ _ ⟨rfl,n,rfl⟩;exact c n)
theorem Bz0 {g h:Prop} (k:h) (e:h->g:=by(intro z;(try simp(disch:=first|assumption|omega|simp only[nx]<;>omega|fail)only[qr,qn,YQ,↓YA,YY,sevalprocAttr]);exact z)):g:=e k
theorem Bz1 {f g h:Prop} (w:f) (k:h) (e:f->h->g:=by(intro hZ z;(try simp(disch:=first|assumption|omega|simp only[nx]<;>omega|fail)only[hZ,qr,qn,YQ,↓YA,YY,sevalprocAttr]);exact z)):g:=e w k
theorem Bz2 {g h:Prop} (k:h) (e:h->g:=by(intro z;(try simp(disch:=first|assumption|omega|simp only[nx]<;>omega|fail)only[zan,qr,qn,YQ,↓YA,YY,sevalprocAttr]);exact z)):g:=e k
theorem Bz3 {f g h:Prop} (w:f) (k:h) (e:f->h->g:=by(intro hZ z;(try simp(disch:=first|assumption|omega|simp only[nx]<;>omega|fail)only[hZ,zan,qr,qn,YQ,↓YA,YY,sevalprocAttr]);exact z)):g:=e w k
theorem Bz5 {f g h:Prop} (w:f) (k:h) (e:f->h->g:=by(intro hZ z;(try simp(disch:=first|assumption|omega|simp only[nx]<;>omega|fail)only[hZ,zan,zaw,List.length_nil,List.length_cons,List.length_singleton,zaq,zbo,ZaL,rowsOf,Option.map_none,Option.map_some,Option.getD_none,Option.getD_some,Option.isSome_none,Option.isSome_some,if_true,Int.cast_ofNat_Int,Int.reduceMul,zaL,and_self,or_true,qr,qn,YQ,↓YA,YY,sevalprocAttr]);exact z)):g:=e w k
theorem Bz6 {f g h:Prop} (w:f) (k:h) (e:f->h->g:=by(intro hZ z;(try simp(disch:=first|assumption|omega|simp only[nx]<;>omega|fail)only[hZ,Zdi,qr,qn,YQ,↓YA,YY,sevalprocAttr]);exact z)):g:=e w k
theorem Bz8 {f g h:Prop} (w:f) (k:h) (e:f->h->g:=by(intro hZ z;(try simp(disch:=first|assumption|omega|simp only[nx]<;>omega|fail)only[hZ,Zdi,zan,zaw,List.length_nil,List.length_cons,List.length_singleton,zaq,zbo,ZaL,rowsOf,Option.map_none,Option.map_some,Option.getD_none,Option.getD_some,Option.isSome_none,Option.isSome_some,if_true,Int.cast_ofNat_Int,Int.reduceMul,zaL,and_self,or_true,qr,qn,YQ,↓YA,YY,sevalprocAttr]);exact z)):g:=e w k
theorem xX {a b:Zaa} (h:Zaa.Ext a b:=by(repeat (first|assumption|exact Zaa.Ext.refl _|refine Zaa.Ext.set ?_ (by first|assumption|omega|(simp only[Zaf,Zai,Zam];omega))|refine Zaa.Ext.alloc ?_|refine Zaa.Ext.bump ?_))):Zaa.Ext a b:=h
theorem xG {a:Zaa} {i:Nat} {o:Option Zb3} (h:a.get i=o:=by(repeat (first|rw[Zaa.ZaB]|rw[Zaa.Zah (by omega)]|exact Zaa.Zal (by simp only[nx];omega)|exact Zaa.Zat (by first|rfl|(simp only[nx];omega))|rw[Zaa.Zag (by simp only[nx];omega)]))):a.get i=o:=h
theorem fnQ {pan:Value->Zaa->Prop} {f:FuncId} {ac:Zar} {rs:List Zcq} {N:Nat} {args:List AV} {H:Zaa} {R:AV->Zaa->Prop} (hc:cFn Tryz.prog eqT f=some (ac,rs,N)) (h:∀Q:AEx->Fr->Zaa->Prop,(∀F H,Q .ret F H=match ZcU F H rs with
 | some r=>∃r2 H2,Zb6 r H r2 H2/\R r2 H2
 | none=>False)->(∀F H,Q .normal F H=match ZcU F H rs with
 | some r=>∃r2 H2,Zb6 r H r2 H2/\R r2 H2
 | none=>False)->AW ⟨Tryz.prog,pan⟩ ac Q (Za2 0 args) H) (hn:args.length<=N:=by exact zax rfl):Zay ⟨Tryz.prog,pan⟩ f args H R:=Zak hE hc hn h
theorem X1 {p:Prop} (q:p):True/\p:=⟨trivial,q⟩
theorem X2 {p0 p1:Prop} (q0:p0) (q1:p1):p0/\p1:=⟨q0,q1⟩
theorem X3 {p0 p1 p2:Prop} (q0:p0) (q1:p1) (q2:p2):p0/\p1/\p2:=⟨q0,q1,q2⟩
theorem X4 {p0 p1 p2 p3:Prop} (q0:p0) (q1:p1) (q2:p2) (q3:p3):p0/\p1/\p2/\p3:=⟨q0,q1,q2,q3⟩
theorem X5 {p0 p1 p2 p3 p4:Prop} (q0:p0) (q1:p1) (q2:p2) (q3:p3) (q4:p4):p0/\p1/\p2/\p3/\p4:=⟨q0,q1,q2,q3,q4⟩
theorem X6 {p0 p1 p2 p3 p4 p5:Prop} (q0:p0) (q1:p1) (q2:p2) (q3:p3) (q4:p4) (q5:p5):p0/\p1/\p2/\p3/\p4/\p5:=⟨q0,q1,q2,q3,q4,q5⟩
theorem X7 {p0 p1 p2 p3 p4 p5 p6:Prop} (q0:p0) (q1:p1) (q2:p2) (q3:p3) (q4:p4) (q5:p5) (q6:p6):p0/\p1/\p2/\p3/\p4/\p5/\p6:=⟨q0,q1,q2,q3,q4,q5,q6⟩
theorem X8 {p0 p1 p2 p3 p4 p5 p6 p7:Prop} (q0:p0) (q1:p1) (q2:p2) (q3:p3) (q4:p4) (q5:p5) (q6:p6) (q7:p7):p0/\p1/\p2/\p3/\p4/\p5/\p6/\p7:=⟨q0,q1,q2,q3,q4,q5,q6,q7⟩
theorem X9 {p0 p1 p2 p3 p4 p5 p6 p7 p8:Prop} (q0:p0) (q1:p1) (q2:p2) (q3:p3) (q4:p4) (q5:p5) (q6:p6) (q7:p7) (q8:p8):p0/\p1/\p2/\p3/\p4/\p5/\p6/\p7/\p8:=⟨q0,q1,q2,q3,q4,q5,q6,q7,q8⟩
theorem X10 {p0 p1 p2 p3 p4 p5 p6 p7 p8 p9:Prop} (q0:p0) (q1:p1) (q2:p2) (q3:p3) (q4:p4) (q5:p5) (q6:p6) (q7:p7) (q8:p8) (q9:p9):p0/\p1/\p2/\p3/\p4/\p5/\p6/\p7/\p8/\p9:=⟨q0,q1,q2,q3,q4,q5,q6,q7,q8,q9⟩
theorem X11 {p0 p1 p2 p3 p4 p5 p6 p7 p8 p9 p10:Prop} (q0:p0) (q1:p1) (q2:p2) (q3:p3) (q4:p4) (q5:p5) (q6:p6) (q7:p7) (q8:p8) (q9:p9) (q10:p10):p0/\p1/\p2/\p3/\p4/\p5/\p6/\p7/\p8/\p9/\p10:=⟨q0,q1,q2,q3,q4,q5,q6,q7,q8,q9,q10⟩
theorem X12 {p0 p1 p2 p3 p4 p5 p6 p7 p8 p9 p10 p11:Prop} (q0:p0) (q1:p1) (q2:p2) (q3:p3) (q4:p4) (q5:p5) (q6:p6) (q7:p7) (q8:p8) (q9:p9) (q10:p10) (q11:p11):p0/\p1/\p2/\p3/\p4/\p5/\p6/\p7/\p8/\p9/\p10/\p11:=⟨q0,q1,q2,q3,q4,q5,q6,q7,q8,q9,q10,q11⟩
theorem xV {p:Prop} (h:p:=by simp only[ZaA,Zav,Fr.put,Fr.get,↓reduceIte,Nat.reduceEqDiff];rfl):p:=h
theorem xW {p:Prop} (h:p:=by intro k s;rfl):p:=h
theorem xU {p:Prop} (h:p:=by simp only[ZaJ]):p:=h
theorem xT {p:Prop} (h:p:=by simp only[ZaF,ZaX,Fr.put,Fr.get,↓reduceIte,Nat.reduceEqDiff,and_self]<;>simp):p:=h
theorem xF {p:Prop} (h:p:=by simp only[ZaF]):p:=h
theorem xN {p:Prop} (h:p:=by simp only[nx]):p:=h
theorem bfb (b:Bool):b=false\/b=true:=by cases b<;>simp
theorem byte_at {l:List UInt8} {k:Nat} (h:k<l.length):(⟨l.toArray⟩:ByteArray)[k]?=some l[k]:=by
 show(if h:k<l.toArray.size then some _ else none)=_
 rw[dif_pos (by simpa using h)]
 rfl
abbrev u8 (c:UInt8):AV:=.sc (.int .u8 c.toNat)
def Zy0 (c:UInt8):Bool:=(decide ((97:Int)<=c.toNat)&&decide ((c.toNat:Int)<=122)) || (decide ((48:Int)<=c.toNat)&&decide ((c.toNat:Int)<=57)) || ((c.toNat:Int) == 95)
theorem Zzf (c:UInt8):Zy0 c=ZyJ c:=by
 unfold Zy0 ZyJ
 have e1:decide ((97:Int)<=c.toNat)=decide (97<=c):=by rw[zaR];simp only[decide_eq_true_eq,UInt8.le_iff_toNat_le];exact⟨fun h=>by have:(97:UInt8).toNat=97:=rfl;omega,fun h=>by have:(97:UInt8).toNat=97:=rfl;omega⟩
 have e2:decide ((c.toNat:Int)<=122)=decide (c<=122):=by rw[zaR];simp only[decide_eq_true_eq,UInt8.le_iff_toNat_le];exact⟨fun h=>by have:(122:UInt8).toNat=122:=rfl;omega,fun h=>by have:(122:UInt8).toNat=122:=rfl;omega⟩
 have e3:decide ((48:Int)<=c.toNat)=decide (48<=c):=by rw[zaR];simp only[decide_eq_true_eq,UInt8.le_iff_toNat_le];exact⟨fun h=>by have:(48:UInt8).toNat=48:=rfl;omega,fun h=>by have:(48:UInt8).toNat=48:=rfl;omega⟩
 have e4:decide ((c.toNat:Int)<=57)=decide (c<=57):=by rw[zaR];simp only[decide_eq_true_eq,UInt8.le_iff_toNat_le];exact⟨fun h=>by have:(57:UInt8).toNat=57:=rfl;omega,fun h=>by have:(57:UInt8).toNat=57:=rfl;omega⟩
 have e5:((c.toNat:Int) == 95)=(c == 95):=by
  rw[zaR]
  simp only[beq_iff_eq]
  exact⟨fun h=>UInt8.toNat_inj.1 (by have:(95:UInt8).toNat=95:=rfl;omega),fun h=>by rw[h];rfl⟩
 rw[e1,e2,e3,e4,e5]
theorem Zzw (c:UInt8) (H:Zaa):Zay Tryz.prog 141 [u8 c] H (Pure H (.b (ZyJ c))):=by
 rw[<- Zzf]
 generalize hT:Zy0 c=T
 refine Zak hE cf141 (zax rfl) fun Q qr qn=>?_
 ((have hd:=tv;repeat' first|(first|apply Zad|apply Zac|apply Zab)<;>intro hd<;>try simp only[hd]|simp(disch:=first|assumption|omega|simp only[nx]<;>omega|fail)only[hd,qr,qn,ZdK,↓YA,YY,sevalprocAttr])<;>try revert hd;refine ttr ?_)
 all_goals (refine ZbC ?_;rw[<- hT];unfold Zy0;clear hT;first|(simp_all;done)|(simp_all;omega))
theorem Zhg {α:Type} {l:List α} {p:α->Bool} {k:Nat} (h:k<l.length):(l.take (k+1)).all p=((l.take k).all p&&p l[k]):=by
 rw[zae h,zbt];simp
theorem Zjc {α:Type} {l:List α} {p:α->Bool} {k:Nat} (h:k<l.length) (hp:p l[k]=false):l.all p=false:=by
 rw[List.all_eq_false]
 exact⟨l[k],zah h,by simp[hp]⟩
theorem Zzt {q:Tx} (h:q.all ZyJ=true):ZyB q=!decide (q=[]):=by
 unfold ZyB
 rw[h]
 cases q<;>simp
theorem Zzr {q:Tx} {k:Nat} (hk:k<q.length) (h:ZyJ q[k]=false):ZyB q=false:=by
 unfold ZyB
 rw[Zjc hk h];rfl
theorem ZyI (q:Tx) (H:Zaa) (hl:q.length<=1000000):Zay Tryz.prog 95 [eS q] H (Pure H (.b (ZyB q))):=by
 have hbad:∀k (hk:k<q.length),ZyJ q[k]=false->false=ZyB q:=fun k hk h=>(Zzr hk h).symm
 have hgood:q.all ZyJ=true->(!decide (q=[]))=ZyB q:=fun h=>(Zzt h).symm
 generalize hT:ZyB q=T at hbad hgood
 refine fnQ cf95 fun Q qr qn=>?_
 refine Bz0 ?_
 refine Zbs [0,5] (σ:=Unit) (fun(k:Nat) s=>(q.take k).all ZyJ=true) (fun k s=>[]) (fun k s=>[]) () (GStep.refl _ _) xV xW xW (by rfl) Xd ?_ xF xU ?_ ?_
 ·rfl
 ·(rintro k u G hk ht hG hn;try simp only[nx]at hn)
  have hs:=byte_at hk
  have hb:=hbad k hk
  have hsn:=Zhg (p:=ZyJ) hk
  rw[ht,za3]at hsn
  generalize q[k]=c at *
  clear hbad hgood
  refine Bz1 (X1 hs) ?_
  refine qcp (Zzw c _) fun k1=>?_
  have hc:=bfb (ZyJ c)
  rcases hc with hc|hc
  ·refine Bz1 (X1 hc) ?_
   exact ZbC (hb hc) (hG.ext.bump)
  ·refine Bz1 (X1 hc) ?_
   exact⟨(),by rw[hsn,hc],by exact HXT⟩
 ·(rintro u G ht hG hn;try simp only[nx]at hn)
  rw[zaq]at ht
  refine Bz0 ?_
  exact ZbC (hgood ht) hG.ext
theorem ZyE (q:Tx) (H:Zaa) (hl:q.length<=1000000):Zay Tryz.prog 59 [eS q] H (Pure H (.b (ZyB q))):=by
 have hbad:∀k (hk:k<q.length),ZyJ q[k]=false->false=ZyB q:=fun k hk h=>(Zzr hk h).symm
 have hgood:q.all ZyJ=true->(decide ((q.length:Int) > 0))=ZyB q:=fun h=>by rw[Zzt h];cases q<;>simp<;>omega
 generalize hT:ZyB q=T at hbad hgood
 refine fnQ cf59 fun Q qr qn=>?_
 refine Bz0 ?_
 refine Zcw [0] (σ:=Nat) (fun s=>s<=q.length/\(q.take s).all ZyJ=true) (fun s=>q.length - s) (fun s=>[(3,.i (s:Int))]) (fun s=>[]) 0 (GStep.refl _ _) xV ?_ xT xU ?_
 ·exact⟨zas _,rfl⟩
 ·(rintro i G ⟨h2,h3⟩ hG hn;try simp only[nx]at hn)
  by_cases c:i<q.length
  ·have d2:decide ((i:Int)<(q.length:Int))=true:=decide_eq_true Xa
   have hs:=byte_at c
   have hi0:(0:Int)<=(i:Int):=Xa
   have hw:IntKind.i64.wrap ((i:Int)+1)=((i+1:Nat):Int):=by rw[Zaw Xa Xa];omega
   have hb:=hbad i c
   have hsn:=Zhg (p:=ZyJ) c
   rw[h3,za3]at hsn
   generalize q[i]=ch at *
   rw[<- Zzf]at hb hsn
   clear hbad hgood
   ((have hd:=tv;repeat' first|(first|apply Zad|apply Zac|apply Zab)<;>intro hd<;>try simp only[hd]|simp(disch:=first|assumption|omega|simp only[nx]<;>omega|fail)only[hd,qr,qn,Zqj,↓YA,YY,sevalprocAttr,d2,hs,hi0,hw])<;>try revert hd;refine ttr ?_)
   all_goals first
    | (refine ZbC (hb ?_) hG.ext;clear hb hsn hs hw hG;unfold Zy0;first|(simp_all;done)|grind)
    | (refine⟨i+1,⟨Xa,?_⟩,Xa,⟨rfl,trivial⟩,by exact HXT⟩;rw[hsn];clear hb hsn hs hw hG;unfold Zy0;first|(simp_all;done)|grind)
    | (refine⟨i+1,⟨Xa,?_⟩,Xa,rfl,by exact HXT⟩;rw[hsn];clear hb hsn hs hw hG;unfold Zy0;first|(simp_all;done)|grind)
  ·have d2:decide ((i:Int)<(q.length:Int))=false:=decide_eq_false Xa
   have hi:i=q.length:=Xa
   subst hi
   rw[zaq]at h3
   refine Bz1 (X1 d2) ?_
   exact ZbC (hgood h3) hG.ext
open Go.RowKit Go.Lib
abbrev rB (l:Tx):List (List AV):=l.map fun c=>[u8 c]
def BldA (base:Nat) (H:Zaa) (id:Nat) (l:Tx):Prop :=
 base<=id/\base<=H.next/\((l=[]/\H.get id=some (.cells [.sc (.pointer none),.sl .full []] 134)) \/
  ∃t,l≠[]/\base<=t/\t≠id/\H.get id=some (.cells [.ptr id 0,.sl (.own t) (rB l)] 134)/\H.get t=some (.tok l.length 5 1))
theorem ok_cc:Zmq Tryz.prog 125:=⟨_,Tryz.func125,Xg,Xg⟩
theorem ok_str:Zmq Tryz.prog 80:=⟨_,Tryz.func80,Xg,Xg⟩
theorem x72:Builder.X72 Tryz.prog ZyU:=⟨ZzF.sizeBuilder,ZzF.liesBuilder⟩
theorem Zy5 {g:Gh} {H:Zaa} {w:World} (hW:WR g H w) {id:Nat} {a0 a1:AV} {E:TypeId} (h:H.get id=some (.cells [a0,a1] E)) {b:Nat} (hb:g.ι id=some b) :
  ∃c0 c1,w.heap[b]?=some (.cells #[c0,c1] E (0,0))/\VR g w a0 c0/\VR g w a1 c1/\a0.one=true/\a1.one=true/\∀j,¬g.RO b j:=by
 obtain⟨b',carr,a1',a2,a3,a4,a5⟩:=hW.obj id _ h
 obtain rfl:b'=b:=by rw[hb]at a1';injection a1' with e;exact e.symm
 obtain⟨c0,c1,hc⟩:∃c d,carr.toList=[c,d]:=by
  match carr.toList,a3.1 with
  | [c,d],_=>exact⟨c,d,rfl⟩
 rw[hc]at a3
 have:carr=#[c0,c1]:=by apply zaO;simpa using hc
 subst this
 exact⟨c0,c1,a2,a3.2 0 _ _ rfl rfl,a3.2 1 _ _ rfl rfl,a4 _ Xc,a4 _ Xc,a5⟩
theorem cc_fresh (id:Nat) (v:AV) (H:Zaa) (h:H.get id=some (.cells [.sc (.pointer none),v] 134)) :
  Zay Tryz.prog 125 [.ptr id 0] H fun r H'=>r=.tup []/\H'=H.set id (.cells [.ptr id 0,v] 134):=by
 refine⟨ok_cc,fun g w vs hW hV hEn=>?_⟩
 obtain⟨v0,rfl⟩:∃v0,vs=[v0]:=by
  match vs,hV.1 with
  | [v0],_=>exact⟨v0,rfl⟩
 have h0:=hV.2 0 _ _ rfl rfl
 cases h0 with
 | ptr _ _ b hb =>
 obtain⟨c0,c1,e1,e2,e3,e4,e5,e6⟩:=Zy5 hW h hb
 cases e2
 have hlt:=(Array.getElem?_eq_some_iff.1 e1).1
 refine(Any.Builder_copyCheck_fresh { Zz1 with } x72 b w (by simp[World.cell?,e1]) (by simp[World.shape?,e1];rfl) (by simp[World.frozen?,e1])).mono fun e w' ⟨he,hw⟩=>?_
 have hb2:w'.heap[b]?=some (.cells #[.pointer (some ⟨b,0,none⟩),c1] 134 (0,0)):=by
  have hg:w.heap[b]=.cells #[.pointer none,c1] 134 (0,0):=by
   rw[Array.getElem?_eq_getElem hlt]at e1;exact za4 e1
  subst hw
  simp[World.setCell,zbU,hlt,hg]
 obtain⟨k1,k2⟩:=ZfL (w':=w') (o':=.cells [.ptr id 0,v] 134) hW h (b:=b) hb (fun b'=>zaf) (fun b' hne=>by subst hw;exact Below.heap_setCell _ _ _ _ hne) (by subst hw;simp) (by subst hw;rfl) (by subst hw;rfl) (by subst hw;rfl) (fun j hj=>absurd hj (e6 j))
  (fun hle=>⟨b,_,hb,hb2,(VRs.nil.cons (e3.mono hle)).cons (.ptr id 0 b hb),fun x hx=>by
   rcases zak.1 hx with rfl|hx
   ·rfl
   ·obtain rfl:=zat.1 hx;exact e5,e6⟩)
 exact .inl ⟨_,_,_,g,he,⟨rfl,rfl⟩,.tup _ _ rfl (fun i x u hx=>by simp at hx),k1,k2⟩
theorem cc_used (id:Nat) (v:AV) (H:Zaa) (h:H.get id=some (.cells [.ptr id 0,v] 134)) :
  Zay Tryz.prog 125 [.ptr id 0] H fun r H'=>r=.tup []/\H'=H:=by
 refine⟨ok_cc,fun g w vs hW hV hEn=>?_⟩
 obtain⟨v0,rfl⟩:∃v0,vs=[v0]:=by
  match vs,hV.1 with
  | [v0],_=>exact⟨v0,rfl⟩
 have h0:=hV.2 0 _ _ rfl rfl
 cases h0 with
 | ptr _ _ b hb =>
 obtain⟨c0,c1,e1,e2,e3,e4,e5,e6⟩:=Zy5 hW h hb
 cases e2 with
 | ptr _ _ b2 hb2 =>
 obtain rfl:b2=b:=by rw[hb]at hb2;injection hb2 with e;exact e.symm
 refine(Any.Builder_copyCheck_used { Zz1 with } x72 b2 w (by simp[World.cell?,e1])).mono fun e w' ⟨he,hw⟩=>?_
 subst hw
 exact .inl ⟨_,_,_,g,he,⟨rfl,rfl⟩,.tup _ _ rfl (fun i x u hx=>by simp at hx),hW,.refl _ _ _⟩
set_option maxRecDepth 100000 in
theorem ZzQ (b g cap:Nat) (p:Value) (cur:Array Value) (l:Tx) (w:World) (hbk:w.heap[b]?=some (.cells #[p,.slice (some ⟨g,0,none⟩) l.length cap] 134 (0,0))) (hg:w.heap[g]?=some (.cells cur 5 (0,0))) (h0:l≠[]) (hc:l.length<=cap) (hc2:l.length<=cur.size) (h63:l.length<=9223372036854775807)
  (hcell:∀(j:Nat) x,l[j]?=some x->w.cell? ⟨g,j,none⟩=some (.int .u8 x.toNat)):Calls Tryz.prog 80 #[.pointer (some ⟨b,0,none⟩)] w fun e w'=>e=.returned (.string ⟨l.toArray⟩)/\w'=w.drew.freeze ⟨g,0,none⟩ l.length:=by
 have hpos:=List.length_pos_iff.2 h0
 have c1:w.drew.cell? ⟨b,1,none⟩=some (.slice (some ⟨g,0,none⟩) l.length cap):=by
  have:w.drew.heap[b]?=some (.cells #[p,.slice (some ⟨g,0,none⟩) l.length cap] 134 (0,0)):=hbk
  rw[Lib.cell_of_heap this];rfl
 have hSD:=Lib.run_unsafeSliceData_row (P:=Tryz.prog) (w:=w.drew) #[105] 184 ⟨g,0,none⟩ l.length cap Xa
 have hUS:=Lib.run_unsafeString_row (P:=Tryz.prog) w.drew 184 3 9 5 Tryz.underlying184 Xg g cur.size (by have hg':w.drew.heap[g]?=some (.cells cur 5 (0,0)):=hg;simp[World.shape?,hg']) l h0 hc2 h63 (fun j x hx=>by
  have e:(⟨g,0,none⟩:Addr).add j=⟨g,j,none⟩:=by cases j<;>simp[Addr.add]
  rw[e]
  exact hcell j x hx)
 have mixed:Tryz.prog.follows Departure.mixedOrders=true:=by kernel_rfl
 go_enter Tryz.func80,Tryz.ntmps80
 go_wp2
 go_region_o
 all_goals (go_wp2;go_ret;exact⟨rfl,rfl⟩)
def Zaa.del1 (H:Zaa) (t:Nat):Zaa:=⟨fun i=>if i=t then none else H.get i,H.next,fun i hi=>by
 split
 ·rfl
 ·exact H.wf i hi⟩
theorem Zz5 {g:Gh} {H:Zaa} {w:World} (hW:WR g H w) {t b n:Nat} {o:Zb3} (ht:H.get t=some o) (hb:Zcy g t o b) {carr:Array Value} {E:TypeId} {fz:Nat×Nat} (hcar:w.heap[b]?=some (.cells carr E fz)) :
  WR g (H.del1 t) (w.freeze ⟨b,0,none⟩ n)/\Stp g H w g (H.del1 t) (w.freeze ⟨b,0,none⟩ n):=by
 have hother:∀b',b'≠b->(w.freeze ⟨b,0,none⟩ n).heap[b']?=w.heap[b']?:=fun b' hne=>by
  unfold World.freeze
  split
  ·rfl
  ·simp only[Array.getElem?_modify]
   rw[if_neg Xa]
 have hsz:(w.freeze ⟨b,0,none⟩ n).heap.size=w.heap.size:=by
  unfold World.freeze
  split
  ·rfl
  ·simp
 have hsame:∃fz',(w.freeze ⟨b,0,none⟩ n).heap[b]?=some (.cells carr E fz'):=by
  unfold World.freeze
  split
  ·exact⟨fz,hcar⟩
  ·obtain⟨lo,hi⟩:=fz
   simp only[Array.getElem?_modify,hcar,if_true,Option.map_some]
   exact⟨_,rfl⟩
 obtain⟨fz',hsame⟩:=hsame
 have hcell:∀b' j,(w.freeze ⟨b,0,none⟩ n).cell? ⟨b',j,none⟩=w.cell? ⟨b',j,none⟩:=fun b' j=>by
  by_cases e:b'=b
  ·subst e
   simp only[World.cell?,hsame,hcar]
  ·exact Zcb (hother b' e) j
 have hos:(w.freeze ⟨b,0,none⟩ n).os=w.os/\(w.freeze ⟨b,0,none⟩ n).tape=w.tape/\(w.freeze ⟨b,0,none⟩ n).output=w.output:=by
  unfold World.freeze
  split<;>exact⟨rfl,rfl,rfl⟩
 have hget:∀i o',(H.del1 t).get i=some o'->i≠t/\H.get i=some o':=fun i o' h=>by
  simp only[Zaa.del1]at h
  split at h
  ·cases h
  ·rename_i e;exact⟨e,h⟩
 have hle:g.le g w (w.freeze ⟨b,0,none⟩ n):=⟨fun _ _ h=>h,fun _ _ _ _ h=>⟨_,_,_,h,.inr ⟨rfl,rfl,rfl⟩⟩,fun _ _ _ h=>h,fun _ _ h=>h,fun b' j _=>hcell b' j,fun b' e=>by
  by_cases e2:b'=b
  ·subst e2;rw[hcar]at e;cases e
  ·exact(hother b' e2).trans e,rfl⟩
 refine⟨⟨fun i o' h=>?_,fun i i' o1 o2 b' h1 h2=>hW.inj i i' o1 o2 b' (hget _ _ h1).2 (hget _ _ h2).2,hW.dom,fun i o' b' h=>by rw[hsz];exact hW.bd i o' b' (hget _ _ h).2,fun b' j h=>by rw[hsz];exact hW.ro b' j h⟩,
  ⟨hle,zad _,hos.1,hos.2.1,hos.2.2,by rw[hsz];exact zad _,fun b' _ hno=>hother b' fun e=>hno ⟨t,o,ht,by rw[e];exact hb⟩,fun b' _ ⟨i,o',h1,h2⟩=>⟨i,o',(hget _ _ h1).2,h2⟩,fun _ _ _ h=>.inl h⟩⟩
 obtain⟨h1,h2⟩:=hget _ _ h
 exact(hW.obj i o' h2).mono hle (fun b' hb'=>hother b' fun e=>h1 (hW.inj i t o' o b' h2 ht hb' (by rw[e];exact hb))) (fun _ _ _ h=>h) rfl rfl (fun _=>rfl)
theorem Zxi (base id:Nat) (l:Tx) (H:Zaa) (hB:BldA base H id l) (hne0:l≠[]) (hl:l.length<=1000000):Zay Tryz.prog 80 [.ptr id 0] H fun r G=>r=eS l/\H.next<=G.next/\∀i,i<base->G.get i=H.get i:=by
 refine⟨ok_str,fun g w vs hW hV hEn=>?_⟩
 obtain⟨v0,rfl⟩:∃v0,vs=[v0]:=by
  match vs,hV.1 with
  | [v0],_=>exact⟨v0,rfl⟩
 have h0:=hV.2 0 _ _ rfl rfl
 cases h0 with
 | ptr _ _ b hb =>
 obtain⟨hb1,hb2,⟨rfl,hg⟩|⟨t,hne,ht1,ht2,hg,htok⟩⟩:=hB
 ·exact absurd rfl hne0
 ·obtain⟨c0,c1,e1,e2,e3,e4,e5,e6⟩:=Zy5 hW hg hb
  obtain⟨cap,blk,q1,q2,q3,q4⟩:=hW.obj t _ htok
  cases e3 with
  | sl _ _ A c sz bb o f hc hm hA hsz hcell hv ht =>
  obtain⟨fr,cap',blk',r1,r2,r3⟩:=ht
  rw[q1]at r1
  obtain⟨rfl,rfl,rfl⟩:fr=l.length/\cap'=cap/\blk'=blk:=by simpa using r1.symm
  have hlen:(rB l).length=l.length:=Xc
  have hpos:=List.length_pos_iff.2 hne
  obtain⟨r4,r5⟩:=r3 hlen
  subst r4
  have r5:=r5 Xa
  obtain⟨carr,p1,p2,_⟩:=q4 Xa
  have hrn:rB l≠[]:=fun e=>hne (by simpa using e)
  have hA:=hA hrn
  rw[r5]at hA
  obtain⟨rfl,rfl⟩:blk'=bb/\0=o:=by simpa using hA
  have hone:sz=1:=by
   obtain⟨x,hx⟩:=zbJ l hne
   have:=(hsz [u8 x] (List.mem_map.2 ⟨x,hx,rfl⟩)).1
   simpa using this.symm
  subst hone
  rw[r5,hlen]at e1
  have hcells:∀(j:Nat) x,l[j]?=some x->w.cell? ⟨blk',j,none⟩=some (.int .u8 x.toNat):=fun j x hx=>by
   have hr:(rB l)[j]?=some [u8 x]:=by simp[hx]
   have h1:=(hcell j [u8 x] 0 (u8 x) hr rfl).1
   have h2:=hv j [u8 x] 0 (u8 x) hr rfl
   rw[show 0+j * 1+0=j by omega]at h1
   rw[h1]
   generalize f j 0=y at h2
   cases h2
   rfl
  refine(ZzQ b blk' _ c0 carr l w e1 p1 hne Xa Xa Xa hcells).mono fun e w' ⟨he,hw⟩=>?_
  subst hw
  obtain⟨d1,d2⟩:=hW.drew
  obtain⟨k1,k2⟩:=Zz5 (n:=l.length) d1 htok (b:=blk') ⟨_,_,q1,Xa⟩ p1
  refine .inl ⟨_,_,H.del1 t,g,he,⟨rfl,zad _,fun i hi=>?_⟩,.sc _,k1,d2.trans k2⟩
  simp only[Zaa.del1]
  rw[if_neg Xa]
def WbQ (base id:Nat) (l:Tx) (c:UInt8) (H:Zaa) (r:AV) (G:Zaa):Prop:=r=.sc .nilIface/\H.next<=G.next/\BldA base G id (l++[c])/\∀i,i<base->G.get i=H.get i
theorem ZyT (base id:Nat) (l:Tx) (c:UInt8) (H:Zaa) (hB:BldA base H id l) (hl:l.length<=1000000):Zay Tryz.prog 96 [.ptr id 0,u8 c] H (WbQ base id l c H):=by
 have hlr:(rB l).length=l.length:=Xc
 have hall:ZaE 1 (rB l)=true:=ZaU (f:=fun c:UInt8=>[u8 c]) (sz:=1) (fun _=>rfl) l
 obtain⟨hb1,hb2,⟨rfl,hg⟩|⟨t,hne,ht1,ht2,hg,htok⟩⟩:=hB
 ·have hid:=Zaa.lt hg
  have hcc:=cc_fresh id (.sl .full []) H hg
  obtain⟨H1,hH1⟩:∃H1,H1=H.set id (.cells [.ptr id 0,.sl .full []] 134):=⟨_,rfl⟩
  rw[<- hH1]at hcc
  have g1:H1.get id=some (.cells [.ptr id 0,.sl .full []] 134):=by rw[hH1,Zaa.Zal hid]
  have n1:H1.next=H.next:=by rw[hH1];rfl
  have f1:∀i,i<base->H1.get i=H.get i:=fun i hi=>by rw[hH1,Zaa.Zah Xa]
  refine fnQ cf96 fun Q qr qn=>?_
  refine Bz0 ?_
  refine Zap.use hcc ?_
  rintro r H' ⟨rfl,rfl⟩
  have hc1:(ZaE 1 [[AV.sc (Value.int IntKind.u8 ↑c.toNat)]]=true/\1<=maxLen/\ZaE 1 ([]:List (List AV))=true)=True:=by
   rw[eq_iff_iff,iff_true];exact⟨rfl,Xd,rfl⟩
  have g2:(H'.alloc (.tok 1 5 1)).get id=some (.cells [.ptr id 0,.sl .full []] 134):=(Zaa.Zag Xa).trans g1
  refine Bz1 (X3 g1 hc1 g2) ?_
  refine Zaq ⟨rfl,by simp only[Zaa.ZaH,Zaa.Zax];omega,⟨hb1,by simp only[Zaa.ZaH,Zaa.Zax];omega,.inr ⟨H'.next,Xc,Xa,Xa,?_,?_⟩⟩,fun i hi=>?_⟩
  ·exact Zaa.Zal (by simp only[Zaa.Zax];omega)
  ·rw[Zaa.Zah Xa];exact Zaa.Zae
  ·rw[Zaa.Zah Xa,Zaa.Zag Xa];exact f1 i hi
 ·have hid:=Zaa.lt hg
  have hit:=Zaa.lt htok
  have hcc:=cc_used id (.sl (.own t) (rB l)) H hg
  have e1:(rB l)++[[u8 c]]=rB (l++[c]):=Xc
  have hc1:(ZaE 1 [[AV.sc (Value.int IntKind.u8 ↑c.toNat)]]=true/\l.length+1<=maxLen/\l.length<=140737488355327/\ZaE 1 (rB l)=true)=True:=by
   rw[eq_iff_iff,iff_true];exact⟨rfl,Xd,Xa,hall⟩
  have g2:(H.set t (.tok (l.length+1) 5 1)).get id=some (.cells [.ptr id 0,.sl (.own t) (rB l)] 134):=(Zaa.Zah (fun e=>ht2 e.symm)).trans hg
  refine fnQ cf96 fun Q qr qn=>?_
  refine Bz0 ?_
  refine Zap.use hcc ?_
  rintro r H' ⟨rfl,rfl⟩
  refine Bz1 (X5 hg htok hc1 hlr g2) ?_
  refine Zaq ⟨rfl,zad _,⟨hb1,hb2,.inr ⟨t,Xc,ht1,ht2,?_,?_⟩⟩,fun i hi=>?_⟩
  ·rw[<- e1];exact Zaa.Zal hid
  ·rw[Zaa.Zah ht2,zaa];exact Zaa.Zal hit
  ·rw[Zaa.Zah Xa,Zaa.Zah Xa]
def hex2 (c:UInt8):Tx:=[ZyR (c / 16),ZyR (c % 16)]
def Zy7 (l:Tx):Tx:=37 :: l.flatMap hex2
theorem ZyN {l:Tx} (h:ZyB l=false):ZyH l=Zy7 l:=by unfold ZyH Zy7;rw[h];rfl
theorem ZyF {l:Tx} (h:ZyB l=true):ZyH l=l:=by unfold ZyH;rw[h];rfl
theorem Zzj (l:Tx) {k:Nat} (h:k<l.length):Zy7 (l.take (k+1))=Zy7 (l.take k)++[ZyR (l[k] / 16)]++[ZyR (l[k] % 16)]:=by
 unfold Zy7
 rw[zae h,za5]
 simp[hex2]
theorem ZyP (l:Tx):(Zy7 l).length=2 * l.length+1:=by
 unfold Zy7
 rw[List.length_cons]
 congr 1
 induction l with
 | nil=>rfl
 | cons x l ih=>rw[zaz,zaa,ih];simp[hex2];omega
def digs:Tx:=[48,49,50,51,52,53,54,55,56,57,97,98,99,100,101,102]
theorem dig_at:∀n:Fin 16,digs[n.val]?=some (ZyR (UInt8.ofNat n.val)):=by decide +kernel
theorem hi_lo:∀n:Fin 256,(UInt8.ofNat n.val / 16).toNat=n.val / 16/\(UInt8.ofNat n.val % 16).toNat=n.val % 16/\UInt8.ofNat (n.val / 16)=UInt8.ofNat n.val / 16/\UInt8.ofNat (n.val % 16)=UInt8.ofNat n.val % 16:=by decide +kernel
theorem byte_hi (c:UInt8):c.toNat / 16<16/\digs[c.toNat / 16]?=some (ZyR (c / 16)):=by
 have hlt:c.toNat<256:=c.toNat_lt
 have h:=hi_lo ⟨c.toNat,hlt⟩
 simp only[UInt8.ofNat_toNat]at h
 refine⟨Xa,?_⟩
 have:=dig_at ⟨c.toNat / 16,Xa⟩
 rw[this,h.2.2.1]
theorem byte_lo (c:UInt8):c.toNat % 16<16/\digs[c.toNat % 16]?=some (ZyR (c % 16)):=by
 have hlt:c.toNat<256:=c.toNat_lt
 have h:=hi_lo ⟨c.toNat,hlt⟩
 simp only[UInt8.ofNat_toNat]at h
 refine⟨Xa,?_⟩
 have:=dig_at ⟨c.toNat % 16,Xa⟩
 rw[this,h.2.2.2]
theorem Zy6 (l:Tx) (k:Nat):(⟨l.toArray⟩:ByteArray)[k]?=l[k]?:=by
 by_cases h:k<l.length
 ·rw[byte_at h,zac h]
 ·rw[List.getElem?_eq_none Xa]
  show(if h:k<l.toArray.size then some _ else none)=_
  rw[dif_neg (by simpa using h)]
theorem shr4 (n:Nat):((n:Int).fdiv (2 ^ min 4 IntKind.u8.bits))=((n / 16:Nat):Int):=by
 have:min 4 IntKind.u8.bits=4:=rfl
 rw[this]
 rw[zbE _ Xb]
 omega
theorem and15F:∀n:Fin 256,IntKind.u8.wrap ((BitVec.ofInt IntKind.u8.bits (n.val:Int) &&& BitVec.ofInt IntKind.u8.bits 15).toNat:Int)=((n.val % 16:Nat):Int):=by decide +kernel
theorem and15 (c:UInt8):IntKind.u8.wrap ((BitVec.ofInt IntKind.u8.bits (c.toNat:Int) &&& BitVec.ofInt IntKind.u8.bits 15).toNat:Int)=((c.toNat % 16:Nat):Int):=and15F ⟨c.toNat,c.toNat_lt⟩
theorem ext_of {base:Nat} {H G:Zaa} (hb:base=H.next) (hn:base<=G.next) (hf:∀i,i<base->G.get i=H.get i):Zaa.Ext H G:=⟨Xa,fun i o ho=>(hf i (by have:=Zaa.lt ho;omega)).trans ho⟩
theorem ZyQ (q:Tx) (H:Zaa) (hl:q.length<=100000):Zay Tryz.prog 51 [eS q] H (Pure H (eS (ZyH q))):=by
 have hc:=bfb (ZyB q)
 rcases hc with hc|hc
 ·rw[ZyN hc]
  have hlen:=ZyP q
  refine fnQ cf51 fun Q qr qn=>?_
  refine Bz0 ?_
  refine qcp (ZyI q _ Xa) fun k1=>?_
  refine Bz1 (X1 hc) ?_
  have hb0:BldA H.next ((H.bump k1).alloc (.cells [.sc (.pointer none),.sl .full []] 134)) (H.next+k1) []:=⟨Xa,Xf,.inl ⟨rfl,Zaa.Zae (H:=H.bump k1)⟩⟩
  have hf0:∀i,i<H.next->((H.bump k1).alloc (.cells [.sc (.pointer none),.sl .full []] 134)).get i=H.get i:=fun i hi=>by
   rw[Zaa.Zag Xe];rfl
  refine Zap.use (ZyT H.next (H.next+k1) [] 37 _ hb0 Xc) ?_
  rintro r G ⟨rfl,hn1,hB1,hf1⟩
  have hf1:∀i,i<H.next->G.get i=H.get i:=fun i hi=>(hf1 i hi).trans (hf0 i hi)
  clear hf0 hb0
  generalize H.next+k1=id at *
  refine Bz0 ?_
  refine ZbJ (N:=q.length) (fun k F G=>Fr.get F 11=.i (k:Int)/\Fr.get F 10=.i (q.length:Int)/\Fr.get F 0=eS q/\Fr.get F 3=.ptr id 0/\BldA H.next G id (Zy7 (q.take k))/\∀i,i<H.next->G.get i=H.get i) Xd (fun k F G h=>⟨h.1,h.2.1⟩) (GStep.refl _ _) ⟨rfl,rfl,rfl,rfl,hB1,hf1⟩ ?_ ?_
  ·rintro k F G hk ⟨f11,f10,f0,f3,hB,hf⟩
   have hs:=byte_at hk
   have h0:(0:Int)<=(k:Int):=Xa
   have hsn:=Zzj q hk
   have hle:=ZyP (q.take k)
   have hlt:(q.take k).length<=q.length:=by rw[zau];omega
   generalize q[k]=c at *
   obtain⟨hi1,hi2⟩:=byte_hi c
   obtain⟨lo1,lo2⟩:=byte_lo c
   have hv1:=shr4 c.toNat
   have hd1:(⟨#[48,49,50,51,52,53,54,55,56,57,97,98,99,100,101,102]⟩:ByteArray)[c.toNat / 16]?=some (ZyR (c / 16)):=(Zy6 digs _).trans hi2
   have hd2:(⟨#[48,49,50,51,52,53,54,55,56,57,97,98,99,100,101,102]⟩:ByteArray)[c.toNat % 16]?=some (ZyR (c % 16)):=(Zy6 digs _).trans lo2
   have hz1:(0:Int)<=((c.toNat / 16:Nat):Int):=Xa
   have ht1:(((c.toNat / 16:Nat):Int)).toNat=c.toNat / 16:=Xa
   refine Bz1 (X10 f11 f10 f0 f3 hs h0 hv1 hd1 hz1 ht1) ?_
   refine Zap.use (ZyT H.next id _ (ZyR (c / 16)) _ hB Xa) ?_
   rintro r G2 ⟨rfl,hn2,hB2,hf2⟩
   have hv2:=and15 c
   have hz2:(0:Int)<=((c.toNat % 16:Nat):Int):=Xa
   have ht2:(((c.toNat % 16:Nat):Int)).toNat=c.toNat % 16:=Xa
   refine Bz1 (X10 f11 f10 f0 f3 hs h0 hv2 hd2 hz2 ht2) ?_
   refine Zap.use (ZyT H.next id _ (ZyR (c % 16)) _ hB2 (by rw[zaa];simp only[List.length_cons,List.length_nil];omega)) ?_
   rintro r G3 ⟨rfl,hn3,hB3,hf3⟩
   rw[<- hsn]at hB3
   refine Bz1 (X4 f11 f10 f0 f3) ?_
   exact⟨hB3,fun i hi=>(hf3 i hi).trans ((hf2 i hi).trans (hf i hi))⟩
  ·rintro F G ⟨f11,f10,f0,f3,hB,hf⟩
   rw[zaq]at hB
   have hn:=hB.2.1
   refine Bz1 (X4 f11 f10 f0 f3) ?_
   refine Zap.use (Zxi H.next id _ G hB (by simp[Zy7]) Xa) ?_
   rintro r G2 ⟨rfl,hn2,hf2⟩
   refine Bz0 ?_
   exact ZaW (ext_of rfl Xa fun i hi=>(hf2 i hi).trans (hf i hi)) rfl
 ·rw[ZyF hc]
  refine fnQ cf51 fun Q qr qn=>?_
  refine Bz0 ?_
  refine qcp (ZyI q _ Xa) fun k1=>?_
  refine Bz1 (X1 hc) ?_
  refine Zcm (by rfl)
theorem hexF1:∀n:Fin 16,n.val<10->IntKind.u8.wrap (48+(n.val:Int))=((ZyR (UInt8.ofNat n.val)).toNat:Int):=by decide +kernel
theorem hexF2:∀n:Fin 16,¬n.val<10->IntKind.u8.wrap (IntKind.u8.wrap (97+(n.val:Int)) - 10)=((ZyR (UInt8.ofNat n.val)).toNat:Int):=by decide +kernel
theorem Zy4 (n:Nat) (hn:n<16) (H:Zaa):Zay Tryz.prog 60 [.sc (.int .u8 (n:Int))] H (Pure H (u8 (ZyR (UInt8.ofNat n)))):=by
 by_cases h:n<10
 ·have d:decide ((n:Int)<10)=true:=by simp;omega
  have hw:=hexF1 ⟨n,hn⟩ h
  simp only at hw
  refine fnQ cf60 fun Q qr qn=>?_
  refine Bz1 (X2 d hw) ?_
  refine Zcm (by rfl)
 ·have d:decide ((n:Int)<10)=false:=by simp;omega
  have hw:=hexF2 ⟨n,hn⟩ h
  simp only at hw
  refine fnQ cf60 fun Q qr qn=>?_
  refine Bz1 (X2 d hw) ?_
  refine Zcm (by rfl)
theorem hex_hi (c:UInt8) (H:Zaa):Zay Tryz.prog 60 [.sc (.int .u8 ((c.toNat / 16:Nat):Int))] H (Pure H (u8 (ZyR (c / 16)))):=by
 have h:=hi_lo ⟨c.toNat,c.toNat_lt⟩
 simp only[UInt8.ofNat_toNat]at h
 have:=Zy4 (c.toNat / 16) (by have:=c.toNat_lt;omega) H
 rw[h.2.2.1]at this
 exact this
theorem hex_lo (c:UInt8) (H:Zaa):Zay Tryz.prog 60 [.sc (.int .u8 ((c.toNat % 16:Nat):Int))] H (Pure H (u8 (ZyR (c % 16)))):=by
 have h:=hi_lo ⟨c.toNat,c.toNat_lt⟩
 simp only[UInt8.ofNat_toNat]at h
 have:=Zy4 (c.toNat % 16) Xa H
 rw[h.2.2.2]at this
 exact this
def ZCe (base:Nat) (G:Zaa) (E:TypeId) (sz n:Nat) (tok:Tok):Prop:=tok=.full\/∃t,base<=t/\tok=.own t/\G.get t=some (.tok n E sz)
theorem ZyX:∀l:Tx,Zef (rB l)=some (l.map fun c=>(c.toNat:Int))
 | []=>rfl
 | c :: l=>by
  have ih:=ZyX l
  simp only[zao,Zef]at ih ⊢
  rw[ih]
  rfl
theorem Zza (l:Tx):strOf (l.map fun c=>(c.toNat:Int))=⟨l.toArray⟩:=by
 have key:∀(l:Tx) (r:ByteArray),(l.map fun c=>(c.toNat:Int)).foldl (fun r n=>r.push (UInt8.ofNat n.toNat)) r=⟨r.data++l.toArray⟩:=by
  intro l
  induction l with
  | nil=>intro r;simp
  | cons c l ih =>
   intro r
   simp only[zao,List.foldl_cons]
   rw[ih]
   congr 1
   simp[ByteArray.data_push]
 unfold strOf
 rw[key]
 simp
theorem quo16 (c:UInt8):IntKind.u8.wrap ((c.toNat:Int).tdiv 16)=((c.toNat / 16:Nat):Int):=by
 have:∀n:Fin 256,IntKind.u8.wrap ((n.val:Int).tdiv 16)=((n.val / 16:Nat):Int):=by decide +kernel
 exact this ⟨c.toNat,c.toNat_lt⟩
theorem rem16 (c:UInt8):IntKind.u8.wrap ((c.toNat:Int).tmod 16)=((c.toNat % 16:Nat):Int):=by
 have:∀n:Fin 256,IntKind.u8.wrap ((n.val:Int).tmod 16)=((n.val % 16:Nat):Int):=by decide +kernel
 exact this ⟨c.toNat,c.toNat_lt⟩
theorem ZBA {P:Prg} {body:Zar} {id:Nat} {Q:AEx->Fr->Zaa->Prop} {F:Fr} {H:Zaa} (I:Nat->Fr->Zaa->Prop) (n:Nat) {F1:Fr} {H1:Zaa} (hg:GStep F H F1 H1) (h0:I n F1 H1) (round:∀n F H,I n F H->AW P body (LopQ I n (BlkQ id Q)) F H):AW P (.blk id (.loop body)) Q F H:=by
 rw[Y_blk]
 exact Zg1 I n hg h0 round
theorem ZyV (q:Tx) (H:Zaa) (hl:q.length<=100000):Zay Tryz.prog 27 [eS q] H (Pure H (eS (ZyH q))):=by
 have hc:=bfb (ZyB q)
 rcases hc with hc|hc
 ·rw[ZyN hc]
  have hlen:=ZyP q
  refine fnQ cf27 fun Q qr qn=>?_
  refine Bz0 ?_
  refine qcp (ZyE q _ Xa) fun k1=>?_
  refine Bz1 (X1 hc) ?_
  refine ZBA (fun n F G=>∃i tok,i<=q.length/\n=q.length - i/\Fr.get F 4=.i (i:Int)/\Fr.get F 0=eS q/\Fr.get F 3=.sl tok (rB (Zy7 (q.take i)))/\Zaa.Ext H G/\ZCe H.next G 5 1 (2 * i+1) tok) q.length (GStep.refl _ _) ⟨0,.full,zas _,rfl,rfl,rfl,rfl,?_,.inl rfl⟩ ?_
  ·exact(Zaa.Ext.refl H).bump
  ·rintro n F G ⟨i,tok,hi,rfl,f4,f0,f3,hx,hT⟩
   by_cases h:i<q.length
   ·have d:decide ((i:Int)<(q.length:Int))=true:=by simp;omega
    have hs:=byte_at h
    have h0:(0:Int)<=(i:Int):=Xa
    have hsn:=Zzj q h
    have hle:=ZyP (q.take i)
    have hlt:(q.take i).length=i:=by rw[zau];omega
    have hw:IntKind.i64.wrap ((i:Int)+1)=((i+1:Nat):Int):=by rw[Zaw Xa Xa];omega
    generalize q[i]=c at *
    have h16:((16:Int)=0)=False:=Xc
    have hq:=quo16 c
    have hr:=rem16 c
    have hrl:(rB (Zy7 (q.take i))).length=2 * i+1:=by rw[zan,hle,hlt]
    have hal:ZaE 1 (rB (Zy7 (q.take i)))=true:=ZaU (f:=fun c:UInt8=>[u8 c]) (sz:=1) (fun _=>rfl) _
    have hal2:ZaE 1 [[u8 (ZyR (c / 16))],[u8 (ZyR (c % 16))]]=true:=rfl
    have hm1:2 * i+1+2<=maxLen:=by unfold maxLen;omega
    have hap:rB (Zy7 (q.take i))++[[u8 (ZyR (c / 16))],[u8 (ZyR (c % 16))]]=rB (Zy7 (q.take (i+1))):=by rw[hsn];simp
    have hm2:2 * i+1+2<=140737488355328:=Xa
    rcases hT with rfl|⟨t,ht,rfl,hgt⟩
    ·refine Bz1 (X10 f4 f0 f3 d hs h0 hw hq hr h16) ?_
     refine qcp (hex_hi c _) fun k2=>?_
     refine Bz1 (X10 f4 f0 f3 d hs h0 hw hq hr h16) ?_
     refine qcp (hex_lo c _) fun k3=>?_
     refine Bz1 (X12 f4 f0 f3 d hs h0 hw hq hr h16 hrl (X5 hal hal2 hm1 hm2 hap)) ?_
     have hnx:=hx.next
     exact⟨_,Xa,i+1,_,Xa,rfl,rfl,rfl,(hx.bump.bump).alloc,.inr ⟨_,Xa,rfl,Zaa.Zae (H:=(G.bump k2).bump k3)⟩⟩
    ·refine Bz1 (X10 f4 f0 f3 d hs h0 hw hq hr h16) ?_
     refine qcp (hex_hi c _) fun k2=>?_
     refine Bz1 (X10 f4 f0 f3 d hs h0 hw hq hr h16) ?_
     refine qcp (hex_lo c _) fun k3=>?_
     refine Bz1 (X12 f4 f0 f3 d hs h0 hw hq hr h16 hrl (X6 hal hal2 hm1 hm2 hap hgt)) ?_
     exact⟨_,Xa,i+1,_,Xa,rfl,rfl,rfl,(hx.bump.bump).set ht,.inr ⟨t,ht,rfl,Zaa.Zal (Zaa.lt (H:=(G.bump k2).bump k3) hgt)⟩⟩
   ·have d:decide ((i:Int)<(q.length:Int))=false:=by simp;omega
    have hi:i=q.length:=Xa
    subst hi
    rw[zaq]at f3
    have hby:=ZyX (Zy7 q)
    have hso:=Zza (Zy7 q)
    generalize (Zy7 q)=z at *
    refine Bz1 (X6 f4 f0 f3 d hby hso) ?_
    exact Zcm rfl hx
 ·rw[ZyF hc]
  refine fnQ cf27 fun Q qr qn=>?_
  refine Bz0 ?_
  refine qcp (ZyE q _ Xa) fun k1=>?_
  refine Bz1 (X1 hc) ?_
  refine Zcm (by rfl)
theorem dig_ix:∀n:Fin 256,Lib.indexByte digs (UInt8.ofNat n.val)=if ZyC (UInt8.ofNat n.val)<16 then ((ZyC (UInt8.ofNat n.val)).toNat:Int) else -1:=by decide +kernel
theorem Zzu (c:UInt8):Lib.indexByte digs c=if ZyC c<16 then ((ZyC c).toNat:Int) else -1:=by
 have:=dig_ix ⟨c.toNat,c.toNat_lt⟩
 simp only[UInt8.ofNat_toNat]at this
 exact this
def eText (o:Option Tx):AV:=.tup [eS (o.getD []),.b o.isSome]
structure ZyK (l:Tx) (j:Nat) (done:Tx):Prop where
 len:done.length=j
 le:2 * j<=l.length
 eq:unhex l=(unhex (l.drop (2 * j))).map (done++·)
theorem ZyK.ini (l:Tx):ZyK l 0 []:=⟨rfl,zas _,by
 rw[Nat.mul_zero,zaL]
 cases unhex l<;>rfl⟩
theorem ZzI {l:Tx} {k:Nat} (h:k+1<l.length):l.drop k=l[k] :: l[k+1] :: l.drop (k+2):=by
 rw[zal Xa,zal h]
theorem ZyK.step {l:Tx} {j:Nat} {done:Tx} (h:ZyK l j done) (hl:2 * j+1<l.length) (ha:ZyC l[2 * j]<16) (hb:ZyC l[2 * j+1]<16):ZyK l (j+1) (done++[ZyC l[2 * j] * 16+ZyC l[2 * j+1]]):=by
 refine⟨by simp[h.len],Xa,?_⟩
 rw[h.eq,ZzI hl,unhex,if_pos ⟨ha,hb⟩,show 2 * (j+1)=2 * j+2 by omega]
 cases unhex (l.drop (2 * j+2))<;>simp
theorem ZyK.bad {l:Tx} {j:Nat} {done:Tx} (h:ZyK l j done) (hl:2 * j+1<l.length) (hb:¬(ZyC l[2 * j]<16/\ZyC l[2 * j+1]<16)):unhex l=none:=by
 rw[h.eq,ZzI hl,unhex,if_neg hb]
 rfl
theorem ZyK.fin {l:Tx} {j:Nat} {done:Tx} (h:ZyK l j done) (hl:¬2 * j+1<l.length):unhex l=some done:=by
 rw[h.eq]
 have hd:(l.drop (2 * j)).length<2:=by rw[zaB];omega
 match hm:l.drop (2 * j),hd with
 | [],_=>simp[unhex]
 | [_],_=>simp[unhex]
 | _ :: _ :: _,h=>simp at h;omega
theorem ZyD {l:Tx} (hb:ZyB (37 :: l)=false):ZyG (37 :: l)=match unhex l with
  | some t=>if ZyH t=37 :: l then some t else none
  | none=>none:=by
 unfold ZyG
 rw[hb]
 rfl
theorem ZyZ {c:UInt8} {l:Tx} (hb:ZyB (c :: l)=false) (hc:c≠37):ZyG (c :: l)=none:=by
 unfold ZyG
 rw[hb]
 simp only[za7,if_false]
 split
 ·rename_i h;exact absurd (List.cons.inj h).1 hc
 ·rfl
theorem ZzM {w:Tx} (hb:ZyB w=false) (he:w.length % 2=0):ZyG w=none:=by
 match w with
 | []=>rfl
 | c :: l =>
  by_cases hc:c=37
  ·subst hc
   rw[ZyD hb]
   cases hu:unhex l with
   | none=>rfl
   | some t =>
    simp only
    rw[if_neg]
    intro h
    have ht:=bfb (ZyB t)
    rcases ht with ht|ht
    ·rw[ZyN ht]at h
     have:=ZyP t
     rw[h]at this
     omega
    ·rw[ZyF ht]at h
     rw[h]at ht
     rw[ht]at hb
     cases hb
  ·exact ZyZ hb hc
theorem byte37 (c:UInt8):(((c.toNat:Int)) != 37)=decide (c≠37):=by
 rw[zaR]
 simp only[bne_iff_ne,ne_eq,decide_eq_true_eq]
 exact⟨fun h e=>h (by rw[e];rfl),fun h e=>h (UInt8.toNat_inj.1 (by have:(37:UInt8).toNat=37:=rfl;omega))⟩
theorem rem2 (n:Nat):(((n:Int).tmod 2) == 0)=decide (n % 2=0):=by
 rw[zaR]
 simp only[beq_iff_eq,decide_eq_true_eq]
 rw[zbj Xa]
 omega
theorem shl_or:∀a b:Fin 16,IntKind.u8.wrap (IntKind.i64.wrap ((BitVec.ofInt IntKind.i64.bits (IntKind.i64.wrap ((a.val:Int) * 2 ^ min 4 IntKind.i64.bits)) ||| BitVec.ofInt IntKind.i64.bits (b.val:Int)).toNat:Int))=((UInt8.ofNat a.val * 16+UInt8.ofNat b.val).toNat:Int):=by decide +kernel
theorem shl_or' {a b:UInt8} (ha:a<16) (hb:b<16):IntKind.u8.wrap (IntKind.i64.wrap ((BitVec.ofInt IntKind.i64.bits (IntKind.i64.wrap ((a.toNat:Int) * 2 ^ min 4 IntKind.i64.bits)) ||| BitVec.ofInt IntKind.i64.bits (b.toNat:Int)).toNat:Int))=((a * 16+b).toNat:Int):=by
 have:=shl_or ⟨a.toNat,UInt8.lt_iff_toNat_lt.1 ha⟩ ⟨b.toNat,UInt8.lt_iff_toNat_lt.1 hb⟩
 simp only[UInt8.ofNat_toNat]at this
 exact this
theorem Zzi (a:UInt8) (H:Zaa):Zay Tryz.prog 102 [.sc (.string ⟨#[48,49,50,51,52,53,54,55,56,57,97,98,99,100,101,102]⟩),u8 a] H (Pure H (.i (if ZyC a<16 then ((ZyC a).toNat:Int) else -1))):=by
 have:=Zy9 ⟨#[48,49,50,51,52,53,54,55,56,57,97,98,99,100,101,102]⟩ (a.toNat:Int) H
 have e:((a.toNat:Int)).toNat.toUInt8=a:=by rw[Int.toNat_natCast];exact UInt8.ofNat_toNat
 rw[e]at this
 have h2:Lib.indexByte (⟨#[48,49,50,51,52,53,54,55,56,57,97,98,99,100,101,102]⟩:ByteArray).data.toList a=_:=Zzu a
 rw[h2]at this
 exact Same.pure this
theorem ZzG {a:UInt8} (h:decide (ZyC a<16)=false) (H:Zaa):Zay Tryz.prog 102 [.sc (.string ⟨#[48,49,50,51,52,53,54,55,56,57,97,98,99,100,101,102]⟩),u8 a] H (Pure H (.i (-1))):=by
 have:=Zzi a H
 rw[if_neg (of_decide_eq_false h)]at this
 exact this
theorem Zzc {a:UInt8} (h:decide (ZyC a<16)=true) (H:Zaa):Zay Tryz.prog 102 [.sc (.string ⟨#[48,49,50,51,52,53,54,55,56,57,97,98,99,100,101,102]⟩),u8 a] H (Pure H (.i ((ZyC a).toNat:Int))):=by
 have:=Zzi a H
 rw[if_pos (of_decide_eq_true h)]at this
 exact this
theorem Zy8 (w:Tx) (H:Zaa) (hl:w.length<=100000):Zay Tryz.prog 54 [eS w] H (Pure H (eText (ZyG w))):=by
 have hc:=bfb (ZyB w)
 rcases hc with hc|hc
 ·by_cases he:w.length % 2=0
  ·rw[ZzM hc he]
   have d2:decide (w.length % 2=0)=true:=decide_eq_true he
   have hr:=rem2 w.length
   have h20:((2:Int)=0)=False:=Xc
   refine fnQ cf54 fun Q qr qn=>?_
   refine Bz0 ?_
   refine qcp (ZyI w _ Xa) fun k1=>?_
   refine Bz1 (X4 hc hr d2 h20) ?_
   refine Zcm (by rfl)
  have d2:decide (w.length % 2=0)=false:=decide_eq_false he
  have hr:=rem2 w.length
  have h20:((2:Int)=0)=False:=Xc
  match w with
  | []=>exact absurd rfl he
  | c :: l =>
   have hs0:(⟨(c :: l).toArray⟩:ByteArray)[0]?=some c:=byte_at Xc
   have hb37:=byte37 c
   by_cases h37:c=37
   ·subst h37
    have d37:(((37:UInt8).toNat:Int) != 37)=false:=rfl
    have hbT:unhex l=none->ZyG (37 :: l)=none:=fun h=>by rw[ZyD hc,h]
    have hfT:∀done,unhex l=some done->ZyG (37 :: l)=if ZyH done=37 :: l then some done else none:=fun done h=>by rw[ZyD hc,h]
    have hev:l.length % 2=0:=by simp only[List.length_cons]at he;omega
    generalize hw:(37:UInt8) :: l=w at *
    generalize ZyG w=T at hbT hfT
    have hwl:w.length=l.length+1:=by rw[<- hw];rfl
    refine fnQ cf54 fun Q qr qn=>?_
    refine Bz0 ?_
    refine qcp (ZyI w _ Xa) fun k1=>?_
    refine Bz1 (X6 hc hs0 d37 hr d2 h20) ?_
    refine ZBA (fun n F G=>∃j done tok,n=l.length - 2 * j/\Fr.get F 5=.i ((2 * j+1:Nat):Int)/\Fr.get F 0=eS w/\Fr.get F 4=.sl tok (rB done)/\ZyK l j done/\Zaa.Ext H G/\ZCe H.next G 5 1 j tok) l.length (GStep.refl _ _) ⟨0,[],.full,rfl,rfl,rfl,rfl,.ini l,(Zaa.Ext.refl H).bump,.inl rfl⟩ ?_
    rintro n F G ⟨j,done,tok,rfl,f5,f0,f4,hI,hx,hT⟩
    have hw1:IntKind.i64.wrap (((2 * j+1:Nat):Int)+1)=((2 * j+2:Nat):Int):=by have:=hI.le;rw[Zaw Xa Xa];omega
    have hw2:IntKind.i64.wrap (((2 * j+1:Nat):Int)+2)=((2 * (j+1)+1:Nat):Int):=by have:=hI.le;rw[Zaw Xa Xa];omega
    by_cases h:2 * j+1<l.length
    ·have d:decide (((2 * j+1:Nat):Int)<(w.length:Int))=true:=by simp;omega
     have ha:(⟨w.toArray⟩:ByteArray)[2 * j+1]?=some l[2 * j]:=by rw[Zy6,<- hw];simp
     have hb:(⟨w.toArray⟩:ByteArray)[2 * j+2]?=some l[2 * j+1]:=by rw[Zy6,<- hw];simp
     have hbad:=hI.bad h
     have hstep:=hI.step h
     have hz1:(0:Int)<=((2 * j+1:Nat):Int):=Xa
     have hz2:(0:Int)<=((2 * j+2:Nat):Int):=Xa
     have hn1:(((2 * j+1:Nat):Int)).toNat=2 * j+1:=Xa
     have hn2:(((2 * j+2:Nat):Int)).toNat=2 * j+2:=Xa
     have hle:=hI.le
     have hdl:=hI.len
     generalize l[2 * j]=a at *
     generalize l[2 * j+1]=b at *
     have xa:=Zzu a
     have xb:=Zzu b
     have dn:decide ((-1:Int)<0)=true:=rfl
     have ca:=bfb (decide (ZyC a<16))
     have cb:=bfb (decide (ZyC b<16))
     rcases ca with ca|ca
     ·have hn:=hbad (fun h=>by simp[h.1]at ca)
      rcases cb with cb|cb
      ·refine Bz1 (X12 f5 f0 f4 hw1 hw2 d ha hb hz1 hz2 hn1 hn2) ?_
       refine qcp (ZzG ca _) fun k2=>?_
       refine Bz1 (X12 f5 f0 f4 hw1 hw2 d ha hb hz1 hz2 hn1 hn2) ?_
       refine qcp (ZzG cb _) fun k3=>?_
       refine Bz1 (X4 f5 f0 f4 dn) ?_
       exact Zcm (by rw[hbT hn];rfl) (hx.bump.bump)
      ·refine Bz1 (X12 f5 f0 f4 hw1 hw2 d ha hb hz1 hz2 hn1 hn2) ?_
       refine qcp (ZzG ca _) fun k2=>?_
       refine Bz1 (X12 f5 f0 f4 hw1 hw2 d ha hb hz1 hz2 hn1 hn2) ?_
       refine qcp (Zzc cb _) fun k3=>?_
       refine Bz1 (X4 f5 f0 f4 dn) ?_
       exact Zcm (by rw[hbT hn];rfl) (hx.bump.bump)
     have da:decide (((ZyC a).toNat:Int)<0)=false:=Xc
     rcases cb with cb|cb
     ·have hn:=hbad (fun h=>by simp[h.2]at cb)
      refine Bz1 (X12 f5 f0 f4 hw1 hw2 d ha hb hz1 hz2 hn1 hn2) ?_
      refine qcp (Zzc ca _) fun k2=>?_
      refine Bz1 (X12 f5 f0 f4 hw1 hw2 d ha hb hz1 hz2 hn1 hn2) ?_
      refine qcp (ZzG cb _) fun k3=>?_
      refine Bz1 (X5 f5 f0 f4 dn da) ?_
      exact Zcm (by rw[hbT hn];rfl) (hx.bump.bump)
     have db:decide (((ZyC b).toNat:Int)<0)=false:=Xc
     have hmul:=shl_or' (of_decide_eq_true ca) (of_decide_eq_true cb)
     have hst:=hstep (of_decide_eq_true ca) (of_decide_eq_true cb)
     refine Bz1 (X12 f5 f0 f4 hw1 hw2 d ha hb hz1 hz2 hn1 hn2) ?_
     refine qcp (Zzc ca _) fun k2=>?_
     refine Bz1 (X12 f5 f0 f4 hw1 hw2 d ha hb hz1 hz2 hn1 hn2) ?_
     refine qcp (Zzc cb _) fun k3=>?_
     have hrl:(rB done).length=j:=by rw[zan,hdl]
     have hal:ZaE 1 (rB done)=true:=ZaU (f:=fun c:UInt8=>[u8 c]) (sz:=1) (fun _=>rfl) _
     have hal2:ZaE 1 [[u8 (ZyC a * 16+ZyC b)]]=true:=rfl
     have hm1:j+1<=maxLen:=by unfold maxLen;omega
     have hm2:j<=140737488355327:=Xa
     have hap:rB done++[[u8 (ZyC a * 16+ZyC b)]]=rB (done++[ZyC a * 16+ZyC b]):=Xc
     rcases hT with rfl|⟨t,ht,rfl,hgt⟩
     ·refine Bz1 (X12 f5 f0 f4 dn da db hmul hrl hal hal2 hm1 (X3 hm2 hap hw2)) ?_
      have hnx:=hx.next
      exact⟨_,Xa,j+1,_,_,rfl,rfl,rfl,hst,(hx.bump.bump).alloc,.inr ⟨_,Xa,rfl,Zaa.Zae (H:=(G.bump k2).bump k3)⟩⟩
     ·refine Bz1 (X12 f5 f0 f4 dn da db hmul hrl hal hal2 hm1 (X4 hm2 hap hgt hw2)) ?_
      exact⟨_,Xa,j+1,_,_,rfl,rfl,rfl,hst,(hx.bump.bump).set ht,.inr ⟨t,ht,rfl,Zaa.Zal (Zaa.lt (H:=(G.bump k2).bump k3) hgt)⟩⟩
    ·have hle:=hI.le
     have d:decide (((2 * j+1:Nat):Int)<(w.length:Int))=false:=by simp;omega
     have hfin:=hfT _ (hI.fin h)
     have hdl:=hI.len
     have hby:=ZyX done
     have hso:=Zza done
     refine Bz1 (X6 f5 f0 f4 d hby hso) ?_
     refine qcp (ZyQ done _ Xa) fun k2=>?_
     by_cases he:ZyH done=w
     ·rw[if_pos he]at hfin
      have de:decide (ZyH done=w)=true:=decide_eq_true he
      refine Bz1 (X7 f5 f0 f4 d hby hso de) ?_
      exact Zcm (by rw[hfin];rfl) hx.bump
     ·rw[if_neg he]at hfin
      have de:decide (ZyH done=w)=false:=decide_eq_false he
      refine Bz1 (X7 f5 f0 f4 d hby hso de) ?_
      exact Zcm (by rw[hfin];rfl) hx.bump
   ·have d37:((c.toNat:Int) != 37)=true:=by rw[hb37];simp[h37]
    rw[ZyZ hc h37]
    generalize c :: l=w at *
    refine fnQ cf54 fun Q qr qn=>?_
    refine Bz0 ?_
    refine qcp (ZyI w _ Xa) fun k1=>?_
    refine Bz1 (X6 hc hs0 d37 hr d2 h20) ?_
    refine Zcm (by rfl)
 ·have ht:ZyG w=some w:=by unfold ZyG;rw[hc];rfl
  rw[ht]
  refine fnQ cf54 fun Q qr qn=>?_
  refine Bz0 ?_
  refine qcp (ZyI w _ Xa) fun k1=>?_
  refine Bz1 (X1 hc) ?_
  refine Zcm (by rfl)
end Go.Proofs.YtdfgoekdlmkdfaaGreatDoor
