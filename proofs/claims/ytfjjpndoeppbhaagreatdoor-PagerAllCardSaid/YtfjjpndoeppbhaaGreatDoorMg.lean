/- Texts of the walk. -/
import Derived.Test.YtfjjpndoeppbhaaGreatDoorMf
namespace Go.Proofs.YtfjjpndoeppbhaaGreatDoor
set_option linter.defProp false
set_option maxHeartbeats 64000000
set_option linter.unusedSimpArgs false
set_option linter.unusedVariables false
open Go.RowKit
theorem stable_n {d:Nat} {op:AOp} {F:Fr} {H:Zaa}:AI.stable ⟨none,some d,op⟩ F H=(op.ev F H=some (Fr.get F d,H)):=by
 simp[AI.stable,AI.want]
theorem stable_g {s d:Nat} {t:Bool} {op:AOp} {F:Fr} {H:Zaa}:AI.stable ⟨some (s,t),some d,op⟩ F H=@GdK (Fr.get F s) t ⟨op.ev F H=some (Fr.get F d,H)⟩ ⟨fun _ _=>True⟩:=by
 simp only[AI.stable,AI.want,GdK]
 cases Fr.get F s with
 | sc v =>
  cases v with
  | bool c=>cases c<;>cases t<;>simp
  | _=>rfl
 | _=>rfl
theorem ZiY {F:Fr} {H:Zaa}:(∀r∈([]:List AI),r.stable F H)=True:=Xc
theorem ZhH {F:Fr} {H:Zaa} {a:AI} {l:List AI}:(∀r∈a :: l,r.stable F H)=(a.stable F H/\∀r∈l,r.stable F H):=Xc
theorem ZhK (l:List UInt8):(⟨l.toArray⟩:ByteArray).toList=l:=by rw[ByteArray.toList_eq]
theorem beq_dec (a b:List UInt8):(a == b)=decide (a=b):=by rw[zbQ];simp
theorem YE:(∀{l:List UInt8},(⟨l.toArray⟩:ByteArray).toList=l)/\(∀{a b:List UInt8},(a == b)=decide (a=b))/\(∀{l:List UInt8},(⟨l.toArray⟩:ByteArray).size=l.length)/\(∀{α β:Type} {f:α->β} {l:List α} {i:Nat},(l.map f)[i]?=(l[i]?).map f)/\(∀{α:Type} {l:List α} {i:Nat} (h:i<l.length),l[i]?=some l[i]) /\
  (∀{n:Nat},(0<=(n:Int))=True)/\(∀{H:Zaa} {i:Nat} {o o':Zb3},i=H.next->(H.alloc o).set i o'=H.alloc o') /\
  (∀{d op F H},AI.stable ⟨none,some d,op⟩ F H=(op.ev F H=some (Fr.get F d,H)))/\(∀{s d t op F H},AI.stable ⟨some (s,t),some d,op⟩ F H=@GdK (Fr.get F s) t ⟨op.ev F H=some (Fr.get F d,H)⟩ ⟨fun _ _=>True⟩) /\
  (∀{F:Fr} {H:Zaa},(∀r∈([]:List AI),r.stable F H)=True)/\(∀{F:Fr} {H:Zaa} {a:AI} {l:List AI},(∀r∈a :: l,r.stable F H)=(a.stable F H/\∀r∈l,r.stable F H)) :=
 ⟨ZhK _,beq_dec _ _,rfl,zaO,zab,Xc,ZaM,stable_n,stable_g,ZiY,ZhH⟩
def YQ:=an7 Zxe.eq_1<|an7 Ztx.eq_1<|an7 Zq4.eq_1<|an7 ZkB.eq_1<|an7 ZlE.eq_1<|an7 Zca.eq_1<|an7 ZcW.eq_1<|an7 Zew.eq_1<|an7 ZkW.eq_1<|an7 Zvh.eq_1<|an7 Zf9.eq_1<|an7 Zeb.eq_1<|an7 Zg5.eq_1<|an7 Zdp.eq_1<|an7 ZoU.eq_1<|an7 ZoW.eq_1<|an7 Zq5.eq_1<|an7 ZrM.eq_1<|an7 c47_0.eq_1<|an7 ZeF.eq_1<|an7 ZmE.eq_1<|an7 ZeB.eq_1<|an7 Zgb.eq_1<|an7 Zjp.eq_1<|an7 Zdx.eq_1<|an7 Zdn.eq_1<|an7 ZkZ.eq_1<|an7 Zfd.eq_1<|an7 ZkX.eq_1<|an7 ZtC.eq_1<|an7 Zqj.eq_1<|an7 ZvP.eq_1<|an7 ZiF.eq_1<|an7 c62_0.eq_1<|an7 Zi8.eq_1<|an7 ZoS.eq_1<|an7 Zk1.eq_1<|an7 ZlH.eq_1<|an7 Zks.eq_1<|an7 ZiL.eq_1<|an7 c69_0.eq_1<|an7 ZnP.eq_1<|an7 ZHh.eq_1<|an7 ZhM.eq_1<|an7 c73_0.eq_1<|an7 Zt0.eq_1<|an7 ZRI.eq_1<|an7 c84_0.eq_1<|an7 c87_0.eq_1<|an7 ZvO.eq_1<|an7 Zck.eq_1<|an7 ZmV.eq_1<|an7 Zdc.eq_1<|an7 Zuf.eq_1<|an7 Zt4.eq_1<|an7 ZtP.eq_1<|an7 Zic.eq_1<|an7 Zcf.eq_1<|an7 ZfJ.eq_1<|an7 Zpi.eq_1<|an7 Zfr.eq_1<|an7 Zpf.eq_1<|an7 ZpX.eq_1<|an7 ZpQ.eq_1<|an7 Zno.eq_1<|an7 ZqY.eq_1<|an7 ZnZ.eq_1<|an7 ZJg.eq_1<|an7 Zuv.eq_1<|an7 ZvF.eq_1<|an7 ZrW.eq_1<|an7 Zrw.eq_1<|an7 Zr2.eq_1<|an7 ZdN.eq_1<|an7 ZeY.eq_1<|an7 Zj3.eq_1<|an7 ZGs.eq_1<|an7 ZDG.eq_1<|an7 ZHn.eq_1<|an7 ZvQ.eq_1<|an7 ZhA.eq_1<|an7 Zeo.eq_1<|an7 c179_0.eq_1<|an7 ZKV.eq_1<|an7 ZNU.eq_1<|an7 ZQg.eq_1<|an7 ZLt.eq_1<|an7 ZLQ.eq_1<|an7 ZQB.eq_1<|an7 ZLq.eq_1<|an7 ZKM.eq_1<|an7 ZLa.eq_1<|an7 ZLw.eq_1<|an7 ZK9.eq_1<|an7 c206_0.eq_1<|an7 c207_0.eq_1<|an7 c216_0.eq_1<|an7 c219_0.eq_1<|an7 c220_0.eq_1<|an7 c221_0.eq_1<|an7 c231_0.eq_1<|an7 c232_0.eq_1<|an7 ZPl.eq_1<|an7 ZPc.eq_1<|an7 c241_0.eq_1<|an7 c252_0.eq_1<|an7 ZPz.eq_1<|an7 c260_0.eq_1<|c261_0.eq_1
def YY:=an7 YB<|an7 YC<|an7 YE<|an7 YF YZ
theorem qcp {P:Prg} {f:FuncId} {args:List AV} {H:Zaa} {v:AV} {k:AV->Zaa->Prop} (h:Zay P f args H (Pure H v)) (c:∀n,k v (H.bump n)):@Zap P f args H ⟨k⟩:=Zap.use h (by rintro _ _ ⟨rfl,n,rfl⟩;exact c n)
theorem Bz0 {g h:Prop} (k:h) (e:h->g:=by(intro z;(try simp(disch:=first|assumption|omega|simp only[nx]<;>omega|fail)only[qr,qn,YQ,↓YA,YY,↓reduceIte,Nat.reduceEqDiff,Nat.reduceAdd,Nat.reduceMul,Nat.reduceLeDiff,Int.reduceToNat,Int.reduceLE,Int.reduceLT,Int.reduceGT,Int.reduceGE,Int.reduceAdd,Int.reduceSub,Int.reduceNeg,Int.reduceBEq,Int.reduceBNe]);exact z)):g:=e k
theorem Bz1 {f g h:Prop} (w:f) (k:h) (e:f->h->g:=by(intro hZ z;(try simp(disch:=first|assumption|omega|simp only[nx]<;>omega|fail)only[hZ,qr,qn,YQ,↓YA,YY,↓reduceIte,Nat.reduceEqDiff,Nat.reduceAdd,Nat.reduceMul,Nat.reduceLeDiff,Int.reduceToNat,Int.reduceLE,Int.reduceLT,Int.reduceGT,Int.reduceGE,Int.reduceAdd,Int.reduceSub,Int.reduceNeg,Int.reduceBEq,Int.reduceBNe]);exact z)):g:=e w k
theorem Bz2 {g h:Prop} (k:h) (e:h->g:=by(intro z;(try simp(disch:=first|assumption|omega|simp only[nx]<;>omega|fail)only[zam,qr,qn,YQ,↓YA,YY,↓reduceIte,Nat.reduceEqDiff,Nat.reduceAdd,Nat.reduceMul,Nat.reduceLeDiff,Int.reduceToNat,Int.reduceLE,Int.reduceLT,Int.reduceGT,Int.reduceGE,Int.reduceAdd,Int.reduceSub,Int.reduceNeg,Int.reduceBEq,Int.reduceBNe]);exact z)):g:=e k
theorem Bz3 {f g h:Prop} (w:f) (k:h) (e:f->h->g:=by(intro hZ z;(try simp(disch:=first|assumption|omega|simp only[nx]<;>omega|fail)only[hZ,zam,qr,qn,YQ,↓YA,YY,↓reduceIte,Nat.reduceEqDiff,Nat.reduceAdd,Nat.reduceMul,Nat.reduceLeDiff,Int.reduceToNat,Int.reduceLE,Int.reduceLT,Int.reduceGT,Int.reduceGE,Int.reduceAdd,Int.reduceSub,Int.reduceNeg,Int.reduceBEq,Int.reduceBNe]);exact z)):g:=e w k
theorem Bz5 {f g h:Prop} (w:f) (k:h) (e:f->h->g:=by(intro hZ z;(try simp(disch:=first|assumption|omega|simp only[nx]<;>omega|fail)only[hZ,zam,zaI,List.length_nil,List.length_cons,List.length_singleton,zaz,List.map_nil,ZaL,rowsOf,Option.map_none,Option.map_some,Option.getD_none,Option.getD_some,Option.isSome_none,Option.isSome_some,if_true,Int.cast_ofNat_Int,Int.reduceMul,zby,and_self,or_true,qr,qn,YQ,↓YA,YY,↓reduceIte,Nat.reduceEqDiff,Nat.reduceAdd,Nat.reduceMul,Nat.reduceLeDiff,Int.reduceToNat,Int.reduceLE,Int.reduceLT,Int.reduceGT,Int.reduceGE,Int.reduceAdd,Int.reduceSub,Int.reduceNeg,Int.reduceBEq,Int.reduceBNe]);exact z)):g:=e w k
theorem Bz6 {f g h:Prop} (w:f) (k:h) (e:f->h->g:=by(intro hZ z;(try simp(disch:=first|assumption|omega|simp only[nx]<;>omega|fail)only[hZ,Zdi,qr,qn,YQ,↓YA,YY,↓reduceIte,Nat.reduceEqDiff,Nat.reduceAdd,Nat.reduceMul,Nat.reduceLeDiff,Int.reduceToNat,Int.reduceLE,Int.reduceLT,Int.reduceGT,Int.reduceGE,Int.reduceAdd,Int.reduceSub,Int.reduceNeg,Int.reduceBEq,Int.reduceBNe]);exact z)):g:=e w k
theorem fnQ {pan:Value->Zaa->Prop} {f:FuncId} {ac:Zar} {rs:List Zcq} {N:Nat} {args:List AV} {H:Zaa} {R:AV->Zaa->Prop} (hc:cFn Tryz.prog eqT f=some (ac,rs,N)) (h:∀Q:AEx->Fr->Zaa->Prop,(∀F H,Q .ret F H=match ZcU F H rs with
 | some r=>∃r2 H2,Zb6 r H r2 H2/\R r2 H2
 | none=>False)->(∀F H,Q .normal F H=match ZcU F H rs with
 | some r=>∃r2 H2,Zb6 r H r2 H2/\R r2 H2
 | none=>False)->AW ⟨Tryz.prog,pan⟩ ac Q (Za2 0 args) H) (hn:args.length<=N:=by exact zaT rfl):Zay ⟨Tryz.prog,pan⟩ f args H R:=Zak hE hc hn h
theorem X1 {p:Prop} (q:p):True/\p:=⟨trivial,q⟩
theorem X2 {p0 p1:Prop} (q0:p0) (q1:p1):p0/\p1:=⟨q0,q1⟩
theorem X3 {p0 p1 p2:Prop} (q0:p0) (q1:p1) (q2:p2):p0/\p1/\p2:=⟨q0,q1,q2⟩
theorem X4 {p0 p1 p2 p3:Prop} (q0:p0) (q1:p1) (q2:p2) (q3:p3):p0/\p1/\p2/\p3:=⟨q0,q1,q2,q3⟩
theorem X5 {p0 p1 p2 p3 p4:Prop} (q0:p0) (q1:p1) (q2:p2) (q3:p3) (q4:p4):p0/\p1/\p2/\p3/\p4:=⟨q0,q1,q2,q3,q4⟩
theorem X6 {p0 p1 p2 p3 p4 p5:Prop} (q0:p0) (q1:p1) (q2:p2) (q3:p3) (q4:p4) (q5:p5):p0/\p1/\p2/\p3/\p4/\p5:=⟨q0,q1,q2,q3,q4,q5⟩
theorem X7 {p0 p1 p2 p3 p4 p5 p6:Prop} (q0:p0) (q1:p1) (q2:p2) (q3:p3) (q4:p4) (q5:p5) (q6:p6):p0/\p1/\p2/\p3/\p4/\p5/\p6:=⟨q0,q1,q2,q3,q4,q5,q6⟩
theorem X8 {p0 p1 p2 p3 p4 p5 p6 p7:Prop} (q0:p0) (q1:p1) (q2:p2) (q3:p3) (q4:p4) (q5:p5) (q6:p6) (q7:p7):p0/\p1/\p2/\p3/\p4/\p5/\p6/\p7:=⟨q0,q1,q2,q3,q4,q5,q6,q7⟩
theorem X9 {p0 p1 p2 p3 p4 p5 p6 p7 p8:Prop} (q0:p0) (q1:p1) (q2:p2) (q3:p3) (q4:p4) (q5:p5) (q6:p6) (q7:p7) (q8:p8):p0/\p1/\p2/\p3/\p4/\p5/\p6/\p7/\p8:=⟨q0,q1,q2,q3,q4,q5,q6,q7,q8⟩
theorem X10 {p0 p1 p2 p3 p4 p5 p6 p7 p8 p9:Prop} (q0:p0) (q1:p1) (q2:p2) (q3:p3) (q4:p4) (q5:p5) (q6:p6) (q7:p7) (q8:p8) (q9:p9):p0/\p1/\p2/\p3/\p4/\p5/\p6/\p7/\p8/\p9:=⟨q0,q1,q2,q3,q4,q5,q6,q7,q8,q9⟩
theorem X11 {p0 p1 p2 p3 p4 p5 p6 p7 p8 p9 p10:Prop} (q0:p0) (q1:p1) (q2:p2) (q3:p3) (q4:p4) (q5:p5) (q6:p6) (q7:p7) (q8:p8) (q9:p9) (q10:p10):p0/\p1/\p2/\p3/\p4/\p5/\p6/\p7/\p8/\p9/\p10:=⟨q0,q1,q2,q3,q4,q5,q6,q7,q8,q9,q10⟩
theorem X12 {p0 p1 p2 p3 p4 p5 p6 p7 p8 p9 p10 p11:Prop} (q0:p0) (q1:p1) (q2:p2) (q3:p3) (q4:p4) (q5:p5) (q6:p6) (q7:p7) (q8:p8) (q9:p9) (q10:p10) (q11:p11):p0/\p1/\p2/\p3/\p4/\p5/\p6/\p7/\p8/\p9/\p10/\p11:=⟨q0,q1,q2,q3,q4,q5,q6,q7,q8,q9,q10,q11⟩
theorem xV {p:Prop} (h:p:=by simp only[ZaA,Zav,Fr.put,Fr.get,↓reduceIte,Nat.reduceEqDiff];rfl):p:=h
theorem xW {p:Prop} (h:p:=by intro k s;rfl):p:=h
theorem xU {p:Prop} (h:p:=by simp only[ZaJ]):p:=h
theorem xT {p:Prop} (h:p:=by simp only[ZaF,ZaX,Fr.put,Fr.get,↓reduceIte,Nat.reduceEqDiff,and_self]<;>simp):p:=h
theorem xF {p:Prop} (h:p:=by simp only[ZaF]):p:=h
theorem xN {p:Prop} (h:p:=by simp only[nx]):p:=h
theorem bfb (b:Bool):b=false\/b=true:=by cases b<;>simp
theorem byte_at {l:List UInt8} {k:Nat} (h:k<l.length):(⟨l.toArray⟩:ByteArray)[k]?=some l[k]:=by
 show(if h:k<l.toArray.size then some _ else none)=_
 rw[dif_pos (by simpa using h)]
 rfl
abbrev u8 (c:UInt8):AV:=.sc (.int .u8 c.toNat)
open Go.RowKit Go.Lib
abbrev rB (l:Tx):List (List AV):=l.map fun c=>[u8 c]
theorem Zy6 (l:Tx) (k:Nat):(⟨l.toArray⟩:ByteArray)[k]?=l[k]?:=by
 by_cases h:k<l.length
 ·rw[byte_at h,zab h]
 ·rw[zbT Xa]
  show(if h:k<l.toArray.size then some _ else none)=_
  rw[dif_neg (by simpa using h)]
def ZCe (base:Nat) (G:Zaa) (E:TypeId) (sz n:Nat) (tok:Tok):Prop:=tok=.full\/∃t,base<=t/\tok=.own t/\G.get t=some (.tok n E sz)
theorem ZyX:∀l:Tx,Zef (rB l)=some (l.map fun c=>(c.toNat:Int))
 | []=>rfl
 | c :: l=>by
  have ih:=ZyX l
  simp only[zaD,Zef]at ih ⊢
  rw[ih]
  rfl
theorem Zza (l:Tx):strOf (l.map fun c=>(c.toNat:Int))=⟨l.toArray⟩:=by
 have key:∀(l:Tx) (r:ByteArray),(l.map fun c=>(c.toNat:Int)).foldl (fun r n=>r.push (UInt8.ofNat n.toNat)) r=⟨r.data++l.toArray⟩:=by
  intro l
  induction l with
  | nil=>intro r;simp
  | cons c l ih =>
   intro r
   simp only[zaD,List.foldl_cons]
   rw[ih]
   congr 1
   simp[ByteArray.data_push]
 unfold strOf
 rw[key]
 simp
theorem ZBA {P:Prg} {body:Zar} {id:Nat} {Q:AEx->Fr->Zaa->Prop} {F:Fr} {H:Zaa} (I:Nat->Fr->Zaa->Prop) (n:Nat) {F1:Fr} {H1:Zaa} (hg:GStep F H F1 H1) (h0:I n F1 H1) (round:∀n F H,I n F H->AW P body (LopQ I n (BlkQ id Q)) F H):AW P (.blk id (.loop body)) Q F H:=by
 rw[Y_blk]
 exact Zg1 I n hg h0 round
open Go.RowKit Go.Lib
open Go.RowKit Go.Lib
abbrev rS (l:List Tx):List (List AV):=l.map fun s=>[eS s]
theorem Zz9 (a b:Tx):(⟨a.toArray⟩:ByteArray)++⟨b.toArray⟩=⟨(a++b).toArray⟩:=by
 apply zcm
 simp[ByteArray.data_append]
open Go.RowKit Go.Lib
def InI (n:Int):Prop := -9223372036854775808<=n/\n<=9223372036854775807
abbrev rI (l:List Int):List (List AV):=l.map fun n=>[AV.i n]
open Go.RowKit Go.Lib
theorem ZAp {n:Nat} (h:n<=1000000):n<=maxLen:=by unfold maxLen;omega
open Go.RowKit Go.Lib
open Go.RowKit Go.Lib
end Go.Proofs.YtfjjpndoeppbhaaGreatDoor
