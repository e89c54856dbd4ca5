/- Texts of the walk. -/
import Derived.Test.YtaapiigfmdhobaaGreatMg
import Derived.Test.YtaapiigfmdhobaaGreatMd
import Derived.Test.YtaapiigfmdhobaaGreatMe
namespace Go.Proofs.YtaapiigfmdhobaaGreat
set_option linter.defProp false
set_option linter.unusedSimpArgs false
set_option linter.unusedVariables false
open Go.RowKit
def eAg (a:Ag):List AV:=[.i a.n,.i a.s0,.i a.l0,.i a.h0,.i a.s1,.i a.l1,.i a.h1,.i a.s2,.i a.l2,.i a.h2]
def ZbE (c:Cel):List AV:=[.i c.key,.i c.child,.i c.agg.n,.i c.agg.s0,.i c.agg.l0,.i c.agg.h0,.i c.agg.s1,.i c.agg.l1,.i c.agg.h1,.i c.agg.s2,.i c.agg.l2,.i c.agg.h2]
theorem Zgq (tok:Tok) (x:Shp) (dim:Int) (H:Zaa) (hl:x.sizes.length<=1000000):Zay Tryz.prog 62 [.agg [.sl tok (rII x.sizes),.i x.measures],.i dim] H (Pure H (.b (lastB x dim))):=by
 refine Zak hE cf62 (zab rfl) fun Q qr qn=>?_
 refine Az2 ?_
 exact ZaW (Zaa.Ext.refl H).alloc rfl
theorem Zd4 (a b:Int):vEq (.int .i64 a) (.int .i64 b)=decide (a=b):=by by_cases h:a=b<;>simp[vEq,h]
set_option maxHeartbeats 1000000 in
theorem Zgm (m : Int) (a : Ag) (H : Zaa) : Zay Tryz.prog 133 [.i m, .agg (eAg a)] H (Pure H (.b (Zbw m a))) := by
  refine Zak hE cf133 (zab rfl) fun Q qr qn => ?_
  have hx : Zaa.Ext H (H.alloc (.cells (eAg a) 54)) := (Zaa.Ext.refl H).alloc
  unfold eAg at hx ⊢
  ((have hd := tv; repeat' first | (first | refine Zad (fun hd => ?_) (fun hd => ?_) | refine Zac (fun hd => ?_) (fun hd => ?_) | refine Zab (fun hd => ?_) (fun hd => ?_)) <;> try simp only [hd] | simp (disch := first | assumption | omega | simp only [nx] <;> omega | fail) only [hd, ↓YA, YB, YC, YZ, YF, sevalprocAttr, qr, qn, Zfp]) <;> try revert hd; refine ttr ?_)
  case refine_1.refine_1.refine_2 =>
    rename_i h0 h1
    have h0 : 0 <= m := by simpa using h0
    have h1 : m <= 3 := by simpa using h1
    have h2 : 1 <= a.n := by simp at hd; omega
    rw [tail0 h0 h1 h2] at qr qn
    refine ZbJ (N := 3) (fun k F G => Fr.get F 20 = .i (k : Int) /\ Fr.get F 0 = .i m /\ Fr.get F 3 = .ptr H.next 0 /\ Fr.get F 19 = .agg [.i a.s0, .i a.l0, .i a.h0, .i a.s1, .i a.l1, .i a.h1, .i a.s2, .i a.l2, .i a.h2] /\ Zaa.Ext H G /\ G.get H.next = some (.cells (eAg a) 54) /\ ZcQ 0 m a = ZcQ k m a) (by unfold maxLen; omega) (fun k F G h => ⟨h.1, rfl⟩) (GStep.refl _ _) ?_ ?_ ?_
    · refine ⟨rfl, rfl, rfl, rfl, hx, Zaa.Zae (H := H), rfl⟩
    · rintro k F G hk ⟨f20, f0, f3, f19, hxG, hg, ht⟩
      rw [Zii hk] at ht
      have hgl := Zaa.lt hg
      have hg0 := hg
      unfold eAg at hg
      obtain rfl | rfl | rfl : k = 0 \/ k = 1 \/ k = 2 := by omega
      all_goals
        first | (replace f20 : Fr.get F 20 = .i 0 := f20) | (replace f20 : Fr.get F 20 = .i 1 := f20) | (replace f20 : Fr.get F 20 = .i 2 := f20)
        ((have hd := tv; repeat' first | (first | refine Zad (fun hd => ?_) (fun hd => ?_) | refine Zac (fun hd => ?_) (fun hd => ?_) | refine Zab (fun hd => ?_) (fun hd => ?_)) <;> try simp only [hd] | simp (disch := first | assumption | omega | simp only [nx] <;> omega | fail) only [hd, ↓YA, YB, YC, YZ, YF, sevalprocAttr, qr, qn, Zfp, f20, f0, f3, f19, hg, eAg, Int.cast_ofNat_Int, Int.reduceLE, Int.reduceLT, Int.reduceToNat, Nat.reduceMul, scs, SK.is, ZgE, Zd4, Int.reduceSub]) <;> try revert hd; refine ttr ?_)
      all_goals have hxn := hxG.next
      all_goals first
        | (refine ZdI ?_ ?_
           · (repeat (first | assumption | exact Zaa.Ext.refl _ | refine Zaa.Ext.set ?_ (by first | assumption | omega | (simp only [Zaf, Zai, Zam]; omega)) | refine Zaa.Ext.alloc ?_ | refine Zaa.Ext.bump ?_))
           · rw [ht]; simp only [Zb2, Ag.prt]; grind)
        | (refine ⟨?_, ?_⟩
           · (repeat (first | assumption | exact Zaa.Ext.refl _ | refine Zaa.Ext.set ?_ (by first | assumption | omega | (simp only [Zaf, Zai, Zam]; omega)) | refine Zaa.Ext.alloc ?_ | refine Zaa.Ext.bump ?_))
           · rw [ht]; simp only [Zb2, Ag.prt]; grind)
    · rintro F G ⟨f20, f0, f3, f19, hxG, hg, ht⟩
      ((have hd := tv; repeat' first | (first | refine Zad (fun hd => ?_) (fun hd => ?_) | refine Zac (fun hd => ?_) (fun hd => ?_) | refine Zab (fun hd => ?_) (fun hd => ?_)) <;> try simp only [hd] | simp (disch := first | assumption | omega | simp only [nx] <;> omega | fail) only [hd, ↓YA, YB, YC, YZ, YF, sevalprocAttr, qr, qn, Zfp]) <;> try revert hd; refine ttr ?_)
      exact ZdI hxG (by rw [ht]; rfl)
  all_goals
    refine ZdI hx ?_
    unfold Zbw
    grind
theorem ZmR (a:Ag):(decide (a.n=0)&&(decide (a.s0=0)&&(decide (a.l0=0)&&(decide (a.h0=0)&&(decide (a.s1=0)&&(decide (a.l1=0)&&(decide (a.h1=0)&&(decide (a.s2=0)&&(decide (a.l2=0)&&(decide (a.h2=0)&&true))))))))))=decide (a=ag0):=by
 obtain⟨n,s0,l0,h0,s1,l1,h1,s2,l2,h2⟩:=a
 rw[za8]
 simp[ag0]
theorem ZeJ (tok:Tok) (x:Shp) (dim:Int) (c:Cel) (H:Zaa) (hl:x.sizes.length<=1000000):Zay Tryz.prog 151 [.agg [.sl tok (rII x.sizes),.i x.measures],.i dim,.agg (ZbE c)] H (Pure H (.b (ZbQ x dim c))):=by
 refine Zak hE cf151 (zab rfl) fun Q qr qn=>?_
 have e2:(3:Nat)=3:=rfl
 unfold ZbE
 refine Az0 ?_
 refine Zap.use (Zgq tok x dim _ hl) ?_
 rintro r H' ⟨rfl,k,rfl⟩
 cases hb:lastB x dim with
 | true =>
  ((have hd:=tv;repeat' first|(first|apply Zad|apply Zac|apply Zab)<;>intro hd<;>try simp only[hd]|simp(disch:=first|assumption|omega|simp only[nx]<;>omega|fail)only[hd,↓YA,YB,YC,YZ,YF,sevalprocAttr,qr,qn,Zfk,hb])<;>try revert hd;refine ttr ?_)
  ·refine Zap.use (Zgm x.measures c.agg _) ?_
   rintro r H' ⟨rfl,k2,rfl⟩
   refine Az0 ?_
   refine ZdI ?_ ?_
   ·(repeat (first|assumption|exact Zaa.Ext.refl _|refine Zaa.Ext.set ?_ (by first|assumption|omega|(simp only[Zaf,Zai,Zam];omega))|refine Zaa.Ext.alloc ?_|refine Zaa.Ext.bump ?_))
   ·unfold ZbQ;rw[hb];grind
  ·refine ZdI ?_ ?_
   ·(repeat (first|assumption|exact Zaa.Ext.refl _|refine Zaa.Ext.set ?_ (by first|assumption|omega|(simp only[Zaf,Zai,Zam];omega))|refine Zaa.Ext.alloc ?_|refine Zaa.Ext.bump ?_))
   ·unfold ZbQ;rw[hb];grind
 | false =>
  ((have hd:=tv;repeat' first|(first|apply Zad|apply Zac|apply Zab)<;>intro hd<;>try simp only[hd]|simp(disch:=first|assumption|omega|simp only[nx]<;>omega|fail)only[hd,↓YA,YB,YC,YZ,YF,sevalprocAttr,qr,qn,Zfk,hb,scs,SK.is,ZgE,Zd4,ZmR])<;>try revert hd;refine ttr ?_)
  all_goals
   refine ZdI ?_ ?_
   ·(repeat (first|assumption|exact Zaa.Ext.refl _|refine Zaa.Ext.set ?_ (by first|assumption|omega|(simp only[Zaf,Zai,Zam];omega))|refine Zaa.Ext.alloc ?_|refine Zaa.Ext.bump ?_))
   ·unfold ZbQ;rw[hb];grind
abbrev rC (l:List Cel):List (List AV):=l.map ZbE
theorem ZlA {l:List Cel} {k:Nat} (h:k<l.length):(rC l)[k]?=some (ZbE l[k]):=by simp[h]
set_option maxHeartbeats 1000000 in
theorem Zkr (tok tok2:Tok) (x:Shp) (dim size:Int) (l:List Cel) (H:Zaa) (hl:x.sizes.length<=1000000) (hl2:l.length<=100000000):Zay Tryz.prog 150 [.agg [.sl tok (rII x.sizes),.i x.measures],.i dim,.i size,.sl tok2 (rC l)] H (Pure H (.i (ZbN x dim size l))):=by
 refine Zak hE cf150 (zab rfl) fun Q qr qn=>?_
 ((have hd:=tv;repeat' first|(first|refine Zad (fun hd=>?_) (fun hd=>?_)|refine Zac (fun hd=>?_) (fun hd=>?_)|refine Zab (fun hd=>?_) (fun hd=>?_))<;>try simp only[hd]|simp(disch:=first|assumption|omega|simp only[nx]<;>omega|fail)only[hd,↓YA,YB,YC,YZ,YF,sevalprocAttr,qr,qn,Zcx,zaj])<;>try revert hd;refine ttr ?_)
 ·refine Zen ?_ ?_
  ·(repeat (first|assumption|exact Zaa.Ext.refl _|refine Zaa.Ext.set ?_ (by first|assumption|omega|(simp only[Zaf,Zai,Zam];omega))|refine Zaa.Ext.alloc ?_|refine Zaa.Ext.bump ?_))
  ·unfold ZbN;grind
 ·have hne:l.length≠0:=by simp at hd;simpa using hd
  have hle:ZbN x dim size l=ZcA x dim size (Zb1 l 0) (l.drop 0):=by unfold ZbN;rw[if_neg hne];rfl
  generalize ZbN x dim size l=T at *
  refine ZbJ (N:=l.length) (fun k F G=>Fr.get F 16=.i (k:Int)/\Fr.get F 15=.i (l.length:Int)/\Fr.get F 14=.sl tok2 (rC l)/\Fr.get F 3=.sl tok2 (rC l)/\Fr.get F 1=.i dim/\Fr.get F 2=.i size/\Fr.get F 4=.ptr H.next 0/\Zaa.Ext H G/\G.get H.next=some (.cells [.sl tok (rII x.sizes),.i x.measures] 37)/\T=ZcA x dim size (Zb1 l k) (l.drop k)) (by unfold maxLen;omega) (fun k F G h=>⟨h.1,h.2.1⟩) (GStep.refl _ _) ?_ ?_ ?_
  ·refine⟨rfl,rfl,rfl,rfl,rfl,rfl,rfl,(Zaa.Ext.refl H).alloc,Zaa.Zae (H:=H),hle⟩
  ·rintro k F G hk ⟨f16,f15,f14,f3,f1,f2,f4,hxG,hg,ht⟩
   rw[Zh4 x dim size l k hk]at ht
   have hgl:=Zaa.lt hg
   have hxn:=hxG.next
   have hr:=ZlA hk
   have h0:(0:Int)<=k:=by omega
   have fin:∀(b:Bool),b=ZbQ x dim l[k]->ZiJ (Zb1 l k) l[k].key=false->(l[k].key<0)=False->(size<=l[k].key)=False->T=if b=false then 2 else ZcA x dim size (Zb1 l (k+1)) (l.drop (k+1)):=by
    intro b hb h1 h2 h3
    rw[ht,hb,h1]
    simp[h2,h3]
   by_cases hk0:k=0
   ·have d0:decide ((k:Int) > 0)=false:=by simp;omega
    have ho:ZiJ (Zb1 l k) l[k].key=false:=by subst hk0;rfl
    rw[ho]at ht
    have hr':=hr
    unfold ZbE at hr
    ((have hd:=tv;repeat' first|(first|refine Zad (fun hd=>?_) (fun hd=>?_)|refine Zac (fun hd=>?_) (fun hd=>?_)|refine Zab (fun hd=>?_) (fun hd=>?_))<;>try simp only[hd]|simp(disch:=first|assumption|omega|simp only[nx]<;>omega|fail)only[hd,↓YA,YB,YC,YZ,YF,sevalprocAttr,qr,qn,Zcx,f16,f14,f3,f1,f2,f4,hg,hr,h0,d0])<;>try revert hd;refine ttr ?_)
    case refine_1.refine_2 =>
     refine Zap.use (ZeJ tok x dim l[k] _ hl) ?_
     rintro r H' ⟨rfl,k2,rfl⟩
     cases hb:ZbQ x dim l[k]with
     | true =>
      ((have hd:=tv;repeat' first|(first|refine Zad (fun hd=>?_) (fun hd=>?_)|refine Zac (fun hd=>?_) (fun hd=>?_)|refine Zab (fun hd=>?_) (fun hd=>?_))<;>try simp only[hd]|simp(disch:=first|assumption|omega|simp only[nx]<;>omega|fail)only[hd,↓YA,YB,YC,YZ,YF,sevalprocAttr,qr,qn,Zcx,hb,f16,f15,f14,f3,f1,f2,f4,hg])<;>try revert hd;refine ttr ?_)
      refine⟨?_,?_⟩
      ·(repeat (first|assumption|exact Zaa.Ext.refl _|refine Zaa.Ext.set ?_ (by first|assumption|omega|(simp only[Zaf,Zai,Zam];omega))|refine Zaa.Ext.alloc ?_|refine Zaa.Ext.bump ?_))
      ·grind
     | false =>
      ((have hd:=tv;repeat' first|(first|refine Zad (fun hd=>?_) (fun hd=>?_)|refine Zac (fun hd=>?_) (fun hd=>?_)|refine Zab (fun hd=>?_) (fun hd=>?_))<;>try simp only[hd]|simp(disch:=first|assumption|omega|simp only[nx]<;>omega|fail)only[hd,↓YA,YB,YC,YZ,YF,sevalprocAttr,qr,qn,Zcx,hb,f16,f15,f14,f3,f1,f2,f4,hg])<;>try revert hd;refine ttr ?_)
      refine Zen ?_ ?_
      ·(repeat (first|assumption|exact Zaa.Ext.refl _|refine Zaa.Ext.set ?_ (by first|assumption|omega|(simp only[Zaf,Zai,Zam];omega))|refine Zaa.Ext.alloc ?_|refine Zaa.Ext.bump ?_))
      ·grind
    all_goals
     refine Zen ?_ ?_
     ·(repeat (first|assumption|exact Zaa.Ext.refl _|refine Zaa.Ext.set ?_ (by first|assumption|omega|(simp only[Zaf,Zai,Zam];omega))|refine Zaa.Ext.alloc ?_|refine Zaa.Ext.bump ?_))
     ·grind
   ·have d0:decide ((k:Int) > 0)=true:=by simp;omega
    have hk1:k - 1<l.length:=by omega
    have ho:ZiJ (Zb1 l k) l[k].key=decide (l[k].key<=l[k - 1].key):=by
     unfold Zb1
     rw[if_neg hk0,zaa hk1]
     rfl
    rw[ho]at ht
    have hr1:=ZlA hk1
    have h0i:(0:Int)<=(k:Int) - 1:=by omega
    have hti:((k:Int) - 1).toNat=k - 1:=by omega
    have hr':=hr
    unfold ZbE at hr hr1
    ((have hd:=tv;repeat' first|(first|refine Zad (fun hd=>?_) (fun hd=>?_)|refine Zac (fun hd=>?_) (fun hd=>?_)|refine Zab (fun hd=>?_) (fun hd=>?_))<;>try simp only[hd]|simp(disch:=first|assumption|omega|simp only[nx]<;>omega|fail)only[hd,↓YA,YB,YC,YZ,YF,sevalprocAttr,qr,qn,Zcx,f16,f14,f3,f1,f2,f4,hg,hr,h0,d0,h0i,hti,hr1])<;>try revert hd;refine ttr ?_)
    case refine_1.refine_2.refine_2 =>
     refine Zap.use (ZeJ tok x dim l[k] _ hl) ?_
     rintro r H' ⟨rfl,k2,rfl⟩
     cases hb:ZbQ x dim l[k]with
     | true =>
      ((have hd:=tv;repeat' first|(first|refine Zad (fun hd=>?_) (fun hd=>?_)|refine Zac (fun hd=>?_) (fun hd=>?_)|refine Zab (fun hd=>?_) (fun hd=>?_))<;>try simp only[hd]|simp(disch:=first|assumption|omega|simp only[nx]<;>omega|fail)only[hd,↓YA,YB,YC,YZ,YF,sevalprocAttr,qr,qn,Zcx,hb,f16,f15,f14,f3,f1,f2,f4,hg])<;>try revert hd;refine ttr ?_)
      refine⟨?_,?_⟩
      ·(repeat (first|assumption|exact Zaa.Ext.refl _|refine Zaa.Ext.set ?_ (by first|assumption|omega|(simp only[Zaf,Zai,Zam];omega))|refine Zaa.Ext.alloc ?_|refine Zaa.Ext.bump ?_))
      ·grind
     | false =>
      ((have hd:=tv;repeat' first|(first|refine Zad (fun hd=>?_) (fun hd=>?_)|refine Zac (fun hd=>?_) (fun hd=>?_)|refine Zab (fun hd=>?_) (fun hd=>?_))<;>try simp only[hd]|simp(disch:=first|assumption|omega|simp only[nx]<;>omega|fail)only[hd,↓YA,YB,YC,YZ,YF,sevalprocAttr,qr,qn,Zcx,hb,f16,f15,f14,f3,f1,f2,f4,hg])<;>try revert hd;refine ttr ?_)
      refine Zen ?_ ?_
      ·(repeat (first|assumption|exact Zaa.Ext.refl _|refine Zaa.Ext.set ?_ (by first|assumption|omega|(simp only[Zaf,Zai,Zam];omega))|refine Zaa.Ext.alloc ?_|refine Zaa.Ext.bump ?_))
      ·grind
    all_goals
     refine Zen ?_ ?_
     ·(repeat (first|assumption|exact Zaa.Ext.refl _|refine Zaa.Ext.set ?_ (by first|assumption|omega|(simp only[Zaf,Zai,Zam];omega))|refine Zaa.Ext.alloc ?_|refine Zaa.Ext.bump ?_))
     ·grind
  ·rintro F G ⟨f16,f15,f14,f3,f1,f2,f4,hxG,hg,ht⟩
   ((have hd:=tv;repeat' first|(first|refine Zad (fun hd=>?_) (fun hd=>?_)|refine Zac (fun hd=>?_) (fun hd=>?_)|refine Zab (fun hd=>?_) (fun hd=>?_))<;>try simp only[hd]|simp(disch:=first|assumption|omega|simp only[nx]<;>omega|fail)only[hd,↓YA,YB,YC,YZ,YF,sevalprocAttr,qr,qn,Zcx])<;>try revert hd;refine ttr ?_)
   refine Zen hxG ?_
   rw[ht,zaP]
   cases Zb1 l l.length<;>rfl
abbrev rL (ls:List (List Cel)):List (List AV):=ls.map fun l=>[.sl .no (rC l)]
theorem Zgu {ls:List (List Cel)} {k:Nat} (h:k<ls.length):(rL ls)[k]?=some [.sl .no (rC ls[k])]:=by simp[h]
def ZbD (t:Tok) (n:Nod):List AV:=[.i n.dim,.sl t (rL n.lists),.i n.all.key,.i n.all.child,.i n.all.agg.n,.i n.all.agg.s0,.i n.all.agg.l0,.i n.all.agg.h0,.i n.all.agg.s1,.i n.all.agg.l1,.i n.all.agg.h1,.i n.all.agg.s2,.i n.all.agg.l2,.i n.all.agg.h2]
def Zsq (ls:List (List Cel)):Prop:=ls.length<=1000000/\∀l∈ls,l.length<=1000000
set_option maxHeartbeats 4000000 in
theorem Zjh (tok t:Tok) (x:Shp) (n:Nod) (H:Zaa) (hl:x.sizes.length<=1000000) (hx:∀s∈x.sizes,s.length<=1000000) (hn:Zsq n.lists):Zay Tryz.prog 121 [.agg [.sl tok (rII x.sizes),.i x.measures],.agg (ZbD t n)] H (Pure H (.i (Zbf x n))):=by
 refine Zak hE cf121 (zab rfl) fun Q qr qn=>?_
 obtain⟨dim,lists,all⟩:=n
 obtain⟨hn1,hn2⟩:=hn
 simp only at hn1 hn2
 by_cases hdm:0<=dim/\dim<x.sizes.length
 ·obtain⟨d,rfl⟩:∃d:Nat,dim=d:=⟨dim.toNat,by omega⟩
  have hd':d<x.sizes.length:=by omega
  have d1:decide ((d:Int)<0)=false:=by simp
  have d2:decide ((d:Int)≥(x.sizes.length:Int))=false:=by simp;omega
  have h0:(0:Int)<=d:=by omega
  have hs:=Zhb hd'
  have hss:=hx _ (zaq hd')
  have hT:Zbf x ⟨d,lists,all⟩=if lists.length≠x.sizes[d].length\/lists.length=0 then 2 else if ZbH x d none x.sizes[d] lists≠0 then ZbH x d none x.sizes[d] lists else if all.key≠0\/ZbQ x d all=false then 2 else 0:=by
   unfold Zbf
   rw[if_neg (by simp;omega)]
   simp only[Int.toNat_natCast,zah,zaa hd',Option.getD_some]
  generalize Zbf x ⟨d,lists,all⟩=T at *
  ((have hd:=tv;repeat' first|(first|apply Zad|apply Zac|apply Zab)<;>intro hd<;>try simp only[hd]|simp(disch:=first|assumption|omega|simp only[nx]<;>omega|fail)only[hd,↓YA,YB,YC,YZ,YF,sevalprocAttr,qr,qn,Zcv,ZbD,d1,d2,h0,hs,zaj])<;>try revert hd;refine ttr ?_)
  any_goals
   refine Zen ?_ ?_
   ·(repeat (first|assumption|exact Zaa.Ext.refl _|refine Zaa.Ext.set ?_ (by first|assumption|omega|(simp only[Zaf,Zai,Zam];omega))|refine Zaa.Ext.alloc ?_|refine Zaa.Ext.bump ?_))
   ·grind
  have e1:lists.length=x.sizes[d].length:=by grind
  have e2:lists.length≠0:=by grind
  rw[if_neg (by omega)]at hT
  generalize hS:ZbH x d none x.sizes[d] lists=S at *
  refine ZbJ (N:=lists.length) (fun k F G=>Fr.get F 41=.i (k:Int)/\Fr.get F 40=.i (lists.length:Int)/\Fr.get F 39=.sl t (rL lists)/\Fr.get F 2=.ptr H.next 0/\Fr.get F 3=.ptr (H.next+1) 0/\Zaa.Ext H G/\G.get H.next=some (.cells [.sl tok (rII x.sizes),.i x.measures] 37)/\G.get (H.next+1)=some (.cells (ZbD t ⟨d,lists,all⟩) 115)/\S=ZbH x d (ZcG lists k) (x.sizes[d].drop k) (lists.drop k)) (by unfold maxLen;omega) (fun k F G h=>⟨h.1,h.2.1⟩) (GStep.refl _ _) ?_ ?_ ?_
  ·refine⟨rfl,rfl,rfl,rfl,rfl,(Zaa.Ext.refl H).alloc.alloc,?_,Zaa.Zae (H:=H.alloc _),hS.symm⟩
   rw[Zaa.Zag (by simp)]
   exact Zaa.Zae
  ·rintro k F G hk ⟨f41,f40,f39,f2,f3,hxG,hg,hg2,ht⟩
   have hks:k<x.sizes[d].length:=by omega
   rw[Zhi x d x.sizes[d] lists k hk hks]at ht
   have hgl:=Zaa.lt hg2
   have hxn:=hxG.next
   have hr:=Zgu hk
   have hrs:=Zms hks
   have h0k:(0:Int)<=k:=by omega
   have hlk:=hn2 _ (zaq hk)
   unfold ZbD at hg2
   have hZ:=an7 f41<|an7 f39<|an7 f2<|an7 f3<|an7 hg<|an7 hg2<|an7 hr<|an7 hrs<|an7 hs<|an7 h0<|h0k;refine Az1 ?_
   refine Zap.use (Zkr tok .no x d x.sizes[d][k] lists[k] _ hl (by omega)) ?_
   rintro r H' ⟨rfl,k2,rfl⟩
   generalize hE0:ZbN x d x.sizes[d][k] lists[k]=E at *
   by_cases hk0:k=0
   ·have d0:decide ((k:Int) > 0)=false:=by simp;omega
    have ho:Zkf (ZcG lists k) lists[k].length=false:=by subst hk0;rfl
    rw[ho]at ht
    ((have hd:=tv;repeat' first|(first|apply Zad|apply Zac|apply Zab)<;>intro hd<;>try simp only[hd]|simp(disch:=first|assumption|omega|simp only[nx]<;>omega|fail)only[hd,↓YA,YB,YC,YZ,YF,sevalprocAttr,qr,qn,Zcv,ZbD,f41,f40,f39,f2,f3,hg,hg2,hr,d0,h0k])<;>try revert hd;refine ttr ?_)
    any_goals
     refine Zen ?_ ?_
     ·(repeat (first|assumption|exact Zaa.Ext.refl _|refine Zaa.Ext.set ?_ (by first|assumption|omega|(simp only[Zaf,Zai,Zam];omega))|refine Zaa.Ext.alloc ?_|refine Zaa.Ext.bump ?_))
     ·grind
    refine⟨?_,?_⟩
    ·(repeat (first|assumption|exact Zaa.Ext.refl _|refine Zaa.Ext.set ?_ (by first|assumption|omega|(simp only[Zaf,Zai,Zam];omega))|refine Zaa.Ext.alloc ?_|refine Zaa.Ext.bump ?_))
    ·grind
   ·have d0:decide ((k:Int) > 0)=true:=by simp;omega
    have hk1:k - 1<lists.length:=by omega
    have ho:Zkf (ZcG lists k) lists[k].length=decide (lists[k - 1].length<lists[k].length):=by
     unfold ZcG
     rw[if_neg hk0,zaa hk1]
     rfl
    rw[ho]at ht
    have hr1:=Zgu hk1
    have h0i:(0:Int)<=(k:Int) - 1:=by omega
    have hti:((k:Int) - 1).toNat=k - 1:=by omega
    ((have hd:=tv;repeat' first|(first|apply Zad|apply Zac|apply Zab)<;>intro hd<;>try simp only[hd]|simp(disch:=first|assumption|omega|simp only[nx]<;>omega|fail)only[hd,↓YA,YB,YC,YZ,YF,sevalprocAttr,qr,qn,Zcv,ZbD,f41,f40,f39,f2,f3,hg,hg2,hr,d0,h0k,h0i,hti,hr1,zaj])<;>try revert hd;refine ttr ?_)
    any_goals
     refine Zen ?_ ?_
     ·(repeat (first|assumption|exact Zaa.Ext.refl _|refine Zaa.Ext.set ?_ (by first|assumption|omega|(simp only[Zaf,Zai,Zam];omega))|refine Zaa.Ext.alloc ?_|refine Zaa.Ext.bump ?_))
     ·grind
    refine⟨?_,?_⟩
    ·(repeat (first|assumption|exact Zaa.Ext.refl _|refine Zaa.Ext.set ?_ (by first|assumption|omega|(simp only[Zaf,Zai,Zam];omega))|refine Zaa.Ext.alloc ?_|refine Zaa.Ext.bump ?_))
    ·grind
  ·rintro F G ⟨f41,f40,f39,f2,f3,hxG,hg,hg2,ht⟩
   have hS0:S=0:=by rw[ht,zaP,ZeZ]
   rw[hS0]at hT
   have hgl:=Zaa.lt hg2
   have hxn:=hxG.next
   unfold ZbD at hg2
   ((have hd:=tv;repeat' first|(first|apply Zad|apply Zac|apply Zab)<;>intro hd<;>try simp only[hd]|simp(disch:=first|assumption|omega|simp only[nx]<;>omega|fail)only[hd,↓YA,YB,YC,YZ,YF,sevalprocAttr,qr,qn,Zcv,f2,f3,hg,hg2])<;>try revert hd;refine ttr ?_)
   any_goals
    refine Zen ?_ ?_
    ·(repeat (first|assumption|exact Zaa.Ext.refl _|refine Zaa.Ext.set ?_ (by first|assumption|omega|(simp only[Zaf,Zai,Zam];omega))|refine Zaa.Ext.alloc ?_|refine Zaa.Ext.bump ?_))
    ·grind
   refine Zap.use (ZeJ tok x d all _ hl) ?_
   rintro r H' ⟨rfl,k2,rfl⟩
   cases hb:ZbQ x d all with
   | true =>
    have hZ:=hb;refine Az1 ?_
    refine Zen ?_ ?_
    ·(repeat (first|assumption|exact Zaa.Ext.refl _|refine Zaa.Ext.set ?_ (by first|assumption|omega|(simp only[Zaf,Zai,Zam];omega))|refine Zaa.Ext.alloc ?_|refine Zaa.Ext.bump ?_))
    ·grind
   | false =>
    have hZ:=hb;refine Az1 ?_
    refine Zen ?_ ?_
    ·(repeat (first|assumption|exact Zaa.Ext.refl _|refine Zaa.Ext.set ?_ (by first|assumption|omega|(simp only[Zaf,Zai,Zam];omega))|refine Zaa.Ext.alloc ?_|refine Zaa.Ext.bump ?_))
    ·grind
 ·have hT:Zbf x ⟨dim,lists,all⟩=2:=by unfold Zbf;rw[if_pos (by simp;omega)]
  rw[hT]at qr qn
  ((have hd:=tv;repeat' first|(first|apply Zad|apply Zac|apply Zab)<;>intro hd<;>try simp only[hd]|simp(disch:=first|assumption|omega|simp only[nx]<;>omega|fail)only[hd,↓YA,YB,YC,YZ,YF,sevalprocAttr,qr,qn,Zcv,ZbD,zaj])<;>try revert hd;refine ttr ?_)
  all_goals first
   | (refine Zen ?_ rfl;(repeat (first|assumption|exact Zaa.Ext.refl _|refine Zaa.Ext.set ?_ (by first|assumption|omega|(simp only[Zaf,Zai,Zam];omega))|refine Zaa.Ext.alloc ?_|refine Zaa.Ext.bump ?_)))
   | (exfalso;grind)
theorem Zdf {α:Type} {ls:List (List α)} {k:Nat} (h:k<ls.length):(ls.take (k+1)).flatten=(ls.take k).flatten++ls[k]:=by
 rw[zar h,zbJ,List.flatten_cons,List.flatten_nil,zaI]
theorem ZiA {α:Type} (ls:List (List α)) (k:Nat):(ls.take k).flatten.length<=ls.flatten.length:=by
 conv=>rhs;rw[<- zbN k ls,zbJ,zai]
 omega
theorem Zei (l:List Cel):ZaE 12 (rC l)=true:=ZaU (f:=ZbE) (fun _=>rfl) l
def ConcQ (ls:List (List Cel)) (H:Zaa) (r:AV) (H':Zaa):Prop:=Zaa.Ext H H'/\((ls.flatten=[]/\r=.sl .full [])\/∃id,r=.sl (.own id) (rC ls.flatten)/\H'.get id=some (.tok ls.flatten.length 113 12)/\H.next<=id)
set_option maxHeartbeats 4000000 in
theorem Zh5 (t:Tok) (ls:List (List Cel)) (H:Zaa) (h1:ls.length<=1000000) (h2:ls.flatten.length<=1000000):Zay Tryz.prog 107 [.sl t (rL ls)] H (ConcQ ls H):=by
 refine Zak hE cf107 (zab rfl) fun Q qr qn=>?_
 refine Az2 ?_
 refine ZbJ (N:=ls.length) (fun k F G=>Fr.get F 11=.i (k:Int)/\Fr.get F 10=.i (ls.length:Int)/\Fr.get F 9=.sl t (rL ls)/\Fr.get F 0=.sl t (rL ls)/\Fr.get F 3=.i ((ls.take k).flatten.length:Int)/\G=H) (by unfold maxLen;omega) (fun k F G h=>⟨h.1,h.2.1⟩) (GStep.refl _ _) ?_ ?_ ?_
 ·exact⟨rfl,rfl,rfl,rfl,rfl,rfl⟩
 ·rintro k F G hk ⟨f11,f10,f9,f0,f3,rfl⟩
  have hr:=Zgu hk
  have h0k:(0:Int)<=k:=by omega
  have hf:=ZiA ls (k+1)
  rw[Zdf hk,zai]at hf
  have hw:IntKind.i64.wrap (((ls.take k).flatten.length:Int)+(ls[k].length:Int))=(((ls.take (k+1)).flatten.length:Nat):Int):=by
   rw[Zdf hk,zai,Zaw (by omega) (by omega)];omega
  have d0:decide ((((ls.take (k+1)).flatten.length:Nat):Int)<0)=false:=by simp
  ((have hd:=tv;repeat' first|(first|apply Zad|apply Zac|apply Zab)<;>intro hd<;>try simp only[hd]|simp(disch:=first|assumption|omega|simp only[nx]<;>omega|fail)only[hd,↓YA,YB,YC,YZ,YF,sevalprocAttr,qr,qn,Zcf,f11,f10,f9,f0,f3,hr,h0k,zaj,hw,d0])<;>try revert hd;refine ttr ?_)
 ·rintro F G ⟨f11,f10,f9,f0,f3,rfl⟩
  rw[zaK]at f3
  have hZ:=an7 f0<|f3;refine Az1 ?_
  by_cases he:ls.flatten.length=0
  ·have hnil:ls.flatten=[]:=zaJ he
   rw[he]
   refine Zap.use (ZiV _) ?_
   rintro r H' ⟨rfl,rfl⟩
   have hZ:=f0;refine Az3 ?_
   refine ZbJ (N:=ls.length) (fun k F G'=>Fr.get F 27=.i (k:Int)/\Fr.get F 26=.i (ls.length:Int)/\Fr.get F 25=.sl t (rL ls)/\Fr.get F 6=.sl .full []/\G'=H') (by unfold maxLen;omega) (fun k F G h=>⟨h.1,h.2.1⟩) (GStep.refl _ _) ?_ ?_ ?_
   ·exact⟨rfl,rfl,rfl,rfl,rfl⟩
   ·rintro k F G hk ⟨f27,f26,f25,f6,rfl⟩
    have hr:=Zgu hk
    have h0k:(0:Int)<=k:=by omega
    have hz:ls[k]=[]:=by
     have:=ZiA ls (k+1)
     rw[Zdf hk,zai]at this
     exact zaJ (by omega)
    have ha:ZaE 12 []=true:=rfl
    have hm:(0:Nat)<=maxLen:=zaD _
    rw[hz]at hr
    ((have hd:=tv;repeat' first|(first|apply Zad|apply Zac|apply Zab)<;>intro hd<;>try simp only[hd]|simp(disch:=first|assumption|omega|simp only[nx]<;>omega|fail)only[hd,↓YA,YB,YC,YZ,YF,sevalprocAttr,qr,qn,Zcf,f27,f26,f25,f6,hr,h0k,ha,hm,zbH,zaD])<;>try revert hd;refine ttr ?_)
   ·rintro F G ⟨f27,f26,f25,f6,rfl⟩
    have hZ:=f6;refine Az1 ?_
    exact Zaq ⟨Zaa.Ext.refl _,.inl ⟨hnil,rfl⟩⟩
  ·refine Zap.use (Zko ls.flatten.length _ (by omega) h2) ?_
   rintro r H' ⟨rfl,rfl⟩
   have hZ:=f0;refine Az3 ?_
   refine ZbJ (N:=ls.length) (fun k F G'=>Fr.get F 27=.i (k:Int)/\Fr.get F 26=.i (ls.length:Int)/\Fr.get F 25=.sl t (rL ls)/\Fr.get F 6=.sl (.own G.next) (rC (ls.take k).flatten)/\Zaa.Ext G G'/\G'.get G.next=some (.tok (ls.take k).flatten.length 113 12)) (by unfold maxLen;omega) (fun k F G h=>⟨h.1,h.2.1⟩) (GStep.refl _ _) ?_ ?_ ?_
   ·exact⟨rfl,rfl,rfl,rfl,(Zaa.Ext.refl G).alloc,Zaa.Zae (H:=G)⟩
   ·rintro k F G' hk ⟨f27,f26,f25,f6,hx,hg⟩
    have hr:=Zgu hk
    have h0k:(0:Int)<=k:=by omega
    have hf:=ZiA ls (k+1)
    rw[Zdf hk,zai]at hf
    have ha:=Zei ls[k]
    have hb:=Zei (ls.take k).flatten
    have hgl:=Zaa.lt hg
    have hm:(ls.take k).flatten.length+ls[k].length<=maxLen:=by unfold maxLen;omega
    have hm2:((ls.take k).flatten.length+ls[k].length) * 96<=140737488355328:=by omega
    have hap:rC (ls.take k).flatten++rC ls[k]=rC (ls.take (k+1)).flatten:=by rw[Zdf hk];simp
    have hlen:(ls.take k).flatten.length+ls[k].length=(ls.take (k+1)).flatten.length:=by rw[Zdf hk,zai]
    have hZ:=an7 f27<|an7 f26<|an7 f25<|an7 f6<|an7 hr<|an7 h0k<|an7 ha<|an7 hb<|an7 hm<|an7 hm2<|hg;refine Az3 ?_
    exact⟨by rw[hap],hx.set (zaf _),by rw[hlen]⟩
   ·rintro F G' ⟨f27,f26,f25,f6,hx,hg⟩
    rw[zaK]at f6 hg
    have hZ:=f6;refine Az1 ?_
    exact Zaq ⟨hx,.inr ⟨_,rfl,hg,zaf _⟩⟩
theorem ZkK (t:Tok) (n:Nod) (H:Zaa) (h1:n.lists.length<=1000000) (h2:n.lists.flatten.length<=1000000):Zay Tryz.prog 63 [.agg (ZbD t n)] H (Pure H (.sl .no (rC (each n)))):=by
 refine Zak hE cf63 (zab rfl) fun Q qr qn=>?_
 obtain⟨dim,lists,all⟩:=n
 simp only at h1 h2
 ((have hd:=tv;repeat' first|(first|apply Zad|apply Zac|apply Zab)<;>intro hd<;>try simp only[hd]|simp(disch:=first|assumption|omega|simp only[nx]<;>omega|fail)only[hd,↓YA,YB,YC,YZ,YF,sevalprocAttr,qr,qn,Zi8,ZbD])<;>try revert hd;refine ttr ?_)
 refine Zap.use (Zh5 t lists _ h1 h2) ?_
 rintro r H' ⟨hx,hr⟩
 have hg:=hx.get _ _ (Zaa.Zae (H:=H) (o:=.cells (ZbD t ⟨dim,lists,all⟩) 115))
 have hgl:=Zaa.lt hg
 have hxn:=hx.next
 simp only[Zaa.Zax]at hxn
 have hx2:=((Zaa.Ext.refl H).alloc (o:=.cells (ZbD t ⟨dim,lists,all⟩) 115)).trans hx
 unfold ZbD at hg
 have hb:=Zei lists.flatten
 have ha:ZaE 12 [ZbE all]=true:=rfl
 unfold ZbE at ha
 have hm:lists.flatten.length+1<=maxLen:=by unfold maxLen;omega
 have hm2:(lists.flatten.length+1) * 96<=140737488355328:=by omega
 have hap:rC lists.flatten++[ZbE all]=rC (each ⟨dim,lists,all⟩):=by unfold each;simp
 unfold ZbE at hap
 rcases hr with⟨he,rfl⟩|⟨id,rfl,hid,hl⟩
 ·have hall:each ⟨dim,lists,all⟩=[all]:=by unfold each;simp[he]
  rw[hall]at qr qn
  have hb:ZaE 12 []=true:=rfl
  have hm:(1:Nat)<=maxLen:=by unfold maxLen;omega
  have hZ:=an7 hg<|an7 hb<|an7 ha<|hm;refine Az1 ?_
  refine ZaW (hx2.alloc) ?_
  rfl
 ·have hil:=Zaa.lt hid
  simp only[Zaa.Zax]at hl
  have hZ:=an7 hg<|an7 hb<|an7 ha<|an7 hm<|an7 hm2<|hid;refine Az3 ?_
  rw[hap]
  exact ZaW (hx2.set (by omega)) rfl
theorem ZhL (tok:Tok) (l:List Cel) (H:Zaa) (hl:l.length<=1000000):Zay Tryz.prog 106 [.sl tok (rC l)] H (Pure H (.sl .no (rC l))):=by
 refine Zak hE cf106 (zab rfl) fun Q qr qn=>?_
 cases l with
 | nil =>
  have ha:ZaE 12 []=true:=rfl
  have hm:(0:Nat)<=maxLen:=zaD _
  ((have hd:=tv;repeat' first|(first|apply Zad|apply Zac|apply Zab)<;>intro hd<;>try simp only[hd]|simp(disch:=first|assumption|omega|simp only[nx]<;>omega|fail)only[hd,↓YA,YB,YC,YZ,YF,sevalprocAttr,qr,qn,Zic,ha,hm,zbH,zaD])<;>try revert hd;refine ttr ?_)
  exact ZaW (Zaa.Ext.refl _) rfl
 | cons c l =>
  have ha:=Zei (c :: l)
  have hb:ZaE 12 []=true:=rfl
  have hm:(c :: l).length<=maxLen:=by unfold maxLen;omega
  have hm2:(c :: l).length * 96<=140737488355328:=by omega
  simp only[zas,List.length_cons]at ha hm hm2
  have hZ:=an7 ha<|an7 hb<|an7 hm<|hm2;refine Az3 ?_
  exact ZaW (Zaa.Ext.refl _).alloc rfl
structure CpAt (H0:Zaa) (id t j:Nat) (n:Nod) (s:Zaa):Prop where
 ne:id≠t
 lo:H0.next<=id
 lo2:H0.next<=t
 cell:s.get id=some (.cells (ZbD (.own t) ⟨n.dim,n.lists.take j,n.all⟩) 115)
 tok:s.get t=some (.tok j 120 1)
 ext:Zaa.Ext H0 s
theorem CpAt.next {H0:Zaa} {id t j k:Nat} {n:Nod} {s:Zaa} (h:CpAt H0 id t j n s):CpAt H0 id t (j+1) n (((s.bump k).set t (.tok (j+1) 120 1)).set id (.cells (ZbD (.own t) ⟨n.dim,n.lists.take (j+1),n.all⟩) 115)):=by
 have h1:=Zaa.lt h.cell
 have h2:=Zaa.lt h.tok
 refine⟨h.ne,h.lo,h.lo2,Zaa.Zal (by simp;omega),?_,(h.ext.bump.set h.lo2).set h.lo⟩
 rw[Zaa.Zah (zbC h.ne)]
 exact Zaa.Zal (by simp;omega)
theorem Zmi (l:List (List Cel)):ZaE 1 (rL l)=true:=ZaU (f:=fun l=>[AV.sl .no (rC l)]) (fun _=>rfl) l
theorem rL_snoc {l:List (List Cel)} {j:Nat} (h:j<l.length):rL (l.take j)++[[AV.sl .no (rC l[j])]]=rL (l.take (j+1)):=by
 rw[zcp,zaa h]
 simp only[Option.toList_some,zaV,zas,zaS]
set_option maxHeartbeats 4000000 in
theorem ZeN (t:Tok) (n:Nod) (H:Zaa) (hn:Zsq n.lists):Zay Tryz.prog 61 [.agg (ZbD t n)] H (Pure H (.agg (ZbD .no n))):=by
 refine Zak hE cf61 (zab rfl) fun Q qr qn=>?_
 obtain⟨hn1,hn2⟩:=hn
 obtain⟨dim,lists,all⟩:=n
 simp only at hn1 hn2
 ((have hd:=tv;repeat' first|(first|apply Zad|apply Zac|apply Zab)<;>intro hd<;>try simp only[hd]|simp(disch:=first|assumption|omega|simp only[nx]<;>omega|fail)only[hd,↓YA,YB,YC,YZ,YF,sevalprocAttr,qr,qn,ZiF,ZbD,zaj])<;>try revert hd;refine ttr ?_)
 refine Zj1 fun G hG=>?_
 have hGn:G.next=H.next+3:=by rw[hG];simp
 have hg2:G.get (H.next+1+1)=some (.cells (ZbD .full ⟨dim,[],all⟩) 115):=by rw[hG];exact Zaa.Zal (by simp)
 have hg1:G.get (H.next+1)=some (.cells (ZbD .full ⟨0,[],⟨0,0,⟨0,0,0,0,0,0,0,0,0,0⟩⟩⟩) 115):=by
  rw[hG,Zaa.Zah (by omega),Zaa.Zag (by simp)]
  exact Zaa.Zae (H:=H.alloc _)
 generalize hZ:ZbD .full ⟨0,[],⟨0,0,⟨0,0,0,0,0,0,0,0,0,0⟩⟩⟩=Z at hg1
 have hGe:Zaa.Ext H G:=by rw[hG];exact(Zaa.Ext.refl H).alloc.alloc.alloc.set (by omega)
 clear hG
 refine ZbJ (N:=lists.length) (fun k F s=>Fr.get F 14=.i (k:Int)/\Fr.get F 13=.i (lists.length:Int)/\Fr.get F 12=.sl t (rL lists)/\Fr.get F 3=.ptr (H.next+1+1) 0/\Fr.get F 2=.ptr (H.next+1) 0/\CpAt H (H.next+1+1) G.next k ⟨dim,lists,all⟩ s/\s.get (H.next+1)=some (.cells Z 115)) (by unfold maxLen;omega) (fun k F G h=>⟨h.1,h.2.1⟩)
  (F1:=[(14,.i ((0:Nat):Int)),(13,.i (lists.length:Int)),(12,.sl t (rL lists)),(3,.ptr (H.next+1+1) 0),(2,.ptr (H.next+1) 0)]) (H1:=(G.set (H.next+1+1) (.cells (ZbD (.own G.next) ⟨dim,[],all⟩) 115)).alloc (.tok 0 120 1)) ?_ ?_ ?_ ?_
 ·exact(GStep.fr (by simp[Fr.get])).trans (GStep.ZdO (H.next+1+1) 1 115 120 1 hg2 rfl)
 ·refine⟨rfl,rfl,rfl,rfl,rfl,⟨by omega,by omega,by omega,?_,Zaa.Zae (H:=G.set _ _),(hGe.set (by omega)).alloc⟩,?_⟩
  ·rw[Zaa.Zag (by simp;omega)]
   exact Zaa.Zal (by omega)
  ·rw[Zaa.Zag (by simp;omega),Zaa.Zah (by omega)]
   exact hg1
 ·rintro k F s hk ⟨f14,f13,f12,f3,f2,hinv,hs1⟩
  have hr:=Zgu hk
  have h0:(0:Int)<=k:=by omega
  have hlk:(rL (lists.take k)).length=k:=by simp;omega
  have hl1:=hn2 _ (zaq hk)
  have hc:=hinv.cell
  have ht:=hinv.tok
  have hc1:=Zaa.lt hc
  have ht1:=Zaa.lt ht
  have hne:=hinv.ne
  have hne':=zbC hne
  have hne1:H.next+1≠H.next+1+1:=by omega
  have hne2:H.next+1≠G.next:=by omega
  unfold ZbD at hc
  simp only at hc
  have hZ:=an7 f14<|an7 f12<|an7 f3<|an7 hr<|an7 h0<|hc;refine Az1 ?_
  refine Zap.use (ZhL .no lists[k] _ (by omega)) ?_
  rintro r H' ⟨rfl,k',rfl⟩
  have ha1:=Zmi (lists.take k)
  have hb1:k+1<=maxLen:=by unfold maxLen;omega
  have hb2:(k+1) * 24<=140737488355328:=by omega
  refine⟨ZdV rfl rfl (by simp(disch:=first|assumption|omega|simp only[nx]<;>omega|fail)only[↓YA,YB,YC,YZ,YF,sevalprocAttr,hc]),?_⟩
  have ho1:ZaE 1 [[AV.sl .no (rC lists[k])]]=true:=rfl
  have hZ:=an7 hlk<|an7 ha1<|an7 hb1<|an7 hb2<|an7 hc<|an7 ht<|an7 ho1<|an7 f14<|an7 f13<|an7 f12<|an7 f3<|an7 f2<|hs1;refine Az1 ?_
  rw[rL_snoc hk]
  exact hinv.next (k:=k')
 ·rintro F s ⟨f14,f13,f12,f3,f2,hinv,hs1⟩
  have hc:=hinv.cell
  have hc1:=Zaa.lt hc
  have hl1:=Zaa.lt hs1
  have hx:=hinv.ext
  unfold ZbD at hc
  simp only[zaK]at hc
  subst hZ
  unfold ZbD at hs1
  have hZ:=an7 f3<|an7 f2<|an7 hc<|hs1;refine Az1 ?_
  exact ZaW (hx.set (by omega)) rfl
abbrev rN (l:List Nod):List (List AV):=l.map (ZbD .no)
theorem ZoM {l:List Nod} {k:Nat} (h:k<l.length):(rN l)[k]?=some (ZbD .no l[k]):=by simp[h]
abbrev Zk5 (x:Shp) (tok nt:Tok) (l:List Nod) (most:Int):List AV:=eAr x tok (.sl nt (rN l)) most
set_option maxHeartbeats 1000000 in
theorem ZiZ {H:Zaa} {ia id inn:Nat} {x:Shp} {tok nt t:Tok} {l:List Nod} {most:Int} {n:Nod} (c:Cel) (h1:H.get ia=some (.cells [.ptr id 0] 29)) (h2:H.get id=some (.cells (Zk5 x tok nt l most) 117)) (h3:H.get inn=some (.cells (ZbD t n) 115)) (hc:0<=c.child) (hd1:0<=n.dim) (hd2:n.dim<1000000) :
  Zay Tryz.prog 152 [.agg (ZbE c),.ptr ia 0,.ptr inn 0] H (Pure H (.b (Zg3 l n.dim c))):=by
 refine Zak hE cf152 (zab rfl) fun Q qr qn=>?_
 have l1:=Zaa.lt h1
 have l2:=Zaa.lt h2
 have l3:=Zaa.lt h3
 unfold Zk5 eAr at h2
 unfold ZbD at h3
 obtain⟨d,hdc⟩:∃d:Nat,c.child=d:=⟨c.child.toNat,by omega⟩
 have hw:IntKind.i64.wrap (n.dim+1)=n.dim+1:=Zaw (by omega) (by omega)
 have h0:(0:Int)<=d:=by omega
 by_cases hdl:d<l.length
 ·have hr:=ZoM hdl
  have d1:decide ((d:Int)<(l.length:Int))=true:=by simp;omega
  unfold ZbD at hr
  have hT:Zg3 l n.dim c=(l[d].dim == n.dim+1):=by
   unfold Zg3
   rw[hdc]
   simp only[d1,zaY,Int.toNat_natCast,zah,zaa hdl,Option.getD_some]
   rfl
  rw[hT]at qr qn
  ((have hd:=tv;repeat' first|(first|apply Zad|apply Zac|apply Zab)<;>intro hd<;>try simp only[hd]|simp(disch:=first|assumption|omega|simp only[nx]<;>omega|fail)only[hd,↓YA,YB,YC,YZ,YF,sevalprocAttr,qr,qn,ZhO,ZbE,hdc,h1,h2,h3,d1,h0,hr,hw,zaj])<;>try revert hd;refine ttr ?_)
  refine ZdI ?_ rfl
  (repeat (first|assumption|exact Zaa.Ext.refl _|refine Zaa.Ext.set ?_ (by first|assumption|omega|(simp only[Zaf,Zai,Zam];omega))|refine Zaa.Ext.alloc ?_|refine Zaa.Ext.bump ?_))
 ·have d1:decide ((d:Int)<(l.length:Int))=false:=by simp;omega
  have hT:Zg3 l n.dim c=false:=by
   unfold Zg3
   rw[hdc]
   simp only[d1,zcm]
  rw[hT]at qr qn
  ((have hd:=tv;repeat' first|(first|apply Zad|apply Zac|apply Zab)<;>intro hd<;>try simp only[hd]|simp(disch:=first|assumption|omega|simp only[nx]<;>omega|fail)only[hd,↓YA,YB,YC,YZ,YF,sevalprocAttr,qr,qn,ZhO,ZbE,hdc,h1,h2,h3,d1,h0,hw,zaj])<;>try revert hd;refine ttr ?_)
  refine ZdI ?_ rfl
  (repeat (first|assumption|exact Zaa.Ext.refl _|refine Zaa.Ext.set ?_ (by first|assumption|omega|(simp only[Zaf,Zai,Zam];omega))|refine Zaa.Ext.alloc ?_|refine Zaa.Ext.bump ?_))
theorem ZuW {l:List Cel} {p:Cel->Bool} {k:Nat} (h:k<l.length):(l.drop k).all p=(p l[k]&&(l.drop (k+1)).all p):=by
 rw[zao h,List.all_cons]
set_option maxHeartbeats 4000000 in
theorem ZiN {H:Zaa} {id:Nat} {x:Shp} {tok nt:Tok} {l:List Nod} {most:Int} (t:Tok) (n:Nod) (h2:H.get id=some (.cells (Zk5 x tok nt l most) 117)) (hck:Zbf x n=0) (hl:x.sizes.length<=1000) (hn1:n.lists.length<=1000000) (hn2:n.lists.flatten.length<=999999) :
  Zay Tryz.prog 122 [.ptr id 0,.agg (ZbD t n)] H (Pure H (.b (ZeO x l n))):=by
 refine Zak hE cf122 (zab rfl) fun Q qr qn=>?_
 have l2:=Zaa.lt h2
 have hdm:=Zfw hck
 obtain⟨hd1,hd2,_⟩:=hdm
 have h2':=h2
 unfold Zk5 eAr at h2
 ((have hd:=tv;repeat' first|(first|apply Zad|apply Zac|apply Zab)<;>intro hd<;>try simp only[hd]|simp(disch:=first|assumption|omega|simp only[nx]<;>omega|fail)only[hd,↓YA,YB,YC,YZ,YF,sevalprocAttr,qr,qn,ZcM,ZbD,h2])<;>try revert hd;refine ttr ?_)
 refine Zap.use (Zgq tok x n.dim _ (by omega)) ?_
 rintro r H' ⟨rfl,k,rfl⟩
 rw[ZmM]at qr qn
 cases hb:lastB x n.dim with
 | true =>
  rw[hb,Bool.true_or]at qr qn
  have hZ:=hb;refine Az1 ?_
  refine ZdI ?_ rfl
  (repeat (first|assumption|exact Zaa.Ext.refl _|refine Zaa.Ext.set ?_ (by first|assumption|omega|(simp only[Zaf,Zai,Zam];omega))|refine Zaa.Ext.alloc ?_|refine Zaa.Ext.bump ?_))
 | false =>
  rw[hb,zbP]at qr qn
  have hZ:=hb;refine Az1 ?_
  have hln:(each n).length<=1000000:=by unfold each;rw[zai];simp only[List.length_cons,List.length_nil];omega
  refine Zap.use (ZkK t n _ hn1 (by omega)) ?_
  rintro r H' ⟨rfl,k2,rfl⟩
  refine Az2 ?_
  have hch:=Zfu hck hb
  generalize each n=es at *
  generalize hT:es.all (Zg3 l n.dim)=T at *
  refine ZbJ (N:=es.length) (fun k F G=>Fr.get F 19=.i (k:Int)/\Fr.get F 18=.i (es.length:Int)/\Fr.get F 17=.sl .no (rC es)/\Fr.get F 5=.fn 152 [] [.ptr H.next 0,.ptr (H.next+1) 0]/\Zaa.Ext H G/\G.get H.next=some (.cells [.ptr id 0] 29)/\G.get (H.next+1)=some (.cells (ZbD t n) 115)/\T=(es.drop k).all (Zg3 l n.dim)) (by unfold maxLen;omega) (fun k F G h=>⟨h.1,h.2.1⟩) (GStep.refl _ _) ?_ ?_ ?_
  ·refine⟨rfl,rfl,rfl,rfl,(Zaa.Ext.refl H).alloc.alloc.bump.bump,?_,?_,hT.symm⟩
   ·simp only[Zaa.ZaB]
    rw[Zaa.Zag (by simp)]
    exact Zaa.Zae
   ·simp only[Zaa.ZaB]
    exact Zaa.Zae (H:=H.alloc _)
  ·rintro k F G hk ⟨f19,f18,f17,f5,hxG,hg1,hg2,ht⟩
   rw[ZuW hk]at ht
   have hr:=ZlA hk
   have h0:(0:Int)<=k:=by omega
   have hgl:=Zaa.lt hg2
   have hxn:=hxG.next
   have hck1:=hch _ (zaq hk)
   have hG2:∀o o',((G.alloc o).set G.next o').get id=some (.cells (Zk5 x tok nt l most) 117):=by
    intro o o'
    have:=Zaa.lt h2'
    rw[Zaa.Zah (by omega),Zaa.Zag (by omega)]
    exact hxG.get _ _ h2'
   have hG1:∀o o',((G.alloc o).set G.next o').get H.next=some (.cells [.ptr id 0] 29):=by
    intro o o'
    rw[Zaa.Zah (by omega),Zaa.Zag (by omega)]
    exact hg1
   have hG3:∀o o',((G.alloc o).set G.next o').get (H.next+1)=some (.cells (ZbD t n) 115):=by
    intro o o'
    rw[Zaa.Zah (by omega),Zaa.Zag (by omega)]
    exact hg2
   unfold ZbE at hr
   have hZ:=an7 f19<|an7 f17<|an7 f5<|an7 hr<|h0;refine Az1 ?_
   refine Zap.use (ZiZ es[k] (hG1 _ _) (hG2 _ _) (hG3 _ _) hck1 hd1 (by omega)) ?_
   rintro r H' ⟨rfl,k',rfl⟩
   cases hp:Zg3 l n.dim es[k]with
   | true =>
    have hZ:=an7 hp<|an7 f19<|an7 f18<|an7 f17<|an7 f5<|an7 hg1<|hg2;refine Az1 ?_
    refine⟨?_,?_⟩
    ·(repeat (first|assumption|exact Zaa.Ext.refl _|refine Zaa.Ext.set ?_ (by first|assumption|omega|(simp only[Zaf,Zai,Zam];omega))|refine Zaa.Ext.alloc ?_|refine Zaa.Ext.bump ?_))
    ·rw[ht,hp];rfl
   | false =>
    have hZ:=hp;refine Az1 ?_
    refine ZdI ?_ ?_
    ·(repeat (first|assumption|exact Zaa.Ext.refl _|refine Zaa.Ext.set ?_ (by first|assumption|omega|(simp only[Zaf,Zai,Zam];omega))|refine Zaa.Ext.alloc ?_|refine Zaa.Ext.bump ?_))
    ·rw[ht,hp];rfl
  ·rintro F G ⟨f19,f18,f17,f5,hxG,hg1,hg2,ht⟩
   refine Az0 ?_
   refine ZdI hxG ?_
   rw[ht,zaP];rfl
structure ArO (H:Zaa) (id tk:Nat) (x:Shp) (tok:Tok) (l:List Nod) (most:Int):Prop where
 ne:id≠tk
 cell:H.get id=some (.cells (Zk5 x tok (.own tk) l most) 117)
 row:H.get tk=some (.tok l.length 115 14)
structure Zqr (id tk:Nat) (H H':Zaa):Prop where
 next:H.next<=H'.next
 get:∀i o,i≠id->i≠tk->H.get i=some o->H'.get i=some o
theorem ArO.ext {H H':Zaa} {id tk:Nat} {x:Shp} {tok:Tok} {l:List Nod} {most:Int} (h:ArO H id tk x tok l most) (hx:Zaa.Ext H H'):ArO H' id tk x tok l most:=⟨h.ne,hx.get _ _ h.cell,hx.get _ _ h.row⟩
def AddQ (x:Shp) (most:Int) (l:List Nod) (n:Nod) (id tk:Nat) (tok:Tok) (H:Zaa) (r:AV) (H':Zaa):Prop :=
 (ZbF x most l n≠0/\r=.tup [.i 0,.i (ZbF x most l n)]/\Zaa.Ext H H')\/(ZbF x most l n=0/\r=.tup [.i (l.length:Int),.i 0]/\ArO H' id tk x tok (l++[n]) most/\Zqr id tk H H')
theorem ZmW (l:List Nod):ZaE 14 (rN l)=true:=ZaU (f:=ZbD .no) (fun _=>rfl) l
theorem ZqC (l:List Nod) (n:Nod):rN l++[ZbD .no n]=rN (l++[n]):=by simp
def Zdb (n:Nod):Prop:=n.lists.length<=1000000/\n.lists.flatten.length<=999999/\∀l∈n.lists,l.length<=1000000
set_option maxHeartbeats 4000000 in
theorem Zlq {H:Zaa} {id tk:Nat} {x:Shp} {tok:Tok} {l:List Nod} {most:Int} (t:Tok) (n:Nod) (ha:ArO H id tk x tok l most) (hx:ZbS x=true) (hl:l.length<=200000) (hn:Zdb n):Zay Tryz.prog 77 [.ptr id 0,.agg (ZbD t n)] H (AddQ x most l n id tk tok H):=by
 refine Zak hE cf77 (zab rfl) fun Q qr qn=>?_
 obtain⟨b1,b2,b3,b4,b5⟩:=Zby hx
 obtain⟨hn1,hn2,hn3⟩:=hn
 have hx0:Zaa.Ext H (H.alloc (.cells (ZbD t n) 115)):=(Zaa.Ext.refl H).alloc
 have hss:∀s∈x.sizes,s.length<=1000000:=fun s hs=>by have:=(ZcP (b5 s hs)).2.1;omega
 ((have hd:=tv;repeat' first|(first|apply Zad|apply Zac|apply Zab)<;>intro hd<;>try simp only[hd]|simp(disch:=first|assumption|omega|simp only[nx]<;>omega|fail)only[hd,↓YA,YB,YC,YZ,YF,sevalprocAttr,qr,qn,ZdC,ZbD])<;>try revert hd;refine ttr ?_)
 refine Zap.use (Zeu (hx0.get _ _ ha.cell) b1) ?_
 rintro r H1 ⟨rfl,hx1⟩
 have hx01:=hx0.trans hx1
 have hnod:=hx1.get _ _ (Zaa.Zae (H:=H) (o:=.cells (ZbD t n) 115))
 have hc:=(ha.ext hx01).cell
 have hid:=Zaa.lt ha.cell
 have htk:=Zaa.lt ha.row
 have hxn:=hx01.next
 unfold ZbD at hnod
 have hc0:=hc
 unfold Zk5 eAr at hc
 have hZ:=an7 hc<|hnod;refine Az1 ?_
 refine Zap.use (Zjh tok t x n _ (by omega) hss ⟨hn1,hn3⟩) ?_
 rintro r H2 ⟨rfl,k2,rfl⟩
 by_cases e1:Zbf x n=0
 ·have d1:(Zbf x n != 0)=false:=by simp[e1]
  have hZ:=an7 d1<|an7 hc<|hnod;refine Az1 ?_
  refine Zap.use (ZiN t n (H:=H1.bump k2) hc0 e1 (by omega) hn1 hn2) ?_
  rintro r H3 ⟨rfl,k3,rfl⟩
  cases hlb:ZeO x l n with
  | false =>
   have hT:ZbF x most l n=9:=by unfold ZbF;simp[e1,hlb]
   have hZ:=hlb;refine Az1 ?_
   refine Zaq (.inl ⟨by rw[hT];decide,by rw[hT],?_⟩)
   (repeat (first|assumption|exact Zaa.Ext.refl _|refine Zaa.Ext.set ?_ (by first|assumption|omega|(simp only[Zaf,Zai,Zam];omega))|refine Zaa.Ext.alloc ?_|refine Zaa.Ext.bump ?_))
  | true =>
   ((have hd:=tv;repeat' first|(first|apply Zad|apply Zac|apply Zab)<;>intro hd<;>try simp only[hd]|simp(disch:=first|assumption|omega|simp only[nx]<;>omega|fail)only[hd,↓YA,YB,YC,YZ,YF,sevalprocAttr,qr,qn,ZdC,hlb,hc,zaj])<;>try revert hd;refine ttr ?_)
   any_goals
    have hT:ZbF x most l n=7:=by unfold ZbF;simp[e1,hlb];grind
    refine Zaq (.inl ⟨by rw[hT];decide,by rw[hT],?_⟩)
    (repeat (first|assumption|exact Zaa.Ext.refl _|refine Zaa.Ext.set ?_ (by first|assumption|omega|(simp only[Zaf,Zai,Zam];omega))|refine Zaa.Ext.alloc ?_|refine Zaa.Ext.bump ?_))
   have hT:ZbF x most l n=0:=by unfold ZbF;simp[e1,hlb];grind
   have hrow:=(ha.ext hx01).row
   have hZ:=an7 hc<|hnod;refine Az3 ?_
   refine Zap.use (ZeN t n _ ⟨hn1,hn3⟩) ?_
   rintro r H4 ⟨rfl,k4,rfl⟩
   have ha1:=ZmW l
   have hb1:l.length+1<=maxLen:=by unfold maxLen;omega
   have hb2:(l.length+1) * 128<=140737488355328:=by omega
   have ho1:ZaE 14 [ZbD .no n]=true:=rfl
   have hne:=ha.ne
   have hne':=zbC hne
   have hl1:=Zaa.lt hc
   have hl2:=Zaa.lt hrow
   refine⟨ZdV rfl rfl (by simp(disch:=first|assumption|omega|simp only[nx]<;>omega|fail)only[↓YA,YB,YC,YZ,YF,sevalprocAttr,hc]),?_⟩
   unfold ZbD at ho1
   have hsn:=ZqC l n
   conv at hsn=>lhs;rhs;unfold ZbD
   have hw:IntKind.i64.wrap (((l.length+1:Nat):Int) - 1)=(l.length:Int):=by rw[Zaw (by omega) (by omega)];omega
   ((have hd:=tv;repeat' first|(first|apply Zad|apply Zac|apply Zab)<;>intro hd<;>try simp only[hd]|simp(disch:=first|assumption|omega|simp only[nx]<;>omega|fail)only[hd,↓YA,YB,YC,YZ,YF,sevalprocAttr,qr,qn,ZdC,ZbD,hc,hnod,hrow,ha1,hb1,hb2,ho1,zaj,zai])<;>try revert hd;refine ttr ?_)
   have hi:((l.length+1:Nat):Int) - 1=l.length:=by omega
   rw[hsn,hi]
   refine Zaq (.inr ⟨hT,rfl,⟨hne,?_,?_⟩,?_⟩)
   ·rw[Zaa.Zal (by simp;omega)];rfl
   ·rw[Zaa.Zah hne',Zaa.Zal (by simp;omega),zai];rfl
   ·refine⟨by simp;omega,fun i o h1 h2 h=>?_⟩
    rw[Zaa.Zah h1,Zaa.Zah h2]
    simp only[Zaa.ZaB]
    exact hx01.get _ _ h
 ·have d1:(Zbf x n != 0)=true:=by simpa using e1
  have hT:ZbF x most l n=Zbf x n:=by unfold ZbF;rw[if_pos e1]
  have hZ:=d1;refine Az1 ?_
  refine Zaq (.inl ⟨by rw[hT];exact e1,by rw[hT],?_⟩)
  (repeat (first|assumption|exact Zaa.Ext.refl _|refine Zaa.Ext.set ?_ (by first|assumption|omega|(simp only[Zaf,Zai,Zam];omega))|refine Zaa.Ext.alloc ?_|refine Zaa.Ext.bump ?_))
theorem Znw (x:Shp) (most:Int) (l:List Nod) (k:Nat) (h:k<l.length):Znc x most (l.take k) (l.drop k)=if ZbF x most (l.take k) l[k]≠0 then ZbF x most (l.take k) l[k] else Znc x most (l.take (k+1)) (l.drop (k+1)):=by
 rw[zao h,Znc,zar h]
def ArNew (x:Shp) (l:List Nod) (most:Int) (H H':Zaa) (id:Nat):Prop:=∃tk tok,ArO H' id tk x tok l most/\H.next<=id/\H.next<=tk
def Zsc (x:Shp) (l:List Nod) (H:Zaa) (r:AV) (H':Zaa):Prop:=Zaa.Ext H H'/\((Zm5 x l≠0/\r=.tup [.sc (.pointer none),.i (Zm5 x l)])\/(Zm5 x l=0/\∃id,r=.tup [.ptr id 0,.i 0]/\ArNew x l 131072 H H' id))
set_option maxHeartbeats 4000000 in
theorem Zqd (lt:Tok) (x:Shp) (l:List Nod) (H:Zaa) (hl:l.length<=200000) (hn:∀n∈l,Zdb n):Zay Tryz.prog 36 [.agg (Zc3 x),.sl lt (rN l)] H (Zsc x l H):=by
 refine Zak hE cf36 (zab rfl) fun Q qr qn=>?_
 have hx0:Zaa.Ext H (H.alloc (.cells (Zc3 x) 37)):=(Zaa.Ext.refl H).alloc
 rw[ZgU]at hx0 ⊢
 refine Az0 ?_
 refine Zap.use (Zfe x 131072 _) ?_
 rintro r H1 ⟨hx1,hq⟩
 have hx01:=hx0.trans hx1
 have hxn:=hx1.next
 simp only[Zaa.Zax]at hxn
 by_cases hm:ZbS x=true
 ·rw[if_pos ⟨hm,by omega,by omega⟩]at hq
  obtain⟨id,tok,rfl,hid,hg⟩:=hq
  simp only[Zaa.Zax]at hid
  have hgl:=Zaa.lt hg
  have hT:Zm5 x l=Znc x 131072 (l.take 0) (l.drop 0):=by unfold Zm5;rw[hm];rfl
  unfold Zsc at qr qn
  generalize Zm5 x l=T at *
  refine Az2 ?_
  refine ZbJ (N:=l.length) (fun k F G=>Fr.get F 25=.i (k:Int)/\Fr.get F 24=.i (l.length:Int)/\Fr.get F 23=.sl lt (rN l)/\Fr.get F 8=.fn 77 [.ptr id 0] []/\Fr.get F 6=.ptr id 0/\Zaa.Ext H G/\ArO G id H1.next x tok (l.take k) 131072/\T=Znc x 131072 (l.take k) (l.drop k)) (by unfold maxLen;omega) (fun k F G h=>⟨h.1,h.2.1⟩)
   (F1:=[(25,.i ((0:Nat):Int)),(24,.i (l.length:Int)),(23,.sl lt (rN l)),(8,.fn 77 [.ptr id 0] []),(6,.ptr id 0)]) (H1:=(H1.set id (.cells (eAr x tok (.sl (.own H1.next) []) 131072) 117)).alloc (.tok 0 115 14)) ?_ ?_ ?_ ?_
  ·exact(GStep.fr (by simp[Fr.get])).trans (GStep.ZdO id 2 117 115 14 hg rfl)
  ·refine⟨rfl,rfl,rfl,rfl,rfl,?_,⟨by omega,?_,Zaa.Zae (H:=H1.set _ _)⟩,hT⟩
   ·exact(hx01.set (by omega)).alloc
   ·rw[Zaa.Zag (by simp;omega)]
    exact Zaa.Zal hgl
  ·rintro k F G hk ⟨f25,f24,f23,f8,f6,hxG,ha,ht⟩
   rw[Znw x 131072 l k hk]at ht
   have hr:=ZoM hk
   have h0:(0:Int)<=k:=by omega
   have hgn:=hxG.next
   unfold ZbD at hr
   have hZ:=an7 f25<|an7 f23<|an7 f8<|an7 hr<|h0;refine Az1 ?_
   have hA:∀o o',ArO ((G.alloc o).set G.next o') id H1.next x tok (l.take k) 131072:=by
    intro o o'
    have l1:=Zaa.lt ha.cell
    have l2:=Zaa.lt ha.row
    refine⟨ha.ne,?_,?_⟩
    ·rw[Zaa.Zah (by omega),Zaa.Zag (by omega)];exact ha.cell
    ·rw[Zaa.Zah (by omega),Zaa.Zag (by omega)];exact ha.row
   refine Zap.use (Zlq .no l[k] (hA _ _) hm (by simp;omega) (hn _ (zaq hk))) ?_
   rintro r H2 (⟨he,rfl,hx2⟩|⟨he,rfl,ha2,hx2⟩)
   ·rw[if_pos he]at ht
    have d1:(ZbF x 131072 (l.take k) l[k] != 0)=true:=by simpa using he
    have hZ:=d1;refine Az1 ?_
    refine Zaq ⟨?_,.inl ⟨by rw[ht];exact he,by rw[ht]⟩⟩
    refine Zaa.Ext.trans ?_ hx2
    (repeat (first|assumption|exact Zaa.Ext.refl _|refine Zaa.Ext.set ?_ (by first|assumption|omega|(simp only[Zaf,Zai,Zam];omega))|refine Zaa.Ext.alloc ?_|refine Zaa.Ext.bump ?_))
   ·rw[if_neg (by simpa using he)]at ht
    rw[<- zar hk]at ha2
    have hE:Zaa.Ext H H2:=by
     refine⟨by have:=hx2.next;simp at this;omega,fun i o h=>?_⟩
     have hi:=Zaa.lt h
     refine hx2.get i o (by omega) (by omega) ?_
     have:=hxG.get i o h
     have hi2:=Zaa.lt this
     rw[Zaa.Zah (by omega),Zaa.Zag (by omega)]
     exact this
    have d1:((0:Int) != 0)=false:=by decide
    have hZ:=an7 d1<|an7 f25<|an7 f24<|an7 f23<|an7 f8<|f6;refine Az1 ?_
    exact⟨hE,ha2,ht⟩
  ·rintro F G ⟨f25,f24,f23,f8,f6,hxG,ha,ht⟩
   rw[zaK,zaP]at ht
   rw[zaK]at ha
   have hZ:=f6;refine Az1 ?_
   exact Zaq ⟨hxG,.inr ⟨ht,_,rfl,_,_,ha,by omega,by omega⟩⟩
 ·rw[if_neg (fun h=>hm h.1)]at hq
  subst hq
  have hT:Zm5 x l=2:=by unfold Zm5;simp at hm;rw[hm];rfl
  ((have hd:=tv;repeat' first|(first|apply Zad|apply Zac|apply Zab)<;>intro hd<;>try simp only[hd]|simp(disch:=first|assumption|omega|simp only[nx]<;>omega|fail)only[hd,↓YA,YB,YC,YZ,YF,sevalprocAttr,qr,qn,ZnS])<;>try revert hd;refine ttr ?_)
  all_goals first|exact Zaq ⟨hx01,.inl ⟨by rw[hT];decide,by rw[hT]⟩⟩|exact absurd hd (by decide)
end Go.Proofs.YtaapiigfmdhobaaGreat
