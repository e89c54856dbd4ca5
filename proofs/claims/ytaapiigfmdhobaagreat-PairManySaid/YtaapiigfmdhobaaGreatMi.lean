/- Texts of the walk. -/
import Derived.Test.YtaapiigfmdhobaaGreatMh
import Derived.Sort.Walk0
import Derived.Test.YtaapiigfmdhobaaGreatMd
import Derived.Test.YtaapiigfmdhobaaGreatMe
namespace Go.Proofs.YtaapiigfmdhobaaGreat
set_option linter.defProp false
set_option linter.unusedSimpArgs false
set_option linter.unusedVariables false
open Go.RowKit
def ArA (H:Zaa) (id:Nat) (x:Shp) (l:List Nod):Prop:=∃tok nt most,H.get id=some (.cells (Zk5 x tok nt l most) 117)
theorem ArA.ext {H H':Zaa} {id:Nat} {x:Shp} {l:List Nod} (h:ArA H id x l) (hx:Zaa.Ext H H'):ArA H' id x l:=by
 obtain⟨tok,nt,most,h⟩:=h
 exact⟨tok,nt,most,hx.get _ _ h⟩
theorem ArO.ara {H:Zaa} {id tk:Nat} {x:Shp} {tok:Tok} {l:List Nod} {most:Int} (h:ArO H id tk x tok l most):ArA H id x l:=⟨_,_,_,h.cell⟩
theorem ZhQ {H:Zaa} {id:Nat} {x:Shp} {l:List Nod} (ha:ArA H id x l) (hx:1<=x.sizes.length):Zay Tryz.prog 42 [.ptr id 0] H (ZrY H (.i l.length)):=by
 obtain⟨tok,nt,most,h⟩:=ha
 refine Zak hE cf42 (zab rfl) fun Q qr qn=>?_
 refine Az0 ?_
 refine Zap.use (Zeu h hx) ?_
 rintro r H1 ⟨rfl,hx1⟩
 have hc:=hx1.get _ _ h
 unfold Zk5 eAr at hc
 have hZ:=hc;refine Az3 ?_
 exact Zaq ⟨rfl,hx1⟩
theorem Ziu {H:Zaa} {id:Nat} {x:Shp} {l:List Nod} (ha:ArA H id x l) (hx:1<=x.sizes.length) (hl:l.length<=1000000000):Zay Tryz.prog 44 [.ptr id 0] H (ZrY H (.i ((l.length:Int) - 1))):=by
 refine Zak hE cf44 (zab rfl) fun Q qr qn=>?_
 refine Az0 ?_
 refine Zap.use (ZhQ ha hx) ?_
 rintro r H1 ⟨rfl,hx1⟩
 refine Az0 ?_
 exact Zaq ⟨rfl,hx1⟩
def Zdw (l:List Nod) (i:Int):Nod:=if 0<=i then (l[i.toNat]?).getD ⟨0,[],⟨0,0,⟨0,0,0,0,0,0,0,0,0,0⟩⟩⟩ else ⟨0,[],⟨0,0,⟨0,0,0,0,0,0,0,0,0,0⟩⟩⟩
def inB (l:List Nod) (i:Int):Bool:=decide (0<=i)&&decide (i<l.length)
theorem ZfD {H:Zaa} {id:Nat} {x:Shp} {l:List Nod} (i:Int) (ha:ArA H id x l) (hx:1<=x.sizes.length) (hn:∀n∈l,Zdb n):Zay Tryz.prog 68 [.ptr id 0,.i i] H fun r H'=>Zaa.Ext H H'/\∃t,r=.tup [.agg (ZbD t (Zdw l i)),.i (bif inB l i then 0 else 9)]:=by
 obtain⟨tok,nt,most,h⟩:=ha
 refine Zak hE cf68 (zab rfl) fun Q qr qn=>?_
 have hid:=Zaa.lt h
 have hx0:∀o,Zaa.Ext H (H.alloc o):=fun o=>(Zaa.Ext.refl H).alloc
 refine Az0 ?_
 refine Zap.use (Zeu ((hx0 _).get _ _ h) hx) ?_
 rintro r H1 ⟨rfl,hx1⟩
 have hx01:=(hx0 _).trans hx1
 have hc:=hx01.get _ _ h
 have hz:=hx1.get _ _ (Zaa.Zae (H:=H))
 have hzl:=Zaa.lt hz
 unfold Zk5 eAr at hc
 by_cases hi:0<=i/\i<l.length
 ·obtain⟨d,rfl⟩:∃d:Nat,i=d:=⟨i.toNat,by omega⟩
  have hd:d<l.length:=by omega
  have hr:=ZoM hd
  have h0:(0:Int)<=d:=by omega
  have d1:decide ((d:Int)<0)=false:=by simp
  have d2:decide ((d:Int)≥(l.length:Int))=false:=by simp;omega
  have hT1:Zdw l d=l[d]:=by unfold Zdw;simp[hd]
  have hT2:inB l d=true:=by unfold inB;simp;omega
  rw[hT1,hT2]at qr qn
  unfold ZbD at hr
  have hZ:=an7 hc<|an7 hz<|an7 d1<|an7 d2<|an7 h0<|hr;refine Az3 ?_
  have hs:=hn _ (zaq hd)
  refine Zap.use (ZeN .no l[d] _ ⟨hs.1,hs.2.2⟩) ?_
  rintro r H2 ⟨rfl,k2,rfl⟩
  ((have hd:=tv;repeat' first|(first|apply Zad|apply Zac|apply Zab)<;>intro hd<;>try simp only[hd]|simp(disch:=first|assumption|omega|simp only[nx]<;>omega|fail)only[hd,↓YA,YB,YC,YZ,YF,sevalprocAttr,qr,qn,ZbD,hz])<;>try revert hd;refine ttr ?_)
  exact Zaq ⟨(hx01.bump).set (zaf _),_,rfl⟩
 ·have hT1:Zdw l i=⟨0,[],⟨0,0,⟨0,0,0,0,0,0,0,0,0,0⟩⟩⟩:=by
   unfold Zdw
   split
   ·rw[za2 (by omega)];rfl
   ·rfl
  have hT2:inB l i=false:=by unfold inB;simp;omega
  rw[hT1,hT2]at qr qn
  ((have hd:=tv;repeat' first|(first|apply Zad|apply Zac|apply Zab)<;>intro hd<;>try simp only[hd]|simp(disch:=first|assumption|omega|simp only[nx]<;>omega|fail)only[hd,↓YA,YB,YC,YZ,YF,sevalprocAttr,qr,qn,ZiL,hc,hz,zaj])<;>try revert hd;refine ttr ?_)
  all_goals first
   | (exact Zaq ⟨hx01.set (zaf _),.full,rfl⟩)
   | (exfalso;grind)
set_option maxHeartbeats 1000000 in
theorem Znx {H:Zaa} {id:Nat} {x:Shp} {l:List Nod} (ha:ArA H id x l) (hx:1<=x.sizes.length) (hl:l.length<=1000000) (hn:∀n∈l,Zdb n):Zay Tryz.prog 18 [.ptr id 0] H (Pure H (.sl .no (rN l))):=by
 obtain⟨tok,nt,most,h⟩:=ha
 refine Zak hE cf18 (zab rfl) fun Q qr qn=>?_
 refine Az0 ?_
 refine Zap.use (Zeu h hx) ?_
 rintro r H1 ⟨rfl,hx1⟩
 have hc:=hx1.get _ _ h
 have hx1n:=hx1.next
 unfold Zk5 eAr at hc
 have hZ:=hc;refine Az3 ?_
 refine ZbJ (N:=l.length) (fun k F G=>Fr.get F 14=.i (k:Int)/\Fr.get F 13=.i (l.length:Int)/\Fr.get F 12=.sl nt (rN l)/\Fr.get F 3=.sl (.own H1.next) (rN (l.take k))/\Zaa.Ext H G/\G.get H1.next=some (.tok k 115 14)) (by unfold maxLen;omega) (fun k F G h=>⟨h.1,h.2.1⟩)
  (F1:=[(3,.sl (.own H1.next) []),(14,.i ((0:Nat):Int)),(13,.i (l.length:Int)),(12,.sl nt (rN l))]) (H1:=H1.alloc (.tok 0 115 14)) ?_ ?_ ?_ ?_
 ·exact(GStep.fr (F':=[(14,.i ((0:Nat):Int)),(13,.i (l.length:Int)),(12,.sl nt (rN l)),(3,.sl .full [])]) (by simp[Fr.get])).trans ((GStep.tok 3 115 14 rfl).trans (GStep.fr (by simp[Fr.get,Fr.put])))
 ·exact⟨rfl,rfl,rfl,rfl,hx1.alloc,Zaa.Zae (H:=H1)⟩
 ·rintro k F G hk ⟨f14,f13,f12,f3,hxG,hg⟩
  have hr:=ZoM hk
  have h0:(0:Int)<=k:=by omega
  have hlk:(rN (l.take k)).length=k:=by simp;omega
  have hgl:=Zaa.lt hg
  have hgn:=hxG.next
  have hs:=hn _ (zaq hk)
  unfold ZbD at hr
  have hZ:=an7 f14<|an7 f12<|an7 f3<|an7 hr<|h0;refine Az1 ?_
  refine Zap.use (ZeN .no l[k] _ ⟨hs.1,hs.2.2⟩) ?_
  rintro r H2 ⟨rfl,k2,rfl⟩
  have ha1:=ZmW (l.take k)
  have hb1:k+1<=maxLen:=by unfold maxLen;omega
  have hb2:(k+1) * 128<=140737488355328:=by omega
  have ho1:ZaE 14 [ZbD .no l[k]]=true:=rfl
  have hsn:rN (l.take k)++[ZbD .no l[k]]=rN (l.take (k+1)):=by rw[ZqC,zar hk]
  unfold ZbD at ho1
  conv at hsn=>lhs;rhs;unfold ZbD
  ((have hd:=tv;repeat' first|(first|apply Zad|apply Zac|apply Zab)<;>intro hd<;>try simp only[hd]|simp(disch:=first|assumption|omega|simp only[nx]<;>omega|fail)only[hd,↓YA,YB,YC,YZ,YF,sevalprocAttr,qr,qn,ZbD,f14,f13,f12,f3,hg,hlk,ha1,hb1,hb2,ho1])<;>try revert hd;refine ttr ?_)
  rw[hsn]
  refine⟨rfl,?_⟩
  (repeat (first|assumption|exact Zaa.Ext.refl _|refine Zaa.Ext.set ?_ (by first|assumption|omega|(simp only[Zaf,Zai,Zam];omega))|refine Zaa.Ext.alloc ?_|refine Zaa.Ext.bump ?_))
 ·rintro F G ⟨f14,f13,f12,f3,hxG,hg⟩
  rw[zaK]at f3
  have hZ:=f3;refine Az1 ?_
  exact ZaW hxG rfl
theorem ZoX {l:List Int} {v:Int} {k:Nat} (h:k<l.length):(l.drop k).contains v=(v == l[k] || (l.drop (k+1)).contains v):=by
 rw[zao h,List.contains_cons]
set_option maxHeartbeats 1000000 in
theorem ZpJ {H:Zaa} {id cap E:Nat} {ms:List Int} (n:Nat) (v:Int) (h:H.get id=some (.cells (ms.map AV.i) E)) (hn:n<=ms.length) (hb:n<=1000000000) :
  Zay Tryz.prog 64 [.arr id 0 n cap,.i v] H fun r H'=>Zaa.Ext H H'/\∃i:Int,r=.i i/\decide (i<0)=!((ms.take n).contains v):=by
 refine Zak hE cf64 (zab rfl) fun Q qr qn=>?_
 refine Az0 ?_
 have hln:(ms.take n).length=n:=by simp;omega
 refine ZbJ (N:=n) (fun k F G=>Fr.get F 8=.i (k:Int)/\Fr.get F 7=.i (n:Int)/\Fr.get F 0=.arr id 0 n cap/\Fr.get F 1=.i v/\G=H/\(ms.take n).contains v=((ms.take n).drop k).contains v) (by unfold maxLen;omega) (fun k F G h=>⟨h.1,h.2.1⟩) (GStep.refl _ _) ?_ ?_ ?_
 ·exact⟨rfl,rfl,rfl,rfl,rfl,rfl⟩
 ·rintro k F G hk ⟨f8,f7,f0,f1,hGH,ht⟩
  have hk2:k<(ms.take n).length:=by omega
  rw[ZoX hk2]at ht
  have hget:(ms.take n)[k]=ms[k]'(by omega):=by simp
  rw[hget]at ht
  have h0:(0:Int)<=k:=by omega
  have h1:(k:Int)<n:=by omega
  have hr:(ms.map AV.i)[k]?=some (AV.i (ms[k]'(by omega))):=by simp[show k<ms.length by omega]
  rw[hGH]
  ((have hd:=tv;repeat' first|(first|apply Zad|apply Zac|apply Zab)<;>intro hd<;>try simp only[hd]|simp(disch:=first|assumption|omega|simp only[nx]<;>omega|fail)only[hd,↓YA,YB,YC,YZ,YF,sevalprocAttr,qr,qn,ZoS,f8,f7,f0,f1,h,h0,h1,hr])<;>try revert hd;refine ttr ?_)
  ·have hc:(ms.take n).contains v=true:=by rw[ht,hd];rfl
   refine Az0 ?_
   refine Zaq ⟨Zaa.Ext.refl _,_,rfl,?_⟩
   rw[hc];simp
  ·rw[hd,zbP]at ht
   exact ht
 ·rintro F G ⟨f8,f7,f0,f1,hGH,ht⟩
  rw[hGH]
  rw[zbn (by omega)]at ht
  refine Az0 ?_
  refine Zaq ⟨Zaa.Ext.refl _,_,rfl,?_⟩
  rw[ht];rfl
def cnt (n:Nat) (chs:List Int):List Int:=(List.range n).map fun(i:Nat)=>(chs.count (i:Int):Int)
theorem ZlV (n:Nat) (chs:List Int):(cnt n chs).length=n:=by simp[cnt]
theorem ZqA {n:Nat} {chs:List Int} {k:Nat} (h:k<n):(cnt n chs)[k]'(by rw[ZlV];exact h)=(chs.count (k:Int):Int):=by simp[cnt]
theorem cnt_nil (n:Nat):cnt n []=List.replicate n 0:=by
 refine List.ext_getElem (by simp[cnt]) fun i h1 h2=>?_
 simp[cnt]
theorem cnt_snoc {n:Nat} {chs:List Int} {k:Nat} (h:k<n):(cnt n chs).set k ((chs.count (k:Int):Int)+1)=cnt n (chs++[(k:Int)]):=by
 refine List.ext_getElem (by simp[cnt]) fun i h1 h2=>?_
 simp only[cnt,List.length_set,zaj,List.length_range]at h1
 rw[List.getElem_set]
 simp only[cnt,zbU,List.getElem_range,List.count_append]
 by_cases e:k=i
 ·subst e;simp
 ·rw[if_neg e]
  have:List.count (i:Int) [(k:Int)]=0:=by
   rw[List.count_eq_zero];simp;omega
  omega
theorem Zqs {ms:List Int} {k:Nat} (v:Int) (h:k<ms.length):(ms.map AV.i).take k++[AV.i v]++(ms.map AV.i).drop (k+1)=(ms.set k v).map AV.i:=by
 rw[List.set_eq_take_append_cons_drop,if_pos h]
 simp
theorem Zp1:∀n:Nat,(List.replicate n [AV.sc (.int .i64 0)]).flatten=(List.replicate n (0:Int)).map AV.i
 | 0=>rfl
 | n+1=>by rw[List.replicate_succ,List.flatten_cons,Zp1 n,List.replicate_succ];rfl
def kids (x:Shp) (l:List Nod):List Int:=l.flatMap fun n=>if lastB x n.dim=true then [] else (each n).map Cel.child
theorem Zpd {x:Shp} {l:List Nod} {k:Nat} (h:k<l.length):kids x (l.take (k+1))=kids x (l.take k)++(if lastB x l[k].dim=true then [] else (each l[k]).map Cel.child):=by
 unfold kids
 rw[zar h,zcK]
 simp
theorem ZpT (x:Shp):∀(l:List Nod),(∀n∈l,(each n).length<=1000000)->(kids x l).length<=l.length * 1000000
 | [],_=>by simp[kids]
 | n :: l,h=>by
  have h1:=h n zae
  have h2:=ZpT x l fun m hm=>h m (zad _ hm)
  unfold kids at h2 ⊢
  rw[zbj,zai,List.length_cons]
  split<;>simp only[List.length_nil,zaj]<;>omega
def Zlb (x:Shp) (l:List Nod):Bool:=if l.length=0 then true else (Zdw l ((l.length:Int) - 1)).dim == 0&&!(((cnt l.length (kids x l)).take (l.length - 1)).contains 0)
theorem ZpY {n:Nod} (h:Zdb n):(each n).length<=1000000:=by
 have:=h.2.1
 unfold each;rw[zai];simp only[List.length_cons,List.length_nil];omega
set_option maxHeartbeats 4000000 in
theorem ZpM {H:Zaa} {id:Nat} {x:Shp} {l:List Nod} (ha:ArA H id x l) (hx:1<=x.sizes.length) (hx2:x.sizes.length<=1000) (hl:l.length<=200000) (hn:∀n∈l,Zdb n) (hch:∀n∈l,lastB x n.dim=false->∀c∈each n,0<=c.child/\c.child<l.length):Zay Tryz.prog 19 [.ptr id 0] H (Pure H (.b (Zlb x l))):=by
 have ha0:=ha
 obtain⟨tok,nt,most,h⟩:=ha
 refine Zak hE cf19 (zab rfl) fun Q qr qn=>?_
 have hid:=Zaa.lt h
 refine Az0 ?_
 refine Zap.use (Zeu h hx) ?_
 rintro r H1 ⟨rfl,hx1⟩
 have hc:=hx1.get _ _ h
 have hx1n:=hx1.next
 unfold Zk5 eAr at hc
 by_cases hz:l.length=0
 ·have d0:((l.length:Int) == 0)=true:=by simp[hz]
  have hT:Zlb x l=true:=by unfold Zlb;rw[if_pos hz]
  have hZ:=an7 hc<|d0;refine Az3 ?_
  rw[hT]
  exact ZdI hx1 rfl
 ·have d0:((l.length:Int) == 0)=false:=by rw[beq_eq_false_iff_ne];omega
  have m1:(0:Int)<=l.length:=by omega
  have m2:(l.length:Int)<=l.length:=by omega
  have m3:l.length<=maxLen:=by unfold maxLen;omega
  have m4:l.length * 8<=140737488355328:=by omega
  have m5:((l.length:Int)=0)=False:=eq_false (by omega)
  have hZ:=an7 hc<|an7 d0<|an7 m1<|an7 m2<|an7 m3<|an7 m4<|m5;refine Az3 ?_
  have hrep:(List.replicate l.length [AV.sc (.int .i64 0)]).flatten=(cnt l.length (kids x (l.take 0))).map AV.i:=by
   have:kids x (l.take 0)=[]:=by simp[kids]
   rw[this,cnt_nil,Zp1]
  rw[hrep]
  refine ZbJ (N:=l.length) (fun k F G=>Fr.get F 28=.i (k:Int)/\Fr.get F 27=.i (l.length:Int)/\Fr.get F 26=.sl nt (rN l)/\Fr.get F 3=.arr H1.next 0 l.length l.length/\Fr.get F 0=.ptr id 0/\Zaa.Ext H G/\G.get H1.next=some (.cells ((cnt l.length (kids x (l.take k))).map AV.i) 3)) m3 (fun k F G h=>⟨h.1,h.2.1⟩) (GStep.refl _ _) ?_ ?_ ?_
  ·exact⟨rfl,rfl,rfl,rfl,rfl,hx1.alloc,Zaa.Zae (H:=H1)⟩
  ·rintro k F G hk ⟨f28,f27,f26,f3,f0,hxG,hg⟩
   have hr:=ZoM hk
   have h0:(0:Int)<=k:=by omega
   have hgl:=Zaa.lt hg
   have hxn:=hxG.next
   have hs:=hn _ (zaq hk)
   have hcG:=hxG.get _ _ h
   have hcl:=Zaa.lt hcG
   have hr0:=hr
   unfold ZbD at hr
   unfold Zk5 eAr at hcG
   have hZ:=an7 f28<|an7 f26<|an7 f3<|an7 f0<|an7 hr<|an7 h0<|hcG;refine Az1 ?_
   refine Zap.use (Zgq tok x l[k].dim _ (by omega)) ?_
   rintro r H2 ⟨rfl,k2,rfl⟩
   cases hb:lastB x l[k].dim with
   | true =>
    have hkk:kids x (l.take (k+1))=kids x (l.take k):=by rw[Zpd hk,if_pos hb,zaI]
    have hZ:=an7 hb<|an7 f28<|an7 f27<|an7 f26<|an7 f3<|an7 f0<|an7 hg<|hkk;refine Az1 ?_
    (repeat (first|assumption|exact Zaa.Ext.refl _|refine Zaa.Ext.set ?_ (by first|assumption|omega|(simp only[Zaf,Zai,Zam];omega))|refine Zaa.Ext.alloc ?_|refine Zaa.Ext.bump ?_))
   | false =>
    have hkk:kids x (l.take (k+1))=kids x (l.take k)++(each l[k]).map Cel.child:=by rw[Zpd hk,hb,if_neg (by simp)]
    have hchk:=hch _ (zaq hk) hb
    have hel:=ZpY hs
    have hZ:=hb;refine Az1 ?_
    refine Zap.use (ZkK .no l[k] _ hs.1 (by have:=hs.2.1;omega)) ?_
    rintro r H2 ⟨rfl,k3,rfl⟩
    refine Az2 ?_
    have hkl:=ZpT x (l.take k) fun n hm=>ZpY (hn n (zaU hm))
    rw[za9]at hkl
    generalize each l[k]=es at *
    generalize hK:kids x (l.take k)=K0 at *
    refine ZbJ (N:=es.length) (fun j F G=>Fr.get F 42=.i (j:Int)/\Fr.get F 41=.i (es.length:Int)/\Fr.get F 40=.sl .no (rC es)/\Fr.get F 28=.i (k:Int)/\Fr.get F 27=.i (l.length:Int)/\Fr.get F 26=.sl nt (rN l)/\Fr.get F 3=.arr H1.next 0 l.length l.length/\Fr.get F 0=.ptr id 0/\Zaa.Ext H G/\G.get H1.next=some (.cells ((cnt l.length (K0++(es.take j).map Cel.child)).map AV.i) 3)) (by unfold maxLen;omega) (fun k F G h=>⟨h.1,h.2.1⟩) (GStep.refl _ _) ?_ ?_ ?_
    ·refine⟨rfl,rfl,rfl,f28,f27,f26,f3,f0,?_,?_⟩
     ·(repeat (first|assumption|exact Zaa.Ext.refl _|refine Zaa.Ext.set ?_ (by first|assumption|omega|(simp only[Zaf,Zai,Zam];omega))|refine Zaa.Ext.alloc ?_|refine Zaa.Ext.bump ?_))
     ·simp only[Zaa.ZaB]
      rw[Zaa.Zah (by omega),Zaa.Zag (by omega),hg]
      simp
    ·rintro j F G hj ⟨f42,f41,f40,f28,f27,f26,f3,f0,hxG,hg⟩
     have hgl:=Zaa.lt hg
     have hxn:=hxG.next
     have hrj:=ZlA hj
     have h0j:(0:Int)<=j:=by omega
     obtain⟨c0,c1⟩:=hchk _ (zaq hj)
     obtain⟨d,hdc⟩:∃d:Nat,es[j].child=d:=⟨es[j].child.toNat,by omega⟩
     rw[hdc]at c0 c1
     have hdl:d<l.length:=by omega
     have hcl:(K0++(es.take j).map Cel.child).count (d:Int)<=300000000000:=by
      refine zaB List.count_le_length ?_
      rw[zai,zaj,za9]
      omega
     have hsn:K0++(es.take j).map Cel.child++[(d:Int)]=K0++(es.take (j+1)).map Cel.child:=by
      rw[zar hj,zaV,zaM]
      simp[hdc]
     generalize K0++(es.take j).map Cel.child=K at *
     have hlen:(cnt l.length K).length=l.length:=ZlV _ _
     have hget:((cnt l.length K).map AV.i)[d]?=some (AV.i (K.count (d:Int):Int)):=by
      rw[zaL,zaa (by omega)]
      simp only[Option.map_some]
      rw[ZqA hdl]
     have hst:=Zqs (ms:=cnt l.length K) ((K.count (d:Int):Int)+1) (by omega:d<_)
     rw[cnt_snoc hdl,hsn]at hst
     have hml:d+1<=(cnt l.length K).length:=by omega
     unfold ZbE at hrj
     have hZ:=an7 f42<|an7 f41<|an7 f40<|an7 f28<|an7 f27<|an7 f26<|an7 f3<|an7 f0<|an7 hrj<|an7 h0j<|an7 hdc<|an7 c0<|an7 c1<|an7 hg<|an7 hget<|hml;refine Az1 ?_
     refine⟨?_,by rw[hst]⟩
     (repeat (first|assumption|exact Zaa.Ext.refl _|refine Zaa.Ext.set ?_ (by first|assumption|omega|(simp only[Zaf,Zai,Zam];omega))|refine Zaa.Ext.alloc ?_|refine Zaa.Ext.bump ?_))
    ·rintro F G ⟨f42,f41,f40,f28,f27,f26,f3,f0,hxG,hg⟩
     rw[zaK,<- hkk]at hg
     have hZ:=an7 f28<|an7 f27<|an7 f26<|an7 f3<|f0;refine Az1 ?_
     exact⟨hxG,hg⟩
  ·rintro F G ⟨f28,f27,f26,f3,f0,hxG,hg⟩
   rw[zaK]at hg
   have hcG:=hxG.get _ _ h
   have haG:ArA G id x l:=⟨tok,nt,most,hcG⟩
   unfold Zk5 eAr at hcG
   have hn1:l.length - 1<l.length:=by omega
   have hr:=ZoM hn1
   have h0:(0:Int)<=(l.length:Int) - 1:=by omega
   have hti:((l.length:Int) - 1).toNat=l.length - 1:=by omega
   unfold ZbD at hr
   have hT:Zlb x l=(l[l.length - 1].dim == 0&&!(((cnt l.length (kids x l)).take (l.length - 1)).contains 0)):=by
    unfold Zlb
    rw[if_neg hz]
    congr 2
    unfold Zdw
    rw[if_pos h0,hti,zaa hn1]
    rfl
   rw[hT]at qr qn
   have hZ:=an7 f0<|hcG;refine Az1 ?_
   refine Zap.use (Ziu haG hx (by omega)) ?_
   rintro r H2 ⟨rfl,hx2⟩
   have hc2:=hx2.get _ _ hcG
   refine⟨ZdV rfl rfl (by simp(disch:=first|assumption|omega|simp only[nx]<;>omega|fail)only[↓YA,YB,YC,YZ,YF,sevalprocAttr,hc2]),?_⟩
   cases hdz:(l[l.length - 1].dim == 0)with
   | false =>
    rw[hdz,zcm]at qr qn
    have hZ:=an7 hc2<|an7 hr<|an7 h0<|an7 hti<|hdz;refine Az1 ?_
    exact ZdI (hxG.trans hx2) rfl
   | true =>
    rw[hdz,zaY]at qr qn
    have hZ:=an7 hc2<|an7 hr<|an7 h0<|an7 hti<|an7 hdz<|f0;refine Az1 ?_
    refine Zap.use (Ziu (haG.ext hx2) hx (by omega)) ?_
    rintro r H3 ⟨rfl,hx3⟩
    have hx23:=hx2.trans hx3
    have hg3:=hx23.get _ _ hg
    have b1:l.length - 1<=l.length:=by omega
    have b2:(l.length=0)=False:=eq_false hz
    have b3:0<=l.length - 1:=by omega
    ((have hd:=tv;repeat' first|(first|apply Zad|apply Zac|apply Zab)<;>intro hd<;>try simp only[hd]|simp(disch:=first|assumption|omega|simp only[nx]<;>omega|fail)only[hd,↓YA,YB,YC,YZ,YF,sevalprocAttr,qr,qn,f3,Zdi,h0,hti,b1,b2,b3,Nat.sub_zero,zbH,zaf])<;>try revert hd;refine ttr ?_)
    refine Zap.use (ZpJ (l.length - 1) 0 hg3 (by rw[ZlV];omega) (by omega)) ?_
    rintro r H4 ⟨hx4,i,rfl,hi⟩
    refine Az0 ?_
    rw[hi]
    exact ZdI ((hxG.trans hx23).trans hx4) rfl
set_option maxHeartbeats 4000000 in
theorem Zjg (m : Int) (a : Ag) (H : Zaa) : Zay Tryz.prog 102 [.i m, .agg (eAg a)] H (Pure H (.b (Zbw m a))) := by
  refine Zak hE cf102 (zab rfl) fun Q qr qn => ?_
  have hx : Zaa.Ext H (H.alloc (.cells (eAg a) 54)) := (Zaa.Ext.refl H).alloc
  unfold eAg at hx ⊢
  ((have hd := tv; repeat' first | (first | apply Zad | apply Zac | apply Zab) <;> intro hd <;> try simp only [hd] | simp (disch := first | assumption | omega | simp only [nx] <;> omega | fail) only [hd, ↓YA, YB, YC, YZ, YF, sevalprocAttr, qr, qn, Zdc]) <;> try revert hd; refine ttr ?_)
  any_goals
    refine ZdI hx ?_
    unfold Zbw
    grind
  have h0 : 0 <= m := by grind
  have h1 : m <= 3 := by grind
  have h2 : 1 <= a.n := by grind
  rw [tail0 h0 h1 h2] at qr qn
  refine Zg1 (fun n F G => ∃ k : Nat, k <= 3 /\ n = 3 - k /\ Fr.get F 5 = .i (k : Int) /\ Fr.get F 0 = .i m /\ Fr.get F 3 = .ptr H.next 0 /\ Zaa.Ext H G /\ G.get H.next = some (.cells (eAg a) 54) /\ ZcQ 0 m a = ZcQ k m a) 3 (GStep.refl _ _) ⟨0, by omega, rfl, rfl, rfl, rfl, hx, Zaa.Zae (H := H), rfl⟩ ?_
  rintro n F G ⟨k, hk, rfl, f5, f0, f3, hxG, hg, ht⟩
  by_cases hk3 : k = 3
  · subst hk3
    replace f5 : Fr.get F 5 = .i 3 := f5
    have d : decide ((3 : Int) < 3) = false := by decide
    have hZ := an7 f5 <| d; refine Az1 ?_
    refine Az0 ?_
    exact ZdI hxG (by rw [ht]; rfl)
  · have hk' : k < 3 := by omega
    rw [Zii hk'] at ht
    have hgl := Zaa.lt hg
    have hg0 := hg
    have hxn := hxG.next
    unfold eAg at hg
    obtain rfl | rfl | rfl : k = 0 \/ k = 1 \/ k = 2 := by omega
    · replace f5 : Fr.get F 5 = .i 0 := f5
      ((have hd := tv; repeat' first | (first | apply Zad | apply Zac | apply Zab) <;> intro hd <;> try simp only [hd] | simp (disch := first | assumption | omega | simp only [nx] <;> omega | fail) only [hd, ↓YA, YB, YC, YZ, YF, sevalprocAttr, qr, qn, Zdc, f5, f0, f3, hg, eAg, Int.cast_ofNat_Int, Int.reduceLE, Int.reduceLT, Int.reduceToNat, Nat.reduceMul, Int.reduceAdd, decide_true]) <;> try revert hd; refine ttr ?_)
      all_goals first
        | (refine ZdI ?_ ?_
           · (repeat (first | assumption | exact Zaa.Ext.refl _ | refine Zaa.Ext.set ?_ (by first | assumption | omega | (simp only [Zaf, Zai, Zam]; omega)) | refine Zaa.Ext.alloc ?_ | refine Zaa.Ext.bump ?_))
           · rw [ht]; simp only [Zb2, Ag.prt]; grind)
        | (refine ⟨2, by omega, 1, by omega, rfl, rfl, ?_, ?_⟩
           · (repeat (first | assumption | exact Zaa.Ext.refl _ | refine Zaa.Ext.set ?_ (by first | assumption | omega | (simp only [Zaf, Zai, Zam]; omega)) | refine Zaa.Ext.alloc ?_ | refine Zaa.Ext.bump ?_))
           · rw [ht]; simp only [Zb2, Ag.prt]; grind)
    · replace f5 : Fr.get F 5 = .i 1 := f5
      ((have hd := tv; repeat' first | (first | apply Zad | apply Zac | apply Zab) <;> intro hd <;> try simp only [hd] | simp (disch := first | assumption | omega | simp only [nx] <;> omega | fail) only [hd, ↓YA, YB, YC, YZ, YF, sevalprocAttr, qr, qn, Zdc, f5, f0, f3, hg, eAg, Int.cast_ofNat_Int, Int.reduceLE, Int.reduceLT, Int.reduceToNat, Nat.reduceMul, Int.reduceAdd, decide_true]) <;> try revert hd; refine ttr ?_)
      all_goals first
        | (refine ZdI ?_ ?_
           · (repeat (first | assumption | exact Zaa.Ext.refl _ | refine Zaa.Ext.set ?_ (by first | assumption | omega | (simp only [Zaf, Zai, Zam]; omega)) | refine Zaa.Ext.alloc ?_ | refine Zaa.Ext.bump ?_))
           · rw [ht]; simp only [Zb2, Ag.prt]; grind)
        | (refine ⟨1, by omega, 2, by omega, rfl, rfl, ?_, ?_⟩
           · (repeat (first | assumption | exact Zaa.Ext.refl _ | refine Zaa.Ext.set ?_ (by first | assumption | omega | (simp only [Zaf, Zai, Zam]; omega)) | refine Zaa.Ext.alloc ?_ | refine Zaa.Ext.bump ?_))
           · rw [ht]; simp only [Zb2, Ag.prt]; grind)
    · replace f5 : Fr.get F 5 = .i 2 := f5
      ((have hd := tv; repeat' first | (first | apply Zad | apply Zac | apply Zab) <;> intro hd <;> try simp only [hd] | simp (disch := first | assumption | omega | simp only [nx] <;> omega | fail) only [hd, ↓YA, YB, YC, YZ, YF, sevalprocAttr, qr, qn, Zdc, f5, f0, f3, hg, eAg, Int.cast_ofNat_Int, Int.reduceLE, Int.reduceLT, Int.reduceToNat, Nat.reduceMul, Int.reduceAdd, decide_true]) <;> try revert hd; refine ttr ?_)
      all_goals first
        | (refine ZdI ?_ ?_
           · (repeat (first | assumption | exact Zaa.Ext.refl _ | refine Zaa.Ext.set ?_ (by first | assumption | omega | (simp only [Zaf, Zai, Zam]; omega)) | refine Zaa.Ext.alloc ?_ | refine Zaa.Ext.bump ?_))
           · rw [ht]; simp only [Zb2, Ag.prt]; grind)
        | (refine ⟨0, by omega, 3, by omega, rfl, rfl, ?_, ?_⟩
           · (repeat (first | assumption | exact Zaa.Ext.refl _ | refine Zaa.Ext.set ?_ (by first | assumption | omega | (simp only [Zaf, Zai, Zam]; omega)) | refine Zaa.Ext.alloc ?_ | refine Zaa.Ext.bump ?_))
           · rw [ht]; simp only [Zb2, Ag.prt]; grind)
def vAg (a:Ag):List Value:=[.int .i64 a.n,.int .i64 a.s0,.int .i64 a.l0,.int .i64 a.h0,.int .i64 a.s1,.int .i64 a.l1,.int .i64 a.h1,.int .i64 a.s2,.int .i64 a.l2,.int .i64 a.h2]
def vCel (c:Cel):List Value:=.int .i64 c.key :: .int .i64 c.child :: vAg c.agg
theorem Zl8 (a b:Ag):ZgE (vAg a) (vAg b)=decide (a=b):=by
 obtain⟨n,s0,l0,h0,s1,l1,h1,s2,l2,h2⟩:=a
 obtain⟨n',s0',l0',h0',s1',l1',h1',s2',l2',h2'⟩:=b
 rw[za8]
 simp[vAg,ZgE,Zd4]
theorem vsEq_cel (a b:Cel):ZgE (vCel a) (vCel b)=decide (a=b):=by
 obtain⟨k,c,x⟩:=a
 obtain⟨k',c',y⟩:=b
 rw[za8]
 simp[vCel,ZgE,Zd4,Zl8]
theorem stable_n {d:Nat} {op:AOp} {F:Fr} {H:Zaa}:AI.stable ⟨none,some d,op⟩ F H=(op.ev F H=some (Fr.get F d,H)):=by
 simp[AI.stable,AI.want]
theorem stable_g {s d:Nat} {t:Bool} {op:AOp} {F:Fr} {H:Zaa}:AI.stable ⟨some (s,t),some d,op⟩ F H=@GdK (Fr.get F s) t ⟨op.ev F H=some (Fr.get F d,H)⟩ ⟨fun _ _=>True⟩:=by
 simp only[AI.stable,AI.want,GdK]
 cases Fr.get F s with
 | sc v =>
  cases v with
  | bool c=>cases c<;>cases t<;>simp
  | _=>rfl
 | _=>rfl
theorem ZiY {F:Fr} {H:Zaa}:(∀r∈([]:List AI),r.stable F H)=True:=by simp
theorem ZhH {F:Fr} {H:Zaa} {a:AI} {l:List AI}:(∀r∈a :: l,r.stable F H)=(a.stable F H/\∀r∈l,r.stable F H):=by simp
theorem ZhK (l:List UInt8):(⟨l.toArray⟩:ByteArray).toList=l:=by rw[ByteArray.toList_eq]
theorem beq_dec (a b:List UInt8):(a == b)=decide (a=b):=by rw[za8];simp
theorem YE:(∀{α β:Type} {f:α->β} {l:List α} {i:Nat},(l.map f)[i]?=(l[i]?).map f)/\(∀{α:Type} {l:List α} {i:Nat} (h:i<l.length),l[i]?=some l[i]) /\
  (∀{a:Ag},(eAg a).length=10)/\(∀{c:Cel},(ZbE c).length=12)/\(∀{t:Tok} {n:Nod},(ZbD t n).length=14)/\(∀{x:Shp},(Zc3 x).length=2) /\
  (∀{a:Ag},(eAg a).take 10=eAg a)/\(∀{c:Cel},(ZbE c).take 12=ZbE c)/\(∀{t:Tok} {n:Nod},(ZbD t n).take 14=ZbD t n)/\(∀{x:Shp},(Zc3 x).take 2=Zc3 x) /\
  (∀{c:Cel},(ZbE c)[0]?=some (.i c.key))/\(∀{c:Cel},(ZbE c)[1]?=some (.i c.child))/\(∀{c:Cel},((ZbE c).drop 2).take 10=eAg c.agg)/\(∀{a:Ag},(eAg a)[0]?=some (.i a.n)) /\
  (∀{t:Tok} {n:Nod},(ZbD t n)[0]?=some (.i n.dim))/\(∀{t:Tok} {n:Nod},(ZbD t n)[1]?=some (.sl t (rL n.lists)))/\(∀{t:Tok} {n:Nod},(ZbD t n)[2]?=some (.i n.all.key))/\(∀{t:Tok} {n:Nod},(ZbD t n)[3]?=some (.i n.all.child)) /\
  (∀{t:Tok} {n:Nod},((ZbD t n).drop 2).take 12=ZbE n.all)/\(∀{t:Tok} {n:Nod},((ZbD t n).drop 4).take 10=eAg n.all.agg)/\(∀{x:Shp},(Zc3 x)[0]?=some (.sl .no (rII x.sizes)))/\(∀{x:Shp},(Zc3 x)[1]?=some (.i x.measures)) /\
  (∀{a:Ag},scs [.int .i64,.int .i64,.int .i64,.int .i64,.int .i64,.int .i64,.int .i64,.int .i64,.int .i64,.int .i64] (eAg a)=some (vAg a)) /\
  (∀{c:Cel},scs [.int .i64,.int .i64,.int .i64,.int .i64,.int .i64,.int .i64,.int .i64,.int .i64,.int .i64,.int .i64,.int .i64,.int .i64] (ZbE c)=some (vCel c)) /\
  (∀{a b:Ag},ZgE (vAg a) (vAg b)=decide (a=b))/\(∀{a b:Cel},ZgE (vCel a) (vCel b)=decide (a=b))/\(∀{n:Nat},(0<=(n:Int))=True)/\(∀{H:Zaa} {i:Nat} {o o':Zb3},i=H.next->(H.alloc o).set i o'=H.alloc o') /\
  (∀{d op F H},AI.stable ⟨none,some d,op⟩ F H=(op.ev F H=some (Fr.get F d,H)))/\(∀{s d t op F H},AI.stable ⟨some (s,t),some d,op⟩ F H=@GdK (Fr.get F s) t ⟨op.ev F H=some (Fr.get F d,H)⟩ ⟨fun _ _=>True⟩) /\
  (∀{F:Fr} {H:Zaa},(∀r∈([]:List AI),r.stable F H)=True)/\(∀{F:Fr} {H:Zaa} {a:AI} {l:List AI},(∀r∈a :: l,r.stable F H)=(a.stable F H/\∀r∈l,r.stable F H)) /\
  (∀{l:List UInt8},(⟨l.toArray⟩:ByteArray).toList=l)/\(∀{a b:List UInt8},Op.bytesLess a b=decide (a<b))/\(∀{a b:List UInt8},(a == b)=decide (a=b))/\(∀{l:List UInt8},(⟨l.toArray⟩:ByteArray).size=l.length) :=
 ⟨zaL,zaa,rfl,rfl,rfl,rfl,rfl,rfl,rfl,rfl,rfl,rfl,rfl,rfl,rfl,rfl,rfl,rfl,rfl,rfl,rfl,rfl,rfl,rfl,Zl8 _ _,vsEq_cel _ _,by simp,ZaM,stable_n,stable_g,ZiY,ZhH,ZhK _,bytesLess_eq _ _,beq_dec _ _,rfl⟩
def YY:=an7 YB<|an7 YC<|an7 YE<|an7 YF YZ
theorem qcp {P:Program} {f:FuncId} {args:List AV} {H:Zaa} {v:AV} {k:AV->Zaa->Prop} (h:Zay P f args H (Pure H v)) (c:∀n,k v (H.bump n)):@Zap P f args H ⟨k⟩:=Zap.use h (by rintro _ _ ⟨rfl,n,rfl⟩;exact c n)
theorem Bz0 {g h:Prop} (k:h) (e:h->g:=by(intro z;(try simp(disch:=first|assumption|omega|simp only[nx]<;>omega|fail)only[qr,qn,YQ,↓YA,YY,sevalprocAttr]);exact z)):g:=e k
theorem Bz1 {g h:Prop} (k:h) (e:h->g:=by(intro z;(try simp(disch:=first|assumption|omega|simp only[nx]<;>omega|fail)only[hZ,qr,qn,YQ,↓YA,YY,sevalprocAttr]);exact z)):g:=e k
theorem Bz2 {g h:Prop} (k:h) (e:h->g:=by(intro z;(try simp(disch:=first|assumption|omega|simp only[nx]<;>omega|fail)only[zaj,qr,qn,YQ,↓YA,YY,sevalprocAttr]);exact z)):g:=e k
theorem Bz3 {g h:Prop} (k:h) (e:h->g:=by(intro z;(try simp(disch:=first|assumption|omega|simp only[nx]<;>omega|fail)only[hZ,zaj,qr,qn,YQ,↓YA,YY,sevalprocAttr]);exact z)):g:=e k
theorem Bz4 {g h:Prop} (k:h) (e:h->g:=by(intro z;(try simp(disch:=first|assumption|omega|simp only[nx]<;>omega|fail)only[zaj,zaI,List.length_nil,List.length_cons,List.length_singleton,zaK,zaS,ZaL,rowsOf,Option.map_none,Option.map_some,Option.getD_none,Option.getD_some,Option.isSome_none,Option.isSome_some,if_true,Int.cast_ofNat_Int,Int.reduceMul,zaX,and_self,or_true,qr,qn,YQ,↓YA,YY,sevalprocAttr]);exact z)):g:=e k
theorem Bz5 {g h:Prop} (k:h) (e:h->g:=by(intro z;(try simp(disch:=first|assumption|omega|simp only[nx]<;>omega|fail)only[hZ,zaj,zaI,List.length_nil,List.length_cons,List.length_singleton,zaK,zaS,ZaL,rowsOf,Option.map_none,Option.map_some,Option.getD_none,Option.getD_some,Option.isSome_none,Option.isSome_some,if_true,Int.cast_ofNat_Int,Int.reduceMul,zaX,and_self,or_true,qr,qn,YQ,↓YA,YY,sevalprocAttr]);exact z)):g:=e k
section
variable {K V:Type} [DecidableEq K] {kf:K->Value} {vf:V->AV}
def Zcz (k:K):List (K×V)->Option V
 | []=>none
 | (k',v) :: M=>if k=k' then some v else Zcz k M
def ZbU (k:K) (v:V):List (K×V)->List (K×V)
 | []=>[(k,v)]
 | (k',u) :: M=>if k=k' then (k,v) :: M else (k',u) :: ZbU k v M
def Zgf (kf:K->Value) (vf:V->AV) (M:List (K×V)):List (Value×AV):=M.map fun p=>(kf p.1,vf p.2)
theorem ZbV (hk:∀a b,kEq (kf a) (kf b)=decide (a=b)) (k:K):∀M:List (K×V),ZdG (kf k) (Zgf kf vf M)=(Zcz k M).map vf
 | []=>rfl
 | (k',v) :: M=>by
  have ih:=ZbV hk k M
  unfold Zgf at ih ⊢
  simp only[zas,ZdG,hk,Zcz]
  by_cases h:k=k'<;>simp[h,ih]
theorem ZcH (hk:∀a b,kEq (kf a) (kf b)=decide (a=b)) (k:K) (v:V):∀M:List (K×V),Ziw (kf k) (vf v) (Zgf kf vf M)=Zgf kf vf (ZbU k v M)
 | []=>rfl
 | (k',u) :: M=>by
  have ih:=ZcH hk k v M
  unfold Zgf at ih ⊢
  simp only[zas,Ziw,hk,ZbU]
  by_cases h:k=k'<;>simp[h,ih]
theorem Zeg (k j:K) (v:V):∀M:List (K×V),Zcz j (ZbU k v M)=if j=k then some v else Zcz j M
 | []=>by simp[ZbU,Zcz]
 | (k',u) :: M=>by
  have ih:=Zeg k j v M
  unfold ZbU
  by_cases h:k=k'
  ·subst h
   rw[if_pos rfl]
   simp only[Zcz]
   by_cases h2:j=k<;>simp[h2]
  ·rw[if_neg h]
   simp only[Zcz,ih]
   by_cases h2:j=k
   ·subst h2;simp[h]
   ·simp[h2]
theorem ZdP (k:K) (v:V) (M:List (K×V)):Zcz k (ZbU k v M)=some v:=by rw[Zeg,if_pos rfl]
theorem ZjW (k:K) (v:V):∀M:List (K×V),(ZbU k v M).length=if (Zcz k M).isSome then M.length else M.length+1
 | []=>by simp[ZbU,Zcz]
 | (k',u) :: M=>by
  have ih:=ZjW k v M
  unfold ZbU Zcz
  by_cases h:k=k'
  ·simp[h]
  ·simp only[h,if_false,List.length_cons,ih]
   split<;>omega
end
def kI (n:Int):Value:=.int .i64 n
def k2 (p:Int×Int):Value:=.agg #[.int .i64 p.1,.int .i64 p.2]
theorem ZkH (a b:Int):kEq (kI a) (kI b)=decide (a=b):=Zd4 a b
theorem ZsH (a b:Int×Int):kEq (k2 a) (k2 b)=decide (a=b):=by
 obtain⟨x,y⟩:=a
 obtain⟨x',y'⟩:=b
 rw[za8]
 simp[k2,kEq,ZgE,Zd4]
theorem ZsL (a b:Int):KK.of (.row [.int .i64,.int .i64]) (.agg [.i a,.i b])=some (k2 (a,b)):=rfl
theorem ZrS (a:Int):KK.of (.one (.int .i64)) (.i a)=some (kI a):=rfl
section
variable {w:World} {F:Nat->Prop}
theorem Zhx {s:Sh} {α:Type} {f:α->List AV} (he:∀cs x,s.Is w F cs x->∃a,s.enc x=f a) {cs:List Value} {x:(Sh.slice s).D} (h:(Sh.slice s).Is w F cs x):∃l:List α,l.length<=maxLen/\(Sh.slice s).enc x=[.sl .no (l.map f)]:=by
 obtain⟨A,c,css,_,h1,h2,h3,_,h5⟩:=h
 have:∀(l:List s.D),(∀x∈l,∃a,s.enc x=f a)->∃m:List α,m.length=l.length/\l.map s.enc=m.map f:=by
  intro l
  induction l with
  | nil=>intro _;exact⟨[],rfl,rfl⟩
  | cons y l ih =>
   intro hl
   obtain⟨a,ha⟩:=hl y zae
   obtain⟨m,hm,e⟩:=ih fun z hz=>hl z (zad _ hz)
   exact⟨a :: m,by simp[hm],by simp[ha,e]⟩
 obtain⟨m,hm,e⟩:=this x fun y hy=>by
  obtain⟨i,hi,rfl⟩:=zay hy
  have hi2:i<css.length:=by rw[h3];exact hi
  exact he css[i] _ (h5 i _ _ (zaa hi2) (zaa hi))
 refine⟨m,by rw[hm];exact zaB h1 h2,?_⟩
 show[AV.sl .no (List.map s.enc x)]=_
 rw[e]
end
section
variable {W:World}
end
theorem ZnX {a b:Nat} (h:((a:Int) != (b:Int))=true):a≠b:=by intro e;subst e;simp at h
theorem Zn4 {a b:Nat} (h:((a:Int) != (b:Int))=false):a=b:=by simp at h;omega
def Zc8 {α:Type} (e:α->α->Bool):List α->List α->Bool
 | [],[]=>true
 | a :: l,b :: m=>e a b&&Zc8 e l m
 | _,_=>false
theorem Zia {α:Type} {e:α->α->Bool}:∀{l m:List α},l.length≠m.length->Zc8 e l m=false
 | [],[],h=>absurd rfl h
 | [],_ :: _,_=>rfl
 | _ :: _,[],_=>rfl
 | a :: l,b :: m,h=>by
  simp only[Zc8,Zia (l:=l) (m:=m) (by simpa using h),Bool.and_false]
theorem Zji {α:Type} {e:α->α->Bool} {l m:List α} {k:Nat} (h:k<l.length) (h2:k<m.length):Zc8 e (l.drop k) (m.drop k)=(e l[k] m[k]&&Zc8 e (l.drop (k+1)) (m.drop (k+1))):=by
 rw[zao h,zao h2];rfl
theorem ZkO {α:Type} {e:α->α->Bool} {l m:List α} {k:Nat} (h:l.length<=k) (h2:m.length<=k):Zc8 e (l.drop k) (m.drop k)=true:=by
 rw[zbn h,zbn h2];rfl
theorem Zhz {α:Type} [DecidableEq α]:∀{l m:List α},Zc8 (fun a b=>decide (a=b)) l m=decide (l=m)
 | [],[]=>by simp[Zc8]
 | [],_ :: _=>by simp[Zc8]
 | _ :: _,[]=>by simp[Zc8]
 | a :: l,b :: m=>by rw[za8];simp[Zc8,Zhz (l:=l) (m:=m)]
theorem Zqi (t u:Tok) (a b:List Int) (H:Zaa) (hl:a.length<=1000000):Zay Tryz.prog 113 [.sl t (rI a),.sl u (rI b)] H (Pure H (.b (Zc8 (fun x y=>decide (x=y)) a b))):=by
 refine Zak hE cf113 (zab rfl) fun Q qr qn=>?_
 ((have hd:=tv;repeat' first|(first|apply Zad|apply Zac|apply Zab)<;>intro hd<;>try simp only[hd]|simp(disch:=first|assumption|omega|simp only[nx]<;>omega|fail)only[hd,qr,qn,ZpX,↓YA,YY,sevalprocAttr])<;>try revert hd;refine ttr ?_)
 ·refine ZbC (by rw[Zia (ZnX hd)])
 ·have hab:=Zn4 hd
  generalize hT:Zc8 (fun x y=>decide (x=y)) a b=T at *
  refine Zbs [0,1,12] (σ:=Unit) (fun(k:Nat) s=>T=Zc8 (fun x y=>decide (x=y)) (a.drop k) (b.drop k)) (fun k s=>[]) (fun k s=>[]) () (GStep.refl _ _) (by simp only[ZaA,Zav,Fr.put,Fr.get,↓reduceIte,Nat.reduceEqDiff];rfl) (by intro k s;rfl) (by intro k s;rfl) (by rfl) (by unfold maxLen;omega) ?_ (by simp only[ZaF]) (by simp only[ZaJ]) ?_ ?_
  ·exact hT.symm
  ·(rintro k s G hk ht hG hn;try simp only[nx]at hn)
   have hk2:k<b.length:=hab ▸ hk
   rw[Zji hk hk2]at ht
   ((have hd:=tv;repeat' first|(first|apply Zad|apply Zac|apply Zab)<;>intro hd<;>try simp only[hd]|simp(disch:=first|assumption|omega|simp only[nx]<;>omega|fail)only[hd,qr,qn,ZpX,↓YA,YY,sevalprocAttr])<;>try revert hd;refine ttr ?_)
   ·refine ZbC (by grind)
   ·refine⟨(),by grind,by exact HXT⟩
  ·(rintro s G ht hG hn;try simp only[nx]at hn)
   refine Bz0 ?_
   refine ZbC (by rw[ht,ZkO (zaf _) (by omega)])
theorem Zso {f:FuncId} {e:List Int->List Int->Bool} (t u:Tok) (a b:List (List Int)) (H:Zaa) (hl:a.length<=1000000) (hf:∀x∈a,∀(y:List Int) G,Zay Tryz.prog f [.sl .no (rI x),.sl .no (rI y)] G (Pure G (.b (e x y)))) :
  Zay Tryz.prog 112 [.sl t (rII a),.sl u (rII b),.fn f [] []] H (Pure H (.b (Zc8 e a b))):=by
 refine Zak hE cf112 (zab rfl) fun Q qr qn=>?_
 ((have hd:=tv;repeat' first|(first|apply Zad|apply Zac|apply Zab)<;>intro hd<;>try simp only[hd]|simp(disch:=first|assumption|omega|simp only[nx]<;>omega|fail)only[hd,qr,qn,Zpf,↓YA,YY,sevalprocAttr])<;>try revert hd;refine ttr ?_)
 ·refine ZbC (by rw[Zia (ZnX hd)])
 ·have hab:=Zn4 hd
  generalize hT:Zc8 e a b=T at *
  refine Zbs [1,2,15,16] (σ:=Unit) (fun(k:Nat) s=>T=Zc8 e (a.drop k) (b.drop k)) (fun k s=>[]) (fun k s=>[]) () (GStep.refl _ _) (by simp only[ZaA,Zav,Fr.put,Fr.get,↓reduceIte,Nat.reduceEqDiff];rfl) (by intro k s;rfl) (by intro k s;rfl) (by rfl) (by unfold maxLen;omega) ?_ (by simp only[ZaF]) (by simp only[ZaJ]) ?_ ?_
  ·exact hT.symm
  ·(rintro k s G hk ht hG hn;try simp only[nx]at hn)
   have hk2:k<b.length:=hab ▸ hk
   rw[Zji hk hk2]at ht
   refine Bz0 ?_
   refine qcp (hf a[k] (zaq hk) b[k] _) fun k1=>?_
   ((have hd:=tv;repeat' first|(first|apply Zad|apply Zac|apply Zab)<;>intro hd<;>try simp only[hd]|simp(disch:=first|assumption|omega|simp only[nx]<;>omega|fail)only[hd,qr,qn,Zpf,↓YA,YY,sevalprocAttr])<;>try revert hd;refine ttr ?_)
   ·refine ZbC (by grind)
   ·refine⟨(),by grind,by exact HXT⟩
  ·(rintro s G ht hG hn;try simp only[nx]at hn)
   refine Bz0 ?_
   refine ZbC (by rw[ht,ZkO (zaf _) (by omega)])
theorem nod_eq {a b:Nod}:decide (a=b)=(decide (a.dim=b.dim)&&(decide (a.all=b.all)&&decide (a.lists=b.lists))):=by
 obtain⟨d,l,c⟩:=a
 obtain⟨d',l',c'⟩:=b
 rw[za8]
 simp
 grind
theorem shp_eq {a b:Shp}:decide (a=b)=(decide (a.measures=b.measures)&&decide (a.sizes=b.sizes)):=by
 obtain⟨s,m⟩:=a
 obtain⟨s',m'⟩:=b
 rw[za8]
 simp
 grind
theorem Zpx (t u:Tok) (a b:Nod) (H:Zaa) (ha:Zdb a):Zay Tryz.prog 59 [.agg (ZbD t a),.agg (ZbD u b)] H (Pure H (.b (decide (a=b)))):=by
 rw[nod_eq,<- Zhz]
 refine Zak hE cf59 (zab rfl) fun Q qr qn=>?_
 ((have hd:=tv;repeat' first|(first|apply Zad|apply Zac|apply Zab)<;>intro hd<;>try simp only[hd]|simp(disch:=first|assumption|omega|simp only[nx]<;>omega|fail)only[hd,qr,qn,Zqj,↓YA,YY,sevalprocAttr])<;>try revert hd;refine ttr ?_)
 ·refine ZbC (by rw[Zia (ZnX hd)];simp)
 ·rename_i h1 h2
  have hab:=Zn4 hd
  have h1:decide (a.dim=b.dim)=true:=by simp at h1;simp[h1]
  have h2:decide (a.all=b.all)=true:=by simpa using h2
  rw[h1,h2,zaY,zaY]at qr qn
  have hl:=ha.1
  generalize hT:Zc8 (fun x y=>decide (x=y)) a.lists b.lists=T at *
  refine Zbs [2,3,30] (σ:=Unit) (fun(k:Nat) s=>T=Zc8 (fun x y=>decide (x=y)) (a.lists.drop k) (b.lists.drop k)) (fun k s=>[]) (fun k s=>[]) () (GStep.refl _ _) (by simp only[ZaA,Zav,Fr.put,Fr.get,↓reduceIte,Nat.reduceEqDiff];rfl) (by intro k s;rfl) (by intro k s;rfl) (by rfl) (by unfold maxLen;omega) ?_ (by simp only[ZaF]) (by simp only[ZaJ]) ?_ ?_
  ·exact hT.symm
  ·(rintro i s G hk ht hG hn;try simp only[nx]at hn)
   have hk2:i<b.lists.length:=hab ▸ hk
   rw[Zji hk hk2,<- Zhz]at ht
   have hak:=ha.2.2 _ (zaq hk)
   ((have hd:=tv;repeat' first|(first|apply Zad|apply Zac|apply Zab)<;>intro hd<;>try simp only[hd]|simp(disch:=first|assumption|omega|simp only[nx]<;>omega|fail)only[hd,qr,qn,Zqj,↓YA,YY,sevalprocAttr,hG.get])<;>try revert hd;refine ttr ?_)
   ·refine ZbC (by rw[ht,Zia (ZnX hd)];rfl)
   ·have hab2:=Zn4 hd
    generalize hR:Zc8 (fun x y=>decide (x=y)) (a.lists.drop (i+1)) (b.lists.drop (i+1))=R at *
    refine Zbs [2,3,5,30,31,52] (σ:=Unit) (fun(k:Nat) s=>T=(Zc8 (fun x y=>decide (x=y)) (a.lists[i].drop k) (b.lists[i].drop k)&&R)) (fun k s=>[]) (fun k s=>[]) () (GStep.refl _ _) (by simp only[ZaA,Zav,Fr.put,Fr.get,↓reduceIte,Nat.reduceEqDiff];rfl) (by intro k s;rfl) (by intro k s;rfl) (by rfl) (by unfold maxLen;omega) ?_ (by simp only[ZaF]) (by simp only[ZaJ]) ?_ ?_
    ·exact ht
    ·(rintro j s2 G2 hj ht2 hG2 hn2;try simp only[nx]at hn2)
     have hj2:j<b.lists[i].length:=hab2 ▸ hj
     rw[Zji hj hj2]at ht2
     ((have hd:=tv;repeat' first|(first|apply Zad|apply Zac|apply Zab)<;>intro hd<;>try simp only[hd]|simp(disch:=first|assumption|omega|simp only[nx]<;>omega|fail)only[hd,qr,qn,Zqj,↓YA,YY,sevalprocAttr,hG2.get,hG.get])<;>try revert hd;refine ttr ?_)
     ·refine ZbC (by grind)
     ·refine⟨(),by grind,by exact HXT⟩
    ·(rintro s2 G2 ht2 hG2 hn2;try simp only[nx]at hn2)
     rw[ZkO (zaf _) (by omega),zaY]at ht2
     refine Bz0 ?_
     refine⟨(),ht2.trans hR.symm,hG.ZeP hG2⟩
  ·(rintro s G ht hG hn;try simp only[nx]at hn)
   refine Bz0 ?_
   refine ZbC (by rw[ht,ZkO (zaf _) (by omega)])
 ·refine ZbC (by grind)
 ·refine ZbC (by grind)
theorem ZoI (t u:Tok) (a b:List Nod) (H:Zaa) (hl:a.length<=1000000) (ha:∀n∈a,Zdb n):Zay Tryz.prog 17 [.sl t (rN a),.sl u (rN b)] H (Pure H (.b (decide (a=b)))):=by
 rw[<- Zhz]
 refine Zak hE cf17 (zab rfl) fun Q qr qn=>?_
 ((have hd:=tv;repeat' first|(first|apply Zad|apply Zac|apply Zab)<;>intro hd<;>try simp only[hd]|simp(disch:=first|assumption|omega|simp only[nx]<;>omega|fail)only[hd,qr,qn,ZqR,↓YA,YY,sevalprocAttr])<;>try revert hd;refine ttr ?_)
 ·refine ZbC (by rw[Zia (ZnX hd)])
 ·have hab:=Zn4 hd
  generalize hT:Zc8 (fun x y=>decide (x=y)) a b=T at *
  refine Zbs [0,1,12] (σ:=Unit) (fun(k:Nat) s=>T=Zc8 (fun x y=>decide (x=y)) (a.drop k) (b.drop k)) (fun k s=>[]) (fun k s=>[]) () (GStep.refl _ _) (by simp only[ZaA,Zav,Fr.put,Fr.get,↓reduceIte,Nat.reduceEqDiff];rfl) (by intro k s;rfl) (by intro k s;rfl) (by rfl) (by unfold maxLen;omega) ?_ (by simp only[ZaF]) (by simp only[ZaJ]) ?_ ?_
  ·exact hT.symm
  ·(rintro k s G hk ht hG hn;try simp only[nx]at hn)
   have hk2:k<b.length:=hab ▸ hk
   rw[Zji hk hk2]at ht
   refine Bz0 ?_
   refine qcp (Zpx .no .no a[k] b[k] _ (ha _ (zaq hk))) fun k1=>?_
   ((have hd:=tv;repeat' first|(first|apply Zad|apply Zac|apply Zab)<;>intro hd<;>try simp only[hd]|simp(disch:=first|assumption|omega|simp only[nx]<;>omega|fail)only[hd,qr,qn,ZqR,↓YA,YY,sevalprocAttr])<;>try revert hd;refine ttr ?_)
   ·refine ZbC (by grind)
   ·refine⟨(),by grind,by exact HXT⟩
  ·(rintro s G ht hG hn;try simp only[nx]at hn)
   refine Bz0 ?_
   refine ZbC (by rw[ht,ZkO (zaf _) (by omega)])
theorem AV_i {a b:Int} (h:a=b):AV.i a=AV.i b:=by rw[h]
theorem Zoo {x:Shp} {l:List Nod} (h:Zm5 x l=0):ZbS x=true/\∀i (hi:i<l.length),ZbF x 131072 (l.take i) l[i]=0:=by
 unfold Zm5 at h
 cases hm:ZbS x with
 | false=>rw[hm]at h;cases h
 | true =>
  rw[hm]at h
  simp only[zch,if_false]at h
  have h':Znc x 131072 (l.take 0) (l.drop 0)=0:=h
  refine⟨rfl,?_⟩
  have:∀k,Znc x 131072 (l.take k) (l.drop k)=0->∀i (hi:i<l.length),k<=i->ZbF x 131072 (l.take i) l[i]=0:=by
   intro k
   generalize hn:l.length - k=n
   induction n generalizing k with
   | zero=>intro _ i hi hk;omega
   | succ n ih =>
    intro hk i hi hki
    have hkl:k<l.length:=by omega
    rw[Znw x 131072 l k hkl]at hk
    by_cases he:ZbF x 131072 (l.take k) l[k]=0
    ·rw[if_neg (by simpa using he)]at hk
     rcases Nat.eq_or_lt_of_le hki with rfl|hlt
     ·exact he
     ·exact ih (k+1) (by omega) hk i hi hlt
    ·rw[if_pos he]at hk;exact absurd hk he
  exact fun i hi=>this 0 h' i hi (zaD _)
theorem add_zero' {x:Shp} {most:Int} {l:List Nod} {n:Nod} (h:ZbF x most l n=0):Zbf x n=0/\ZeO x l n=true/\(l.length:Int)<most:=by
 unfold ZbF at h
 split at h
 ·rename_i h1;exact absurd h h1
 ·rename_i h1
  split at h
  ·cases h
  ·rename_i h2
   split at h
   ·cases h
   ·rename_i h3
    exact⟨by simpa using h1,by simpa using h2,by omega⟩
inductive Wkn:AV->AV->Prop
 | refl (a:AV):Wkn a a
 | sl (t:Tok) (rows rows':List (List AV)) (hl:rows.length=rows'.length) (h1:∀(i:Nat) (r r':List AV),rows[i]?=some r->rows'[i]?=some r'->r.length=r'.length)
  (h2:∀(i:Nat) (r r':List AV) (j:Nat) (x y:AV),rows[i]?=some r->rows'[i]?=some r'->r[j]?=some x->r'[j]?=some y->Wkn x y):Wkn (.sl t rows) (.sl .no rows')
 | agg (cs cs':List AV) (hl:cs.length=cs'.length) (h:∀(i:Nat) (x y:AV),cs[i]?=some x->cs'[i]?=some y->Wkn x y):Wkn (.agg cs) (.agg cs')
 | tup (cs cs':List AV) (hl:cs.length=cs'.length) (h:∀(i:Nat) (x y:AV),cs[i]?=some x->cs'[i]?=some y->Wkn x y):Wkn (.tup cs) (.tup cs')
section
variable {g:Gh} {w:World}
theorem Wkn.one {a b:AV} (h:Wkn a b):a.one=b.one:=by cases h<;>rfl
theorem ZaN {α:Type} {l m:List α} (hl:l.length=m.length) {i:Nat} {y:α} (h:m[i]?=some y):∃x,l[i]?=some x:=by
 have:=(zan.1 h).1
 exact⟨l[i]'(by omega),zaa (by omega)⟩
theorem VR.wkn {a b:AV} {v:Value} (hw:Wkn a b) (h:VR g w a v):VR g w b v:=by
 induction hw generalizing v with
 | refl a=>exact h
 | sl t rows rows' hl h1 h2 ih =>
  cases h with
  | sl tok _ A c sz b o f hc hm hA hsz hcell hv ht =>
   have:=VR.sl (g:=g) (w:=w) .no rows' A c sz b o f (by rw[<- hl];exact hc) hm (fun hne=>hA fun e=>hne (by rw[e]at hl;exact zbl.1 hl.symm)) (fun r' hr'=>by
    obtain⟨i,hi,rfl⟩:=zay hr'
    obtain⟨r,hr⟩:=ZaN hl (zaa hi)
    have hrm:=zaF hr
    have e:=h1 i r _ hr (zaa hi)
    refine⟨by rw[<- e];exact(hsz r hrm).1,fun y hy=>?_⟩
    obtain⟨j,hj,rfl⟩:=zay hy
    obtain⟨x,hx⟩:=ZaN e (zaa hj)
    rw[<- (h2 i r _ j x _ hr (zaa hi) hx (zaa hj)).one]
    exact(hsz r hrm).2 x (zaF hx)) (fun i r' j y hr' hy=>by
    obtain⟨r,hr⟩:=ZaN hl hr'
    obtain⟨x,hx⟩:=ZaN (h1 i r r' hr hr') hy
    exact hcell i r j x hr hx) (fun i r' j y hr' hy=>by
    obtain⟨r,hr⟩:=ZaN hl hr'
    obtain⟨x,hx⟩:=ZaN (h1 i r r' hr hr') hy
    exact ih i r r' j x y hr hr' hx hy (hv i r j x hr hx)) trivial
   rw[hl]
   exact this
 | agg cs cs' hl hh ih =>
  cases h with
  | agg _ vs hl2 hone hv=>exact .agg cs' vs (by rw[<- hl];exact hl2) (fun y hy=>by
    obtain⟨j,hj,rfl⟩:=zay hy
    obtain⟨x,hx⟩:=ZaN hl (zaa hj)
    rw[<- (hh j x _ hx (zaa hj)).one]
    exact hone x (zaF hx)) (fun i y u hy hu=>by
    obtain⟨x,hx⟩:=ZaN hl hy
    exact ih i x y hx hy (hv i x u hx hu))
 | tup cs cs' hl hh ih =>
  cases h with
  | tup _ vs hl2 hv=>exact .tup cs' vs (by rw[<- hl];exact hl2) (fun i y u hy hu=>by
    obtain⟨x,hx⟩:=ZaN hl hy
    exact ih i x y hx hy (hv i x u hx hu))
end
theorem Zb6.wkn {r v:AV} {H H2:Zaa} (hr:Wkn r v) (h:Zaa.Ext H2 H):Zb6 r H v (H2.bump (H.next - H2.next)):=fun g w u hv hW=>by
 obtain⟨k1,k2⟩:=Zf3 hW (H2:=H2.bump (H.next - H2.next)) (fun i o hi=>h.get i o hi) (by have:=h.next;simp;omega)
 exact⟨g,hv.wkn hr,k1,k2⟩
theorem Zc1 {r v:AV} {H0 H:Zaa} (hr:Wkn r v) (hx:Zaa.Ext H0 H:=by exact AXT):∃r2 H2,Zb6 r H r2 H2/\Pure H0 v r2 H2:=⟨_,_,Zb6.wkn hr hx,rfl,_,rfl⟩
abbrev rLt (ts:List (Tok×List Cel)):List (List AV):=ts.map fun p=>[.sl p.1 (rC p.2)]
theorem Zli (t:Tok) (ts:List (Tok×List Cel)):Wkn (.sl t (rLt ts)) (.sl .no (rL (ts.map (·.2)))):=by
 refine .sl _ _ _ (by simp) (fun i r r' h h'=>?_) (fun i r r' j x y h h' hx hy=>?_)
 ·simp only[zaL,zbt]at h h'
  cases hi:ts[i]? with
  | none=>rw[hi]at h;cases h
  | some p=>rw[hi]at h h';simp at h h';subst h h';rfl
 ·simp only[zaL,zbt]at h h'
  cases hi:ts[i]? with
  | none=>rw[hi]at h;cases h
  | some p =>
   rw[hi]at h h'
   simp at h h'
   subst h h'
   cases j with
   | zero=>simp at hx hy;subst hx hy;exact .sl _ _ _ rfl (fun i r r' h h'=>by rw[h]at h';injection h' with h';rw[h']) (fun i r r' j x y h h' hx hy=>by rw[h]at h';injection h' with h';subst h';rw[hx]at hy;injection hy with hy;subst hy;exact .refl _)
   | succ j=>simp at hx
def Ze0 (t:Tok) (dim:Int) (ts:List (Tok×List Cel)) (all:Cel):List AV:=.i dim :: .sl t (rLt ts) :: ZbE all
theorem Zp6 (t:Tok) (dim:Int) (ts:List (Tok×List Cel)) (all:Cel):Wkn (.agg (Ze0 t dim ts all)) (.agg (ZbD .no ⟨dim,ts.map (·.2),all⟩)):=by
 refine .agg _ _ rfl (fun i x y hx hy=>?_)
 have e:ZbD .no ⟨dim,ts.map (·.2),all⟩=.i dim :: .sl .no (rL (ts.map (·.2))) :: ZbE all:=rfl
 rw[e]at hy
 unfold Ze0 at hx
 match i with
 | 0=>simp at hx hy;subst hx hy;exact .refl _
 | 1=>simp at hx hy;subst hx hy;simpa using Zli t ts
 | i+2=>simp only[List.getElem?_cons_succ]at hx hy;rw[hx]at hy;injection hy with hy;subst hy;exact .refl _
theorem Zay.wknA {P:Program} {f:FuncId} {xs bs:List AV} {H:Zaa} {R:AV->Zaa->Prop} (h:Zay P f bs H R) (hl:xs.length=bs.length) (hw:∀(i:Nat) x y,xs[i]?=some x->bs[i]?=some y->Wkn x y):Zay P f xs H R :=
 ⟨h.1,fun g w vs hW hV=>h.2 g w vs hW ⟨by rw[<- hl];exact hV.1,fun i y u hy hu=>by
  obtain⟨x,hx⟩:=ZaN hl hy
  exact(hV.2 i x u hx hu).wkn (hw i x y hx hy)⟩⟩
theorem Zcc {α:Type} {p:α->α->Bool}:∀{l m:List α},Zbr p l m=true->l.length=m.length/\∀(i:Nat) a b,l[i]?=some a->m[i]?=some b->p a b=true
 | [],[],_=>⟨rfl,fun i a b h=>by simp at h⟩
 | a :: l,b :: m,h=>by
  simp only[Zbr,zax]at h
  obtain⟨h1,h2⟩:=Zcc h.2
  refine⟨by simp[h1],fun i x y hx hy=>?_⟩
  cases i with
  | zero=>simp at hx hy;subst hx hy;exact h.1
  | succ i=>simp at hx hy;exact h2 i x y hx hy
 | [],_ :: _,h=>by simp[Zbr]at h
 | _ :: _,[],h=>by simp[Zbr]at h
def wknB:Nat->AV->AV->Bool
 | 0,_,_=>false
 | n+1,a,b=>match a,b with
  | .sl _ r,.sl .no r'=>Zbr (Zbr (wknB n)) r r'
  | .agg cs,.agg ds=>Zbr (wknB n) cs ds
  | .tup cs,.tup ds=>Zbr (wknB n) cs ds
  | a,b=>AV.same (n+1) a b
theorem Zea:∀{n:Nat} {a b:AV},wknB n a b=true->Wkn a b
 | 0,_,_,h=>by simp[wknB]at h
 | n+1,a,b,h=>by
  unfold wknB at h
  split at h
  ·obtain⟨h1,h2⟩:=Zcc h
   exact .sl _ _ _ h1 (fun i r r' a b=>(Zcc (h2 i r r' a b)).1) (fun i r r' j x y a b c d=>Zea ((Zcc (h2 i r r' a b)).2 j x y c d))
  ·obtain⟨h1,h2⟩:=Zcc h
   exact .agg _ _ h1 fun i x y a b=>Zea (h2 i x y a b)
  ·obtain⟨h1,h2⟩:=Zcc h
   exact .tup _ _ h1 fun i x y a b=>Zea (h2 i x y a b)
  ·rw[AV.Zlv h];exact .refl _
theorem Zc7 {sz:Nat}:∀{rows:List (List AV)},(∀q∈rows,q.length=sz)->rows.flatten.length=rows.length * sz
 | [],_=>by simp
 | q :: rows,h=>by
  simp only[List.flatten_cons,zai,List.length_cons]
  rw[Zc7 fun q hq=>h q (zad _ hq),h q (zae ..),zaT]
  omega
theorem Zp3 {H:Zaa} {E sz bytes id cap:Nat} {zero:List AV} {rows:List (List AV)} {tail r:List AV} {x:AV} {K:AV->Zaa->Prop}
  (ho:H.get id=some (.cells (rows.flatten++tail) E)) (hl:∀q∈rows,q.length=sz) (hx:ZaL H sz x=some [r]) (hr:r.length=sz)
  (hcl:(rows.flatten++tail).length=cap * sz) (hn:rows.length<=cap) (h63:rows.length+1<=maxLen) (hby:(rows.length+1) * bytes<=140737488355328) (hz:zero.length=sz)
  (k:∀id' cap' tail' H',(id'=id/\H'=H.set id (.cells ((rows++[r]).flatten++tail') E))\/(id'=H.next/\H'=H.alloc (.cells ((rows++[r]).flatten++tail') E))->((rows++[r]).flatten++tail').length=cap' * sz->rows.length+1<=cap'->cap'<=maxLen\/cap'=cap->K (.arr id' 0 (rows.length+1) cap') H') :
  Zk3 H E sz bytes zero (.arr id 0 rows.length cap) x K:=by
 have hfl:=Zc7 hl
 unfold Zk3
 rw[hx]
 simp only[ho]
 refine⟨⟨trivial,trivial,by simp,by simp[ZaE,hr],hcl,hn,h63,hby⟩,fun h1=>?_,fun h1 c h2 h3=>?_⟩
 ·have htl:sz<=tail.length:=by
   rw[zai,hfl]at hcl
   have:(rows.length+1) * sz<=cap * sz:=zbe _ h1
   rw[zaT]at this
   omega
  have e:splice (rows.flatten++tail) (rows.length * sz) [r].flatten=(rows++[r]).flatten++tail.drop sz:=by
   unfold splice
   rw[<- hfl,zcM]
   simp only[zbJ,List.flatten_cons,List.flatten_nil,zaI,hr]
   rw[List.drop_length_add_append]
  rw[e]
  refine k id cap (tail.drop sz) _ (.inl ⟨rfl,rfl⟩) ?_ h1 (.inr rfl)
  rw[<- hcl]
  simp only[zbJ,List.flatten_cons,List.flatten_nil,zaI,zai,zcy,hr]
  omega
 ·have e:(rows.flatten++tail).take (rows.length * sz)++([r].flatten++(List.replicate (c - (rows.length+1)) zero).flatten)=(rows++[r]).flatten++(List.replicate (c - (rows.length+1)) zero).flatten:=by
   rw[<- hfl,zcM]
   simp
  have hlen1:[r].length=1:=rfl
  simp only[hlen1]at h1 h2 ⊢
  rw[e]
  refine k H.next c _ _ (.inr ⟨rfl,rfl⟩) ?_ h2 (.inl h3)
  have hrep:=Zc7 (sz:=sz) (rows:=List.replicate (c - (rows.length+1)) zero) (fun q hq=>by rw[(zbM.1 hq).2];exact hz)
  rw[zai,hrep,zcA]
  simp only[zbJ,List.flatten_cons,List.flatten_nil,zaI,zai,hfl,hr]
  have:c * sz=(rows.length+1) * sz+(c - (rows.length+1)) * sz:=by rw[<- zaT];congr 1;omega
  rw[this,zaT]
  omega
theorem ZfH (sz:Nat):∀(n:Nat) (cs:List AV) (i j:Nat) (r:List AV) (x:AV),n * sz<=cs.length->(chunk sz n cs)[i]?=some r->r[j]?=some x->i<n/\j<sz/\r.length=sz/\cs[i * sz+j]?=some x
 | 0,cs,i,j,r,x,_,h,_=>by simp[chunk]at h
 | n+1,cs,i,j,r,x,hl,h,hx=>by
  have e:(n+1) * sz=n * sz+sz:=by rw[zaT];omega
  cases i with
  | zero =>
   simp[chunk]at h
   subst h
   have h1:j<(cs.take sz).length:=(zan.1 hx).1
   have h2:(cs.take sz).length=sz:=by simp;omega
   refine⟨by omega,by omega,h2,?_⟩
   rw[za1]at hx
   rw[if_pos (by omega)]at hx
   simpa using hx
  | succ i =>
   simp[chunk]at h
   obtain⟨h1,h2,h3,h4⟩:=ZfH sz n (cs.drop sz) i j r x (by simp;omega) h hx
   refine⟨by omega,h2,h3,?_⟩
   rw[zbb]at h4
   rw[<- h4]
   congr 1
   rw[zaT];omega
def Zaa.dels (H:Zaa) (D:Nat->Bool):Zaa:=⟨fun i=>bif D i then none else H.get i,H.next,fun i hi=>by rw[H.wf i hi];cases D i<;>rfl⟩
theorem dels_get {H:Zaa} {D:Nat->Bool} {i:Nat} (h:D i=false):(H.dels D).get i=H.get i:=by simp[Zaa.dels,h]
inductive Frz (H:Zaa) (D:Nat->Bool):AV->AV->Prop
 | refl (a:AV):Frz H D a a
 | arr (id off sz len cap E:Nat) (cs:List AV) (rows':List (List AV)) (hd:D id=true) (ho:H.get id=some (.cells cs E)) (hb:off+len * sz<=cs.length) (hl:rows'.length=len)
  (h1:∀(i:Nat) (r r':List AV),(chunk sz len (cs.drop off))[i]?=some r->rows'[i]?=some r'->r.length=r'.length)
  (h2:∀(i:Nat) (r r':List AV) (j:Nat) (x y:AV),(chunk sz len (cs.drop off))[i]?=some r->rows'[i]?=some r'->r[j]?=some x->r'[j]?=some y->Frz H D x y):Frz H D (.arr id off len cap) (.sl .no rows')
 | sl (t:Tok) (rows rows':List (List AV)) (hl:rows.length=rows'.length) (h1:∀(i:Nat) (r r':List AV),rows[i]?=some r->rows'[i]?=some r'->r.length=r'.length)
  (h2:∀(i:Nat) (r r':List AV) (j:Nat) (x y:AV),rows[i]?=some r->rows'[i]?=some r'->r[j]?=some x->r'[j]?=some y->Frz H D x y):Frz H D (.sl t rows) (.sl .no rows')
 | agg (cs cs':List AV) (hl:cs.length=cs'.length) (h:∀(i:Nat) (x y:AV),cs[i]?=some x->cs'[i]?=some y->Frz H D x y):Frz H D (.agg cs) (.agg cs')
 | tup (cs cs':List AV) (hl:cs.length=cs'.length) (h:∀(i:Nat) (x y:AV),cs[i]?=some x->cs'[i]?=some y->Frz H D x y):Frz H D (.tup cs) (.tup cs')
section
variable {g:Gh} {H:Zaa} {w:World} {D:Nat->Bool}
theorem Frz.one {a b:AV} (h:Frz H D a b):a.one=b.one:=by cases h<;>rfl
def Gh.frz (g:Gh) (H:Zaa) (D:Nat->Bool):Gh:={ g with RO:=fun b j=>g.RO b j\/∃id cs E,D id=true/\H.get id=some (.cells cs E)/\g.ι id=some b/\j<cs.length }
theorem ZjF:g.le (g.frz H D) w w:=⟨fun _ _ h=>h,fun _ _ _ _ h=>⟨_,_,_,h,.inr ⟨rfl,rfl,rfl⟩⟩,fun _ _ _ h=>h,fun _ _ h=>.inl h,fun _ _ _=>rfl,fun _ h=>h,rfl⟩
theorem VR.frz {a b:AV} {v:Value} (hf:Frz H D a b) (hW:WR g H w) (h:VR g w a v):VR (g.frz H D) w b v:=by
 induction hf generalizing v with
 | refl a=>exact h.mono ZjF
 | arr id off sz len cap E cs rows' hd ho hb hl h1 h2 ih =>
  cases h with
  | arr _ _ _ _ b hi hc hm =>
   obtain⟨b',carr,hi',hblk,hcs,hone,_⟩:=hW.obj id _ ho
   rw[hi]at hi'
   injection hi' with hi'
   subst hi'
   have hk:=Zez sz len (cs.drop off) (by simp;omega)
   have key:∀i r' j y,rows'[i]?=some r'->r'[j]?=some y->∃(x:AV) (u:Value),y.one=x.one/\w.cell? ⟨b,off+i * sz+j,none⟩=some u/\off+i * sz+j<cs.length/\VR (g.frz H D) w y u:=fun i r' j y hr' hy=>by
    obtain⟨r,hr⟩:=ZaN (l:=chunk sz len (cs.drop off)) (m:=rows') (by rw[hk.2.1,hl]) hr'
    obtain⟨x,hx⟩:=ZaN (h1 i r r' hr hr') hy
    obtain⟨c1,c2,c3,c4⟩:=ZfH sz len (cs.drop off) i j r x (by simp;omega) hr hx
    rw[zbb,<- zbE]at c4
    obtain⟨u,hu,hv⟩:=hcs.get c4
    refine⟨x,u,(h2 i r r' j x y hr hr' hx hy).one.symm,?_,(zan.1 c4).1,ih i r r' j x y hr hr' hx hy hv⟩
    simp only[World.cell?,hblk]
    simpa using hu
   let f:Nat->Nat->Value:=fun i j=>(w.cell? ⟨b,off+i * sz+j,none⟩).getD undef
   have:=VR.sl (g:=g.frz H D) (w:=w) .no rows' (some ⟨b,off,none⟩) cap sz b off f (by omega) hm (fun _=>rfl) (fun r' hr'=>by
    obtain⟨i,hi2,rfl⟩:=zay hr'
    obtain⟨r,hr⟩:=ZaN (l:=chunk sz len (cs.drop off)) (m:=rows') (by rw[hk.2.1,hl]) (zaa hi2)
    refine⟨by rw[<- h1 i r _ hr (zaa hi2)];exact hk.2.2 r (zaF hr),fun y hy=>?_⟩
    obtain⟨j,hj,rfl⟩:=zay hy
    obtain⟨x,hx⟩:=ZaN (h1 i r _ hr (zaa hi2)) (zaa hj)
    obtain⟨c1,c2,c3,c4⟩:=ZfH sz len (cs.drop off) i j r x (by simp;omega) hr hx
    rw[<- (h2 i r _ j x _ hr (zaa hi2) hx (zaa hj)).one]
    rw[zbb]at c4
    exact hone x (zaF c4)) (fun i r' j y hr' hy=>by
    obtain⟨x,u,_,k1,k2,_⟩:=key i r' j y hr' hy
    exact⟨by simp only[f,k1,Option.getD_some],.inr ⟨id,cs,E,hd,ho,hi,k2⟩⟩) (fun i r' j y hr' hy=>by
    obtain⟨x,u,_,k1,_,k3⟩:=key i r' j y hr' hy
    simp only[f,k1,Option.getD_some]
    exact k3) trivial
   rw[hl]at this
   exact this
 | sl t rows rows' hl h1 h2 ih =>
  cases h with
  | sl tok _ A c sz b o f hc hm hA hsz hcell hv ht =>
   have:=VR.sl (g:=g.frz H D) (w:=w) .no rows' A c sz b o f (by rw[<- hl];exact hc) hm (fun hne=>hA fun e=>hne (by rw[e]at hl;exact zbl.1 hl.symm)) (fun r' hr'=>by
    obtain⟨i,hi,rfl⟩:=zay hr'
    obtain⟨r,hr⟩:=ZaN hl (zaa hi)
    have hrm:=zaF hr
    have e:=h1 i r _ hr (zaa hi)
    refine⟨by rw[<- e];exact(hsz r hrm).1,fun y hy=>?_⟩
    obtain⟨j,hj,rfl⟩:=zay hy
    obtain⟨x,hx⟩:=ZaN e (zaa hj)
    rw[<- (h2 i r _ j x _ hr (zaa hi) hx (zaa hj)).one]
    exact(hsz r hrm).2 x (zaF hx)) (fun i r' j y hr' hy=>by
    obtain⟨r,hr⟩:=ZaN hl hr'
    obtain⟨x,hx⟩:=ZaN (h1 i r r' hr hr') hy
    exact⟨(hcell i r j x hr hx).1,.inl (hcell i r j x hr hx).2⟩) (fun i r' j y hr' hy=>by
    obtain⟨r,hr⟩:=ZaN hl hr'
    obtain⟨x,hx⟩:=ZaN (h1 i r r' hr hr') hy
    exact ih i r r' j x y hr hr' hx hy (hv i r j x hr hx)) trivial
   rw[hl]
   exact this
 | agg cs cs' hl hh ih =>
  cases h with
  | agg _ vs hl2 hone hv=>exact .agg cs' vs (by rw[<- hl];exact hl2) (fun y hy=>by
    obtain⟨j,hj,rfl⟩:=zay hy
    obtain⟨x,hx⟩:=ZaN hl (zaa hj)
    rw[<- (hh j x _ hx (zaa hj)).one]
    exact hone x (zaF hx)) (fun i y u hy hu=>by
    obtain⟨x,hx⟩:=ZaN hl hy
    exact ih i x y hx hy (hv i x u hx hu))
 | tup cs cs' hl hh ih =>
  cases h with
  | tup _ vs hl2 hv=>exact .tup cs' vs (by rw[<- hl];exact hl2) (fun i y u hy hu=>by
    obtain⟨x,hx⟩:=ZaN hl hy
    exact ih i x y hx hy (hv i x u hx hu))
theorem frz_ok (hW:WR g H w):WR (g.frz H D) (H.dels D) w/\Stp g H w (g.frz H D) (H.dels D) w:=by
 have hin:∀id o,(H.dels D).get id=some o->D id=false/\H.get id=some o:=fun id o h=>by
  unfold Zaa.dels at h
  cases hd:D id with
  | true=>simp[hd]at h
  | false=>exact⟨rfl,by simpa [hd] using h⟩
 have own:∀id cs E b,D id=true->H.get id=some (.cells cs E)->g.ι id=some b->Own g H b:=fun id cs E b _ h2 h3=>⟨id,_,h2,h3⟩
 have ne:∀i o b,D i=false->H.get i=some o->Zcy g i o b->∀j,¬(∃id cs E,D id=true/\H.get id=some (.cells cs E)/\g.ι id=some b/\j<cs.length):=fun i o b hd ho hb j ⟨id,cs,E,k1,k2,k3,_⟩=>by
  have:=hW.inj i id o _ b ho k2 hb k3
  subst this
  rw[hd]at k1;cases k1
 refine⟨⟨fun id o h=>?_,fun i i' o o' b a1 a2 b1 b2=>hW.inj i i' o o' b (hin _ _ a1).2 (hin _ _ a2).2 ?_ ?_,hW.dom,fun id o b h1 h2=>hW.bd id o b (hin _ _ h1).2 ?_,fun b j h=>?_⟩,⟨ZjF,zaf _,rfl,rfl,rfl,zaf _,fun _ _ _=>rfl,fun b _ ⟨i,o,a1,a2⟩=>⟨i,o,(hin _ _ a1).2,?_⟩,fun b j _ h=>?_⟩⟩
 ·obtain⟨hd,ho⟩:=hin _ _ h
  have hR:=hW.obj id o ho
  cases o with
  | cells cs E =>
   obtain⟨b,carr,k1,k2,k3,k4,k5⟩:=hR
   exact⟨b,carr,k1,k2,k3.mono ZjF,k4,fun j hj=>hj.elim (k5 j) (ne id _ b hd ho k1 j)⟩
  | tok n E sz =>
   obtain⟨cap,b,k1,k2,k3,k4⟩:=hR
   refine⟨cap,b,k1,k2,k3,fun hc=>?_⟩
   obtain⟨carr,m1,m2,m3⟩:=k4 hc
   exact⟨carr,m1,m2,fun j hj hj2=>hj2.elim (m3 j hj) (ne id _ b hd ho ⟨n,cap,k1,hc⟩ j)⟩
  | map kk es del =>
   obtain⟨b,entries,clock,k1,k2,k3,k4,k5,k6,k7⟩:=hR
   refine⟨b,entries,clock,k1,k2,k3,fun i k x e h1 h2=>?_,k5,k6,fun j hj=>hj.elim (k7.1 j) (ne id _ b hd ho k1 j),k7.2⟩
   obtain⟨p1,p2,p3,p4⟩:=k4 i k x e h1 h2
   exact⟨p1,p2,p3.mono ZjF,p4⟩
  | iter mi ni si =>
   obtain⟨b,bm,born,k1,k2,k3,k4,k5,k6⟩:=hR
   exact⟨b,bm,born,k1,k2,k3,k4,k5,fun j hj=>hj.elim (k6 j) (ne id _ b hd ho k1 j)⟩
 ·cases o<;>exact b1
 ·cases o'<;>exact b2
 ·cases o<;>exact h2
 ·rcases h with h|⟨id,cs,E,_,k2,k3,_⟩
  ·exact hW.ro b j h
  ·exact hW.bd id _ b k2 k3
 ·cases o<;>exact a2
 ·rcases h with h|⟨id,cs,E,k1,k2,k3,_⟩
  ·exact .inl h
  ·exact .inr (own id cs E b k1 k2 k3)
end
theorem Zb6.frz {r v:AV} {H H2:Zaa} {D:Nat->Bool} (hf:Frz H D r v) (h1:∀i o,H2.get i=some o->D i=false/\H.get i=some o) (h2:H.next<=H2.next):Zb6 r H v H2:=fun g w u hv hW=>by
 obtain⟨k1,k2⟩:=frz_ok (D:=D) hW
 obtain⟨k3,k4⟩:=Zf3 k1 (H2:=H2) (fun i o ho=>by obtain⟨a,b⟩:=h1 i o ho;rw[dels_get a];exact b) h2
 exact⟨g.frz H D,hv.frz hf hW,k3,k2.trans k4⟩
theorem ZpD {r v:AV} {H0 H:Zaa} {D:Nat->Bool} (hf:Frz H D r v) (hD:∀i,i<H0.next->D i=false) (hx:Zaa.Ext H0 H:=by exact AXT):∃r2 H2,Zb6 r H r2 H2/\Pure H0 v r2 H2 :=
 ⟨_,H0.bump (H.next - H0.next),Zb6.frz hf (fun i o h=>by
  have hh:H0.get i=some o:=h
  exact⟨hD i (Zaa.lt hh),hx.get i o hh⟩) (by have:=hx.next;simp;omega),rfl,_,rfl⟩
end Go.Proofs.YtaapiigfmdhobaaGreat
