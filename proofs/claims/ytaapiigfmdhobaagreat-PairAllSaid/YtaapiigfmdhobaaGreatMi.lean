/- Texts of the walk, joined: Ta Tb Tc Td Te Tf Ye Ym Av. -/
import Derived.Test.YtaapiigfmdhobaaGreatMh
import Derived.Sort.Walk0
import Derived.Test.YtaapiigfmdhobaaGreatMd
import Derived.Test.YtaapiigfmdhobaaGreatMe
namespace Go.Proofs.YtaapiigfmdhobaaGreat
set_option linter.unusedSimpArgs false
set_option linter.unusedVariables false
open Go.RowKit
def ArA (H:Zaa) (id:Nat) (x:Shp) (l:List Nod):Prop:=∃tok nt most,H.get id=some (.cells (Zk5 x tok nt l most) 117)
theorem ArA.ext {H H':Zaa} {id:Nat} {x:Shp} {l:List Nod} (h:ArA H id x l) (hx:Zaa.Ext H H'):ArA H' id x l:=by
 obtain⟨tok,nt,most,h⟩:=h
 exact⟨tok,nt,most,hx.get _ _ h⟩
theorem ArO.ara {H:Zaa} {id tk:Nat} {x:Shp} {tok:Tok} {l:List Nod} {most:Int} (h:ArO H id tk x tok l most):ArA H id x l:=⟨_,_,_,h.cell⟩
theorem ZhQ {H:Zaa} {id:Nat} {x:Shp} {l:List Nod} (ha:ArA H id x l) (hx:1<=x.sizes.length):Zay Tryz.prog 42 [.ptr id 0] H (PureE H (.i l.length)):=by
 obtain⟨tok,nt,most,h⟩:=ha
 refine Zak hE cf42 (zac rfl) fun Q qr qn=>?_
 ((try simp(disch:=first|assumption|omega|simp only[nx]<;>omega|fail)only[↓YA,YB,YC,YZ,YF,sevalprocAttr,qr,qn,Zk8]);repeat' ((first|apply Zad|apply Zac|apply Zab)<;>intro hd<;>(try simp only[hd])<;>(try simp(disch:=first|assumption|omega|simp only[nx]<;>omega|fail)only[↓YA,YB,YC,YZ,YF,sevalprocAttr,qr,qn,hd,Zk8])))
 refine Zap.use (Zeu h hx) ?_
 rintro r H1 ⟨rfl,hx1⟩
 have hc:=hx1.get _ _ h
 unfold Zk5 eAr at hc
 ((try simp(disch:=first|assumption|omega|simp only[nx]<;>omega|fail)only[↓YA,YB,YC,YZ,YF,sevalprocAttr,qr,qn,Zk8,hc,zaa]);repeat' ((first|apply Zad|apply Zac|apply Zab)<;>intro hd<;>(try simp only[hd])<;>(try simp(disch:=first|assumption|omega|simp only[nx]<;>omega|fail)only[↓YA,YB,YC,YZ,YF,sevalprocAttr,qr,qn,hd,Zk8,hc,zaa])))
 exact Zaq ⟨rfl,hx1⟩
theorem Ziu {H:Zaa} {id:Nat} {x:Shp} {l:List Nod} (ha:ArA H id x l) (hx:1<=x.sizes.length) (hl:l.length<=1000000000):Zay Tryz.prog 44 [.ptr id 0] H (PureE H (.i ((l.length:Int) - 1))):=by
 refine Zak hE cf44 (zac rfl) fun Q qr qn=>?_
 ((try simp(disch:=first|assumption|omega|simp only[nx]<;>omega|fail)only[↓YA,YB,YC,YZ,YF,sevalprocAttr,qr,qn,c44_0]);repeat' ((first|apply Zad|apply Zac|apply Zab)<;>intro hd<;>(try simp only[hd])<;>(try simp(disch:=first|assumption|omega|simp only[nx]<;>omega|fail)only[↓YA,YB,YC,YZ,YF,sevalprocAttr,qr,qn,hd,c44_0])))
 refine Zap.use (ZhQ ha hx) ?_
 rintro r H1 ⟨rfl,hx1⟩
 ((try simp(disch:=first|assumption|omega|simp only[nx]<;>omega|fail)only[↓YA,YB,YC,YZ,YF,sevalprocAttr,qr,qn]);repeat' ((first|apply Zad|apply Zac|apply Zab)<;>intro hd<;>(try simp only[hd])<;>(try simp(disch:=first|assumption|omega|simp only[nx]<;>omega|fail)only[↓YA,YB,YC,YZ,YF,sevalprocAttr,qr,qn,hd])))
 exact Zaq ⟨rfl,hx1⟩
def Zdw (l:List Nod) (i:Int):Nod:=if 0<=i then (l[i.toNat]?).getD ⟨0,[],⟨0,0,⟨0,0,0,0,0,0,0,0,0,0⟩⟩⟩ else ⟨0,[],⟨0,0,⟨0,0,0,0,0,0,0,0,0,0⟩⟩⟩
def inB (l:List Nod) (i:Int):Bool:=decide (0<=i)&&decide (i<l.length)
theorem ZfD {H:Zaa} {id:Nat} {x:Shp} {l:List Nod} (i:Int) (ha:ArA H id x l) (hx:1<=x.sizes.length) (hn:∀n∈l,Zdb n):Zay Tryz.prog 68 [.ptr id 0,.i i] H fun r H'=>Zaa.Ext H H'/\∃t,r=.tup [.agg (ZbD t (Zdw l i)),.i (bif inB l i then 0 else 9)]:=by
 obtain⟨tok,nt,most,h⟩:=ha
 refine Zak hE cf68 (zac rfl) fun Q qr qn=>?_
 have hid:=Zaa.lt h
 have hx0:∀o,Zaa.Ext H (H.alloc o):=fun o=>(Zaa.Ext.refl H).alloc
 ((try simp(disch:=first|assumption|omega|simp only[nx]<;>omega|fail)only[↓YA,YB,YC,YZ,YF,sevalprocAttr,qr,qn,ZiL]);repeat' ((first|apply Zad|apply Zac|apply Zab)<;>intro hd<;>(try simp only[hd])<;>(try simp(disch:=first|assumption|omega|simp only[nx]<;>omega|fail)only[↓YA,YB,YC,YZ,YF,sevalprocAttr,qr,qn,hd,ZiL])))
 refine Zap.use (Zeu ((hx0 _).get _ _ h) hx) ?_
 rintro r H1 ⟨rfl,hx1⟩
 have hx01:=(hx0 _).trans hx1
 have hc:=hx01.get _ _ h
 have hz:=hx1.get _ _ (Zaa.Zae (H:=H))
 have hzl:=Zaa.lt hz
 unfold Zk5 eAr at hc
 by_cases hi:0<=i/\i<l.length
 ·obtain⟨d,rfl⟩:∃d:Nat,i=d:=⟨i.toNat,by omega⟩
  have hd:d<l.length:=by omega
  have hr:=ZoM hd
  have h0:(0:Int)<=d:=by omega
  have d1:decide ((d:Int)<0)=false:=by simp
  have d2:decide ((d:Int)≥(l.length:Int))=false:=by simp;omega
  have hT1:Zdw l d=l[d]:=by unfold Zdw;simp[hd]
  have hT2:inB l d=true:=by unfold inB;simp;omega
  rw[hT1,hT2]at qr qn
  unfold ZbD at hr
  ((try simp(disch:=first|assumption|omega|simp only[nx]<;>omega|fail)only[↓YA,YB,YC,YZ,YF,sevalprocAttr,qr,qn,ZiL,hc,hz,d1,d2,h0,hr,zaa]);repeat' ((first|apply Zad|apply Zac|apply Zab)<;>intro hd<;>(try simp only[hd])<;>(try simp(disch:=first|assumption|omega|simp only[nx]<;>omega|fail)only[↓YA,YB,YC,YZ,YF,sevalprocAttr,qr,qn,hd,ZiL,hc,hz,d1,d2,h0,hr,zaa])))
  have hs:=hn _ (zam hd)
  refine Zap.use (ZeN .no l[d] _ ⟨hs.1,hs.2.2⟩) ?_
  rintro r H2 ⟨rfl,k2,rfl⟩
  ((try simp(disch:=first|assumption|omega|simp only[nx]<;>omega|fail)only[↓YA,YB,YC,YZ,YF,sevalprocAttr,qr,qn,ZbD,hz]);repeat' ((first|apply Zad|apply Zac|apply Zab)<;>intro hd<;>(try simp only[hd])<;>(try simp(disch:=first|assumption|omega|simp only[nx]<;>omega|fail)only[↓YA,YB,YC,YZ,YF,sevalprocAttr,qr,qn,hd,ZbD,hz])))
  exact Zaq ⟨(hx01.bump).set (zaf _),_,rfl⟩
 ·have hT1:Zdw l i=⟨0,[],⟨0,0,⟨0,0,0,0,0,0,0,0,0,0⟩⟩⟩:=by
   unfold Zdw
   split
   ·rw[zbf (by omega)];rfl
   ·rfl
  have hT2:inB l i=false:=by unfold inB;simp;omega
  rw[hT1,hT2]at qr qn
  ((try simp(disch:=first|assumption|omega|simp only[nx]<;>omega|fail)only[↓YA,YB,YC,YZ,YF,sevalprocAttr,qr,qn,ZiL,hc,hz,zaa]);repeat' ((first|apply Zad|apply Zac|apply Zab)<;>intro hd<;>(try simp only[hd])<;>(try simp(disch:=first|assumption|omega|simp only[nx]<;>omega|fail)only[↓YA,YB,YC,YZ,YF,sevalprocAttr,qr,qn,hd,ZiL,hc,hz,zaa])))
  all_goals first
   | (exact Zaq ⟨hx01.set (zaf _),.full,rfl⟩)
   | (exfalso;grind)
set_option maxHeartbeats 1000000 in
theorem Znx {H:Zaa} {id:Nat} {x:Shp} {l:List Nod} (ha:ArA H id x l) (hx:1<=x.sizes.length) (hl:l.length<=1000000) (hn:∀n∈l,Zdb n):Zay Tryz.prog 18 [.ptr id 0] H (Pure H (.sl .no (rN l))):=by
 obtain⟨tok,nt,most,h⟩:=ha
 refine Zak hE cf18 (zac rfl) fun Q qr qn=>?_
 ((try simp(disch:=first|assumption|omega|simp only[nx]<;>omega|fail)only[↓YA,YB,YC,YZ,YF,sevalprocAttr,qr,qn,Zo4]);repeat' ((first|apply Zad|apply Zac|apply Zab)<;>intro hd<;>(try simp only[hd])<;>(try simp(disch:=first|assumption|omega|simp only[nx]<;>omega|fail)only[↓YA,YB,YC,YZ,YF,sevalprocAttr,qr,qn,hd,Zo4])))
 refine Zap.use (Zeu h hx) ?_
 rintro r H1 ⟨rfl,hx1⟩
 have hc:=hx1.get _ _ h
 have hx1n:=hx1.next
 unfold Zk5 eAr at hc
 ((try simp(disch:=first|assumption|omega|simp only[nx]<;>omega|fail)only[↓YA,YB,YC,YZ,YF,sevalprocAttr,qr,qn,Zo4,hc,zaa]);repeat' ((first|apply Zad|apply Zac|apply Zab)<;>intro hd<;>(try simp only[hd])<;>(try simp(disch:=first|assumption|omega|simp only[nx]<;>omega|fail)only[↓YA,YB,YC,YZ,YF,sevalprocAttr,qr,qn,hd,Zo4,hc,zaa])))
 refine ZbJ (N:=l.length) (fun k F G=>Fr.get F 14=.i (k:Int)/\Fr.get F 13=.i (l.length:Int)/\Fr.get F 12=.sl nt (rN l)/\Fr.get F 3=.sl (.own H1.next) (rN (l.take k))/\Zaa.Ext H G/\G.get H1.next=some (.tok k 115 14)) (by unfold maxLen;omega) (fun k F G h=>⟨h.1,h.2.1⟩)
  (F1:=[(3,.sl (.own H1.next) []),(14,.i ((0:Nat):Int)),(13,.i (l.length:Int)),(12,.sl nt (rN l))]) (H1:=H1.alloc (.tok 0 115 14)) ?_ ?_ ?_ ?_
 ·exact(GStep.fr (F':=[(14,.i ((0:Nat):Int)),(13,.i (l.length:Int)),(12,.sl nt (rN l)),(3,.sl .full [])]) (by simp[Fr.get])).trans ((GStep.tok 3 115 14 rfl).trans (GStep.fr (by simp[Fr.get,Fr.put])))
 ·exact⟨rfl,rfl,rfl,rfl,hx1.alloc,Zaa.Zae (H:=H1)⟩
 ·rintro k F G hk ⟨f14,f13,f12,f3,hxG,hg⟩
  have hr:=ZoM hk
  have h0:(0:Int)<=k:=by omega
  have hlk:(rN (l.take k)).length=k:=by simp;omega
  have hgl:=Zaa.lt hg
  have hgn:=hxG.next
  have hs:=hn _ (zam hk)
  unfold ZbD at hr
  ((try simp(disch:=first|assumption|omega|simp only[nx]<;>omega|fail)only[↓YA,YB,YC,YZ,YF,sevalprocAttr,qr,qn,Zo4,f14,f12,f3,hr,h0]);repeat' ((first|apply Zad|apply Zac|apply Zab)<;>intro hd<;>(try simp only[hd])<;>(try simp(disch:=first|assumption|omega|simp only[nx]<;>omega|fail)only[↓YA,YB,YC,YZ,YF,sevalprocAttr,qr,qn,hd,Zo4,f14,f12,f3,hr,h0])))
  refine Zap.use (ZeN .no l[k] _ ⟨hs.1,hs.2.2⟩) ?_
  rintro r H2 ⟨rfl,k2,rfl⟩
  have ha1:=ZmW (l.take k)
  have hb1:k+1<=maxLen:=by unfold maxLen;omega
  have hb2:(k+1) * 128<=140737488355328:=by omega
  have ho1:ZaE 14 [ZbD .no l[k]]=true:=rfl
  have hsn:rN (l.take k)++[ZbD .no l[k]]=rN (l.take (k+1)):=by rw[ZqC,zaq hk]
  unfold ZbD at ho1
  conv at hsn=>lhs;rhs;unfold ZbD
  ((try simp(disch:=first|assumption|omega|simp only[nx]<;>omega|fail)only[↓YA,YB,YC,YZ,YF,sevalprocAttr,qr,qn,ZbD,f14,f13,f12,f3,hg,hlk,ha1,hb1,hb2,ho1]);repeat' ((first|apply Zad|apply Zac|apply Zab)<;>intro hd<;>(try simp only[hd])<;>(try simp(disch:=first|assumption|omega|simp only[nx]<;>omega|fail)only[↓YA,YB,YC,YZ,YF,sevalprocAttr,qr,qn,hd,ZbD,f14,f13,f12,f3,hg,hlk,ha1,hb1,hb2,ho1])))
  rw[hsn]
  refine⟨rfl,?_⟩
  (repeat (first|assumption|exact Zaa.Ext.refl _|refine Zaa.Ext.set ?_ (by first|assumption|omega|(simp only[Zaf,Zai,Zam];omega))|refine Zaa.Ext.alloc ?_|refine Zaa.Ext.bump ?_))
 ·rintro F G ⟨f14,f13,f12,f3,hxG,hg⟩
  rw[zaN]at f3
  ((try simp(disch:=first|assumption|omega|simp only[nx]<;>omega|fail)only[↓YA,YB,YC,YZ,YF,sevalprocAttr,qr,qn,Zo4,f3]);repeat' ((first|apply Zad|apply Zac|apply Zab)<;>intro hd<;>(try simp only[hd])<;>(try simp(disch:=first|assumption|omega|simp only[nx]<;>omega|fail)only[↓YA,YB,YC,YZ,YF,sevalprocAttr,qr,qn,hd,Zo4,f3])))
  exact ZaW hxG rfl
theorem ZoX {l:List Int} {v:Int} {k:Nat} (h:k<l.length):(l.drop k).contains v=(v == l[k] || (l.drop (k+1)).contains v):=by
 rw[zan h,List.contains_cons]
set_option maxHeartbeats 1000000 in
theorem ZpJ {H:Zaa} {id cap E:Nat} {ms:List Int} (n:Nat) (v:Int) (h:H.get id=some (.cells (ms.map AV.i) E)) (hn:n<=ms.length) (hb:n<=1000000000) :
  Zay Tryz.prog 64 [.arr id 0 n cap,.i v] H fun r H'=>Zaa.Ext H H'/\∃i:Int,r=.i i/\decide (i<0)=!((ms.take n).contains v):=by
 refine Zak hE cf64 (zac rfl) fun Q qr qn=>?_
 ((try simp(disch:=first|assumption|omega|simp only[nx]<;>omega|fail)only[↓YA,YB,YC,YZ,YF,sevalprocAttr,qr,qn,ZoS]);repeat' ((first|apply Zad|apply Zac|apply Zab)<;>intro hd<;>(try simp only[hd])<;>(try simp(disch:=first|assumption|omega|simp only[nx]<;>omega|fail)only[↓YA,YB,YC,YZ,YF,sevalprocAttr,qr,qn,hd,ZoS])))
 have hln:(ms.take n).length=n:=by simp;omega
 refine ZbJ (N:=n) (fun k F G=>Fr.get F 8=.i (k:Int)/\Fr.get F 7=.i (n:Int)/\Fr.get F 0=.arr id 0 n cap/\Fr.get F 1=.i v/\G=H/\(ms.take n).contains v=((ms.take n).drop k).contains v) (by unfold maxLen;omega) (fun k F G h=>⟨h.1,h.2.1⟩) (GStep.refl _ _) ?_ ?_ ?_
 ·exact⟨rfl,rfl,rfl,rfl,rfl,rfl⟩
 ·rintro k F G hk ⟨f8,f7,f0,f1,hGH,ht⟩
  have hk2:k<(ms.take n).length:=by omega
  rw[ZoX hk2]at ht
  have hget:(ms.take n)[k]=ms[k]'(by omega):=by simp
  rw[hget]at ht
  have h0:(0:Int)<=k:=by omega
  have h1:(k:Int)<n:=by omega
  have hr:(ms.map AV.i)[k]?=some (AV.i (ms[k]'(by omega))):=by simp[show k<ms.length by omega]
  rw[hGH]
  ((try simp(disch:=first|assumption|omega|simp only[nx]<;>omega|fail)only[↓YA,YB,YC,YZ,YF,sevalprocAttr,qr,qn,ZoS,f8,f7,f0,f1,h,h0,h1,hr]);repeat' ((first|apply Zad|apply Zac|apply Zab)<;>intro hd<;>(try simp only[hd])<;>(try simp(disch:=first|assumption|omega|simp only[nx]<;>omega|fail)only[↓YA,YB,YC,YZ,YF,sevalprocAttr,qr,qn,hd,ZoS,f8,f7,f0,f1,h,h0,h1,hr])))
  ·have hc:(ms.take n).contains v=true:=by rw[ht,hd];rfl
   ((try simp(disch:=first|assumption|omega|simp only[nx]<;>omega|fail)only[↓YA,YB,YC,YZ,YF,sevalprocAttr,qr,qn,ZoS]);repeat' ((first|apply Zad|apply Zac|apply Zab)<;>intro hd<;>(try simp only[hd])<;>(try simp(disch:=first|assumption|omega|simp only[nx]<;>omega|fail)only[↓YA,YB,YC,YZ,YF,sevalprocAttr,qr,qn,hd,ZoS])))
   refine Zaq ⟨Zaa.Ext.refl _,_,rfl,?_⟩
   rw[hc];simp
  ·rw[hd,zbK]at ht
   exact ht
 ·rintro F G ⟨f8,f7,f0,f1,hGH,ht⟩
  rw[hGH]
  rw[zbo (by omega)]at ht
  ((try simp(disch:=first|assumption|omega|simp only[nx]<;>omega|fail)only[↓YA,YB,YC,YZ,YF,sevalprocAttr,qr,qn,ZoS]);repeat' ((first|apply Zad|apply Zac|apply Zab)<;>intro hd<;>(try simp only[hd])<;>(try simp(disch:=first|assumption|omega|simp only[nx]<;>omega|fail)only[↓YA,YB,YC,YZ,YF,sevalprocAttr,qr,qn,hd,ZoS])))
  refine Zaq ⟨Zaa.Ext.refl _,_,rfl,?_⟩
  rw[ht];rfl
def cnt (n:Nat) (chs:List Int):List Int:=(List.range n).map fun(i:Nat)=>(chs.count (i:Int):Int)
theorem ZlV (n:Nat) (chs:List Int):(cnt n chs).length=n:=by simp[cnt]
theorem ZqA {n:Nat} {chs:List Int} {k:Nat} (h:k<n):(cnt n chs)[k]'(by rw[ZlV];exact h)=(chs.count (k:Int):Int):=by simp[cnt]
theorem cnt_nil (n:Nat):cnt n []=List.replicate n 0:=by
 refine List.ext_getElem (by simp[cnt]) fun i h1 h2=>?_
 simp[cnt]
theorem cnt_snoc {n:Nat} {chs:List Int} {k:Nat} (h:k<n):(cnt n chs).set k ((chs.count (k:Int):Int)+1)=cnt n (chs++[(k:Int)]):=by
 refine List.ext_getElem (by simp[cnt]) fun i h1 h2=>?_
 simp only[cnt,List.length_set,zaa,List.length_range]at h1
 rw[List.getElem_set]
 simp only[cnt,zbN,List.getElem_range,List.count_append]
 by_cases e:k=i
 ·subst e;simp
 ·rw[if_neg e]
  have:List.count (i:Int) [(k:Int)]=0:=by
   rw[List.count_eq_zero];simp;omega
  omega
theorem Zqs {ms:List Int} {k:Nat} (v:Int) (h:k<ms.length):(ms.map AV.i).take k++[AV.i v]++(ms.map AV.i).drop (k+1)=(ms.set k v).map AV.i:=by
 rw[List.set_eq_take_append_cons_drop,if_pos h]
 simp
theorem Zp1:∀n:Nat,(List.replicate n [AV.sc (.int .i64 0)]).flatten=(List.replicate n (0:Int)).map AV.i
 | 0=>rfl
 | n+1=>by rw[List.replicate_succ,List.flatten_cons,Zp1 n,List.replicate_succ];rfl
def kids (x:Shp) (l:List Nod):List Int:=l.flatMap fun n=>if lastB x n.dim=true then [] else (each n).map Cel.child
theorem Zpd {x:Shp} {l:List Nod} {k:Nat} (h:k<l.length):kids x (l.take (k+1))=kids x (l.take k)++(if lastB x l[k].dim=true then [] else (each l[k]).map Cel.child):=by
 unfold kids
 rw[zaq h,List.flatMap_append]
 simp
theorem ZpT (x:Shp):∀(l:List Nod),(∀n∈l,(each n).length<=1000000)->(kids x l).length<=l.length * 1000000
 | [],_=>by simp[kids]
 | n :: l,h=>by
  have h1:=h n zah
  have h2:=ZpT x l fun m hm=>h m (zae _ hm)
  unfold kids at h2 ⊢
  rw[zbz,zak,List.length_cons]
  split<;>simp only[List.length_nil,zaa]<;>omega
def Zlb (x:Shp) (l:List Nod):Bool:=if l.length=0 then true else (Zdw l ((l.length:Int) - 1)).dim == 0&&!(((cnt l.length (kids x l)).take (l.length - 1)).contains 0)
theorem ZpY {n:Nod} (h:Zdb n):(each n).length<=1000000:=by
 have:=h.2.1
 unfold each;rw[zak];simp only[List.length_cons,List.length_nil];omega
set_option maxHeartbeats 4000000 in
theorem ZpM {H:Zaa} {id:Nat} {x:Shp} {l:List Nod} (ha:ArA H id x l) (hx:1<=x.sizes.length) (hx2:x.sizes.length<=1000) (hl:l.length<=200000) (hn:∀n∈l,Zdb n) (hch:∀n∈l,lastB x n.dim=false->∀c∈each n,0<=c.child/\c.child<l.length):Zay Tryz.prog 19 [.ptr id 0] H (Pure H (.b (Zlb x l))):=by
 have ha0:=ha
 obtain⟨tok,nt,most,h⟩:=ha
 refine Zak hE cf19 (zac rfl) fun Q qr qn=>?_
 have hid:=Zaa.lt h
 ((try simp(disch:=first|assumption|omega|simp only[nx]<;>omega|fail)only[↓YA,YB,YC,YZ,YF,sevalprocAttr,qr,qn,ZnE]);repeat' ((first|apply Zad|apply Zac|apply Zab)<;>intro hd<;>(try simp only[hd])<;>(try simp(disch:=first|assumption|omega|simp only[nx]<;>omega|fail)only[↓YA,YB,YC,YZ,YF,sevalprocAttr,qr,qn,hd,ZnE])))
 refine Zap.use (Zeu h hx) ?_
 rintro r H1 ⟨rfl,hx1⟩
 have hc:=hx1.get _ _ h
 have hx1n:=hx1.next
 unfold Zk5 eAr at hc
 by_cases hz:l.length=0
 ·have d0:((l.length:Int) == 0)=true:=by simp[hz]
  have hT:Zlb x l=true:=by unfold Zlb;rw[if_pos hz]
  ((try simp(disch:=first|assumption|omega|simp only[nx]<;>omega|fail)only[↓YA,YB,YC,YZ,YF,sevalprocAttr,qr,qn,ZnE,hc,d0,zaa]);repeat' ((first|apply Zad|apply Zac|apply Zab)<;>intro hd<;>(try simp only[hd])<;>(try simp(disch:=first|assumption|omega|simp only[nx]<;>omega|fail)only[↓YA,YB,YC,YZ,YF,sevalprocAttr,qr,qn,hd,ZnE,hc,d0,zaa])))
  rw[hT]
  exact ZdI hx1 rfl
 ·have d0:((l.length:Int) == 0)=false:=by rw[beq_eq_false_iff_ne];omega
  have m1:(0:Int)<=l.length:=by omega
  have m2:(l.length:Int)<=l.length:=by omega
  have m3:l.length<=maxLen:=by unfold maxLen;omega
  have m4:l.length * 8<=140737488355328:=by omega
  have m5:((l.length:Int)=0)=False:=eq_false (by omega)
  ((try simp(disch:=first|assumption|omega|simp only[nx]<;>omega|fail)only[↓YA,YB,YC,YZ,YF,sevalprocAttr,qr,qn,ZnE,hc,d0,m1,m2,m3,m4,m5,zaa]);repeat' ((first|apply Zad|apply Zac|apply Zab)<;>intro hd<;>(try simp only[hd])<;>(try simp(disch:=first|assumption|omega|simp only[nx]<;>omega|fail)only[↓YA,YB,YC,YZ,YF,sevalprocAttr,qr,qn,hd,ZnE,hc,d0,m1,m2,m3,m4,m5,zaa])))
  have hrep:(List.replicate l.length [AV.sc (.int .i64 0)]).flatten=(cnt l.length (kids x (l.take 0))).map AV.i:=by
   have:kids x (l.take 0)=[]:=by simp[kids]
   rw[this,cnt_nil,Zp1]
  rw[hrep]
  refine ZbJ (N:=l.length) (fun k F G=>Fr.get F 28=.i (k:Int)/\Fr.get F 27=.i (l.length:Int)/\Fr.get F 26=.sl nt (rN l)/\Fr.get F 3=.arr H1.next 0 l.length l.length/\Fr.get F 0=.ptr id 0/\Zaa.Ext H G/\G.get H1.next=some (.cells ((cnt l.length (kids x (l.take k))).map AV.i) 3)) m3 (fun k F G h=>⟨h.1,h.2.1⟩) (GStep.refl _ _) ?_ ?_ ?_
  ·exact⟨rfl,rfl,rfl,rfl,rfl,hx1.alloc,Zaa.Zae (H:=H1)⟩
  ·rintro k F G hk ⟨f28,f27,f26,f3,f0,hxG,hg⟩
   have hr:=ZoM hk
   have h0:(0:Int)<=k:=by omega
   have hgl:=Zaa.lt hg
   have hxn:=hxG.next
   have hs:=hn _ (zam hk)
   have hcG:=hxG.get _ _ h
   have hcl:=Zaa.lt hcG
   have hr0:=hr
   unfold ZbD at hr
   unfold Zk5 eAr at hcG
   ((try simp(disch:=first|assumption|omega|simp only[nx]<;>omega|fail)only[↓YA,YB,YC,YZ,YF,sevalprocAttr,qr,qn,ZnE,f28,f26,f3,f0,hr,h0,hcG]);repeat' ((first|apply Zad|apply Zac|apply Zab)<;>intro hd<;>(try simp only[hd])<;>(try simp(disch:=first|assumption|omega|simp only[nx]<;>omega|fail)only[↓YA,YB,YC,YZ,YF,sevalprocAttr,qr,qn,hd,ZnE,f28,f26,f3,f0,hr,h0,hcG])))
   refine Zap.use (Zgq tok x l[k].dim _ (by omega)) ?_
   rintro r H2 ⟨rfl,k2,rfl⟩
   cases hb:lastB x l[k].dim with
   | true =>
    have hkk:kids x (l.take (k+1))=kids x (l.take k):=by rw[Zpd hk,if_pos hb,zaw]
    ((try simp(disch:=first|assumption|omega|simp only[nx]<;>omega|fail)only[↓YA,YB,YC,YZ,YF,sevalprocAttr,qr,qn,ZnE,hb,f28,f27,f26,f3,f0,hg,hkk]);repeat' ((first|apply Zad|apply Zac|apply Zab)<;>intro hd<;>(try simp only[hd])<;>(try simp(disch:=first|assumption|omega|simp only[nx]<;>omega|fail)only[↓YA,YB,YC,YZ,YF,sevalprocAttr,qr,qn,hd,ZnE,hb,f28,f27,f26,f3,f0,hg,hkk])))
    (repeat (first|assumption|exact Zaa.Ext.refl _|refine Zaa.Ext.set ?_ (by first|assumption|omega|(simp only[Zaf,Zai,Zam];omega))|refine Zaa.Ext.alloc ?_|refine Zaa.Ext.bump ?_))
   | false =>
    have hkk:kids x (l.take (k+1))=kids x (l.take k)++(each l[k]).map Cel.child:=by rw[Zpd hk,hb,if_neg (by simp)]
    have hchk:=hch _ (zam hk) hb
    have hel:=ZpY hs
    ((try simp(disch:=first|assumption|omega|simp only[nx]<;>omega|fail)only[↓YA,YB,YC,YZ,YF,sevalprocAttr,qr,qn,ZnE,hb]);repeat' ((first|apply Zad|apply Zac|apply Zab)<;>intro hd<;>(try simp only[hd])<;>(try simp(disch:=first|assumption|omega|simp only[nx]<;>omega|fail)only[↓YA,YB,YC,YZ,YF,sevalprocAttr,qr,qn,hd,ZnE,hb])))
    refine Zap.use (ZkK .no l[k] _ hs.1 (by have:=hs.2.1;omega)) ?_
    rintro r H2 ⟨rfl,k3,rfl⟩
    ((try simp(disch:=first|assumption|omega|simp only[nx]<;>omega|fail)only[↓YA,YB,YC,YZ,YF,sevalprocAttr,qr,qn,zaa]);repeat' ((first|apply Zad|apply Zac|apply Zab)<;>intro hd<;>(try simp only[hd])<;>(try simp(disch:=first|assumption|omega|simp only[nx]<;>omega|fail)only[↓YA,YB,YC,YZ,YF,sevalprocAttr,qr,qn,hd,zaa])))
    have hkl:=ZpT x (l.take k) fun n hm=>ZpY (hn n (za8 hm))
    rw[zbd]at hkl
    generalize each l[k]=es at *
    generalize hK:kids x (l.take k)=K0 at *
    refine ZbJ (N:=es.length) (fun j F G=>Fr.get F 42=.i (j:Int)/\Fr.get F 41=.i (es.length:Int)/\Fr.get F 40=.sl .no (rC es)/\Fr.get F 28=.i (k:Int)/\Fr.get F 27=.i (l.length:Int)/\Fr.get F 26=.sl nt (rN l)/\Fr.get F 3=.arr H1.next 0 l.length l.length/\Fr.get F 0=.ptr id 0/\Zaa.Ext H G/\G.get H1.next=some (.cells ((cnt l.length (K0++(es.take j).map Cel.child)).map AV.i) 3)) (by unfold maxLen;omega) (fun k F G h=>⟨h.1,h.2.1⟩) (GStep.refl _ _) ?_ ?_ ?_
    ·refine⟨rfl,rfl,rfl,f28,f27,f26,f3,f0,?_,?_⟩
     ·(repeat (first|assumption|exact Zaa.Ext.refl _|refine Zaa.Ext.set ?_ (by first|assumption|omega|(simp only[Zaf,Zai,Zam];omega))|refine Zaa.Ext.alloc ?_|refine Zaa.Ext.bump ?_))
     ·simp only[Zaa.ZaB]
      rw[Zaa.Zah (by omega),Zaa.Zag (by omega),hg]
      simp
    ·rintro j F G hj ⟨f42,f41,f40,f28,f27,f26,f3,f0,hxG,hg⟩
     have hgl:=Zaa.lt hg
     have hxn:=hxG.next
     have hrj:=ZlA hj
     have h0j:(0:Int)<=j:=by omega
     obtain⟨c0,c1⟩:=hchk _ (zam hj)
     obtain⟨d,hdc⟩:∃d:Nat,es[j].child=d:=⟨es[j].child.toNat,by omega⟩
     rw[hdc]at c0 c1
     have hdl:d<l.length:=by omega
     have hcl:(K0++(es.take j).map Cel.child).count (d:Int)<=300000000000:=by
      refine zaQ List.count_le_length ?_
      rw[zak,zaa,zbd]
      omega
     have hsn:K0++(es.take j).map Cel.child++[(d:Int)]=K0++(es.take (j+1)).map Cel.child:=by
      rw[zaq hj,za9,zaP]
      simp[hdc]
     generalize K0++(es.take j).map Cel.child=K at *
     have hlen:(cnt l.length K).length=l.length:=ZlV _ _
     have hget:((cnt l.length K).map AV.i)[d]?=some (AV.i (K.count (d:Int):Int)):=by
      rw[zaR,zab (by omega)]
      simp only[Option.map_some]
      rw[ZqA hdl]
     have hst:=Zqs (ms:=cnt l.length K) ((K.count (d:Int):Int)+1) (by omega:d<_)
     rw[cnt_snoc hdl,hsn]at hst
     have hml:d+1<=(cnt l.length K).length:=by omega
     unfold ZbE at hrj
     ((try simp(disch:=first|assumption|omega|simp only[nx]<;>omega|fail)only[↓YA,YB,YC,YZ,YF,sevalprocAttr,qr,qn,ZnE,f42,f41,f40,f28,f27,f26,f3,f0,hrj,h0j,hdc,c0,c1,hg,hget,hml]);repeat' ((first|apply Zad|apply Zac|apply Zab)<;>intro hd<;>(try simp only[hd])<;>(try simp(disch:=first|assumption|omega|simp only[nx]<;>omega|fail)only[↓YA,YB,YC,YZ,YF,sevalprocAttr,qr,qn,hd,ZnE,f42,f41,f40,f28,f27,f26,f3,f0,hrj,h0j,hdc,c0,c1,hg,hget,hml])))
     refine⟨?_,by rw[hst]⟩
     (repeat (first|assumption|exact Zaa.Ext.refl _|refine Zaa.Ext.set ?_ (by first|assumption|omega|(simp only[Zaf,Zai,Zam];omega))|refine Zaa.Ext.alloc ?_|refine Zaa.Ext.bump ?_))
    ·rintro F G ⟨f42,f41,f40,f28,f27,f26,f3,f0,hxG,hg⟩
     rw[zaN,← hkk]at hg
     ((try simp(disch:=first|assumption|omega|simp only[nx]<;>omega|fail)only[↓YA,YB,YC,YZ,YF,sevalprocAttr,qr,qn,f28,f27,f26,f3,f0]);repeat' ((first|apply Zad|apply Zac|apply Zab)<;>intro hd<;>(try simp only[hd])<;>(try simp(disch:=first|assumption|omega|simp only[nx]<;>omega|fail)only[↓YA,YB,YC,YZ,YF,sevalprocAttr,qr,qn,hd,f28,f27,f26,f3,f0])))
     exact⟨hxG,hg⟩
  ·rintro F G ⟨f28,f27,f26,f3,f0,hxG,hg⟩
   rw[zaN]at hg
   have hcG:=hxG.get _ _ h
   have haG:ArA G id x l:=⟨tok,nt,most,hcG⟩
   unfold Zk5 eAr at hcG
   have hn1:l.length - 1<l.length:=by omega
   have hr:=ZoM hn1
   have h0:(0:Int)<=(l.length:Int) - 1:=by omega
   have hti:((l.length:Int) - 1).toNat=l.length - 1:=by omega
   unfold ZbD at hr
   have hT:Zlb x l=(l[l.length - 1].dim == 0&&!(((cnt l.length (kids x l)).take (l.length - 1)).contains 0)):=by
    unfold Zlb
    rw[if_neg hz]
    congr 2
    unfold Zdw
    rw[if_pos h0,hti,zab hn1]
    rfl
   rw[hT]at qr qn
   ((try simp(disch:=first|assumption|omega|simp only[nx]<;>omega|fail)only[↓YA,YB,YC,YZ,YF,sevalprocAttr,qr,qn,ZnE,f0,hcG]);repeat' ((first|apply Zad|apply Zac|apply Zab)<;>intro hd<;>(try simp only[hd])<;>(try simp(disch:=first|assumption|omega|simp only[nx]<;>omega|fail)only[↓YA,YB,YC,YZ,YF,sevalprocAttr,qr,qn,hd,ZnE,f0,hcG])))
   refine Zap.use (Ziu haG hx (by omega)) ?_
   rintro r H2 ⟨rfl,hx2⟩
   have hc2:=hx2.get _ _ hcG
   refine⟨ZdV rfl rfl (by simp(disch:=first|assumption|omega|simp only[nx]<;>omega|fail)only[↓YA,YB,YC,YZ,YF,sevalprocAttr,hc2]),?_⟩
   cases hdz:(l[l.length - 1].dim == 0)with
   | false =>
    rw[hdz,Bool.false_and]at qr qn
    ((try simp(disch:=first|assumption|omega|simp only[nx]<;>omega|fail)only[↓YA,YB,YC,YZ,YF,sevalprocAttr,qr,qn,hc2,hr,h0,hti,hdz]);repeat' ((first|apply Zad|apply Zac|apply Zab)<;>intro hd<;>(try simp only[hd])<;>(try simp(disch:=first|assumption|omega|simp only[nx]<;>omega|fail)only[↓YA,YB,YC,YZ,YF,sevalprocAttr,qr,qn,hd,hc2,hr,h0,hti,hdz])))
    exact ZdI (hxG.trans hx2) rfl
   | true =>
    rw[hdz,za2]at qr qn
    ((try simp(disch:=first|assumption|omega|simp only[nx]<;>omega|fail)only[↓YA,YB,YC,YZ,YF,sevalprocAttr,qr,qn,hc2,hr,h0,hti,hdz,f0]);repeat' ((first|apply Zad|apply Zac|apply Zab)<;>intro hd<;>(try simp only[hd])<;>(try simp(disch:=first|assumption|omega|simp only[nx]<;>omega|fail)only[↓YA,YB,YC,YZ,YF,sevalprocAttr,qr,qn,hd,hc2,hr,h0,hti,hdz,f0])))
    refine Zap.use (Ziu (haG.ext hx2) hx (by omega)) ?_
    rintro r H3 ⟨rfl,hx3⟩
    have hx23:=hx2.trans hx3
    have hg3:=hx23.get _ _ hg
    have b1:l.length - 1<=l.length:=by omega
    have b2:(l.length=0)=False:=eq_false hz
    have b3:0<=l.length - 1:=by omega
    ((try simp(disch:=first|assumption|omega|simp only[nx]<;>omega|fail)only[↓YA,YB,YC,YZ,YF,sevalprocAttr,qr,qn,f3,Zdi,h0,hti,b1,b2,b3,Nat.sub_zero,zbm,zaf]);repeat' ((first|apply Zad|apply Zac|apply Zab)<;>intro hd<;>(try simp only[hd])<;>(try simp(disch:=first|assumption|omega|simp only[nx]<;>omega|fail)only[↓YA,YB,YC,YZ,YF,sevalprocAttr,qr,qn,hd,f3,Zdi,h0,hti,b1,b2,b3,Nat.sub_zero,zbm,zaf])))
    refine Zap.use (ZpJ (l.length - 1) 0 hg3 (by rw[ZlV];omega) (by omega)) ?_
    rintro r H4 ⟨hx4,i,rfl,hi⟩
    ((try simp(disch:=first|assumption|omega|simp only[nx]<;>omega|fail)only[↓YA,YB,YC,YZ,YF,sevalprocAttr,qr,qn]);repeat' ((first|apply Zad|apply Zac|apply Zab)<;>intro hd<;>(try simp only[hd])<;>(try simp(disch:=first|assumption|omega|simp only[nx]<;>omega|fail)only[↓YA,YB,YC,YZ,YF,sevalprocAttr,qr,qn,hd])))
    rw[hi]
    exact ZdI ((hxG.trans hx23).trans hx4) rfl
set_option maxHeartbeats 4000000 in
theorem Zjg (m : Int) (a : Ag) (H : Zaa) : Zay Tryz.prog 102 [.i m, .agg (eAg a)] H (Pure H (.b (Zbw m a))) := by
  refine Zak hE cf102 (zac rfl) fun Q qr qn => ?_
  have hx : Zaa.Ext H (H.alloc (.cells (eAg a) 54)) := (Zaa.Ext.refl H).alloc
  unfold eAg at hx ⊢
  ((try simp (disch := first | assumption | omega | simp only [nx] <;> omega | fail) only [↓YA, YB, YC, YZ, YF, sevalprocAttr, qr, qn, Zdc]); repeat' ((first | apply Zad | apply Zac | apply Zab) <;> intro hd <;> (try simp only [hd]) <;> (try simp (disch := first | assumption | omega | simp only [nx] <;> omega | fail) only [↓YA, YB, YC, YZ, YF, sevalprocAttr, qr, qn, hd, Zdc])))
  any_goals
    refine ZdI hx ?_
    unfold Zbw
    grind
  have h0 : 0 <= m := by grind
  have h1 : m <= 3 := by grind
  have h2 : 1 <= a.n := by grind
  rw [tail0 h0 h1 h2] at qr qn
  refine Zg1 (fun n F G => ∃ k : Nat, k <= 3 /\ n = 3 - k /\ Fr.get F 5 = .i (k : Int) /\ Fr.get F 0 = .i m /\ Fr.get F 3 = .ptr H.next 0 /\ Zaa.Ext H G /\ G.get H.next = some (.cells (eAg a) 54) /\ ZcQ 0 m a = ZcQ k m a) 3 (GStep.refl _ _) ⟨0, by omega, rfl, rfl, rfl, rfl, hx, Zaa.Zae (H := H), rfl⟩ ?_
  rintro n F G ⟨k, hk, rfl, f5, f0, f3, hxG, hg, ht⟩
  by_cases hk3 : k = 3
  · subst hk3
    replace f5 : Fr.get F 5 = .i 3 := f5
    have d : decide ((3 : Int) < 3) = false := by decide
    ((try simp (disch := first | assumption | omega | simp only [nx] <;> omega | fail) only [↓YA, YB, YC, YZ, YF, sevalprocAttr, qr, qn, Zdc, f5, d]); repeat' ((first | apply Zad | apply Zac | apply Zab) <;> intro hd <;> (try simp only [hd]) <;> (try simp (disch := first | assumption | omega | simp only [nx] <;> omega | fail) only [↓YA, YB, YC, YZ, YF, sevalprocAttr, qr, qn, hd, Zdc, f5, d])))
    ((try simp (disch := first | assumption | omega | simp only [nx] <;> omega | fail) only [↓YA, YB, YC, YZ, YF, sevalprocAttr, qr, qn, Zdc]); repeat' ((first | apply Zad | apply Zac | apply Zab) <;> intro hd <;> (try simp only [hd]) <;> (try simp (disch := first | assumption | omega | simp only [nx] <;> omega | fail) only [↓YA, YB, YC, YZ, YF, sevalprocAttr, qr, qn, hd, Zdc])))
    exact ZdI hxG (by rw [ht]; rfl)
  · have hk' : k < 3 := by omega
    rw [Zii hk'] at ht
    have hgl := Zaa.lt hg
    have hg0 := hg
    have hxn := hxG.next
    unfold eAg at hg
    obtain rfl | rfl | rfl : k = 0 ∨ k = 1 ∨ k = 2 := by omega
    · replace f5 : Fr.get F 5 = .i 0 := f5
      ((try simp (disch := first | assumption | omega | simp only [nx] <;> omega | fail) only [↓YA, YB, YC, YZ, YF, sevalprocAttr, qr, qn, Zdc, f5, f0, f3, hg, eAg, Int.cast_ofNat_Int, Int.reduceLE, Int.reduceLT, Int.reduceToNat, Nat.reduceMul, Int.reduceAdd, decide_true]); repeat' ((first | apply Zad | apply Zac | apply Zab) <;> intro hd <;> (try simp only [hd]) <;> (try simp (disch := first | assumption | omega | simp only [nx] <;> omega | fail) only [↓YA, YB, YC, YZ, YF, sevalprocAttr, qr, qn, hd, Zdc, f5, f0, f3, hg, eAg, Int.cast_ofNat_Int, Int.reduceLE, Int.reduceLT, Int.reduceToNat, Nat.reduceMul, Int.reduceAdd, decide_true])))
      all_goals first
        | (refine ZdI ?_ ?_
           · (repeat (first | assumption | exact Zaa.Ext.refl _ | refine Zaa.Ext.set ?_ (by first | assumption | omega | (simp only [Zaf, Zai, Zam]; omega)) | refine Zaa.Ext.alloc ?_ | refine Zaa.Ext.bump ?_))
           · rw [ht]; simp only [Zb2, Ag.prt]; grind)
        | (refine ⟨2, by omega, 1, by omega, rfl, rfl, ?_, ?_⟩
           · (repeat (first | assumption | exact Zaa.Ext.refl _ | refine Zaa.Ext.set ?_ (by first | assumption | omega | (simp only [Zaf, Zai, Zam]; omega)) | refine Zaa.Ext.alloc ?_ | refine Zaa.Ext.bump ?_))
           · rw [ht]; simp only [Zb2, Ag.prt]; grind)
    · replace f5 : Fr.get F 5 = .i 1 := f5
      ((try simp (disch := first | assumption | omega | simp only [nx] <;> omega | fail) only [↓YA, YB, YC, YZ, YF, sevalprocAttr, qr, qn, Zdc, f5, f0, f3, hg, eAg, Int.cast_ofNat_Int, Int.reduceLE, Int.reduceLT, Int.reduceToNat, Nat.reduceMul, Int.reduceAdd, decide_true]); repeat' ((first | apply Zad | apply Zac | apply Zab) <;> intro hd <;> (try simp only [hd]) <;> (try simp (disch := first | assumption | omega | simp only [nx] <;> omega | fail) only [↓YA, YB, YC, YZ, YF, sevalprocAttr, qr, qn, hd, Zdc, f5, f0, f3, hg, eAg, Int.cast_ofNat_Int, Int.reduceLE, Int.reduceLT, Int.reduceToNat, Nat.reduceMul, Int.reduceAdd, decide_true])))
      all_goals first
        | (refine ZdI ?_ ?_
           · (repeat (first | assumption | exact Zaa.Ext.refl _ | refine Zaa.Ext.set ?_ (by first | assumption | omega | (simp only [Zaf, Zai, Zam]; omega)) | refine Zaa.Ext.alloc ?_ | refine Zaa.Ext.bump ?_))
           · rw [ht]; simp only [Zb2, Ag.prt]; grind)
        | (refine ⟨1, by omega, 2, by omega, rfl, rfl, ?_, ?_⟩
           · (repeat (first | assumption | exact Zaa.Ext.refl _ | refine Zaa.Ext.set ?_ (by first | assumption | omega | (simp only [Zaf, Zai, Zam]; omega)) | refine Zaa.Ext.alloc ?_ | refine Zaa.Ext.bump ?_))
           · rw [ht]; simp only [Zb2, Ag.prt]; grind)
    · replace f5 : Fr.get F 5 = .i 2 := f5
      ((try simp (disch := first | assumption | omega | simp only [nx] <;> omega | fail) only [↓YA, YB, YC, YZ, YF, sevalprocAttr, qr, qn, Zdc, f5, f0, f3, hg, eAg, Int.cast_ofNat_Int, Int.reduceLE, Int.reduceLT, Int.reduceToNat, Nat.reduceMul, Int.reduceAdd, decide_true]); repeat' ((first | apply Zad | apply Zac | apply Zab) <;> intro hd <;> (try simp only [hd]) <;> (try simp (disch := first | assumption | omega | simp only [nx] <;> omega | fail) only [↓YA, YB, YC, YZ, YF, sevalprocAttr, qr, qn, hd, Zdc, f5, f0, f3, hg, eAg, Int.cast_ofNat_Int, Int.reduceLE, Int.reduceLT, Int.reduceToNat, Nat.reduceMul, Int.reduceAdd, decide_true])))
      all_goals first
        | (refine ZdI ?_ ?_
           · (repeat (first | assumption | exact Zaa.Ext.refl _ | refine Zaa.Ext.set ?_ (by first | assumption | omega | (simp only [Zaf, Zai, Zam]; omega)) | refine Zaa.Ext.alloc ?_ | refine Zaa.Ext.bump ?_))
           · rw [ht]; simp only [Zb2, Ag.prt]; grind)
        | (refine ⟨0, by omega, 3, by omega, rfl, rfl, ?_, ?_⟩
           · (repeat (first | assumption | exact Zaa.Ext.refl _ | refine Zaa.Ext.set ?_ (by first | assumption | omega | (simp only [Zaf, Zai, Zam]; omega)) | refine Zaa.Ext.alloc ?_ | refine Zaa.Ext.bump ?_))
           · rw [ht]; simp only [Zb2, Ag.prt]; grind)
def vAg (a:Ag):List Value:=[.int .i64 a.n,.int .i64 a.s0,.int .i64 a.l0,.int .i64 a.h0,.int .i64 a.s1,.int .i64 a.l1,.int .i64 a.h1,.int .i64 a.s2,.int .i64 a.l2,.int .i64 a.h2]
def vCel (c:Cel):List Value:=.int .i64 c.key :: .int .i64 c.child :: vAg c.agg
theorem Zl8 (a b:Ag):ZgE (vAg a) (vAg b)=decide (a=b):=by
 obtain⟨n,s0,l0,h0,s1,l1,h1,s2,l2,h2⟩:=a
 obtain⟨n',s0',l0',h0',s1',l1',h1',s2',l2',h2'⟩:=b
 rw[zbc]
 simp[vAg,ZgE,Zd4]
theorem vsEq_cel (a b:Cel):ZgE (vCel a) (vCel b)=decide (a=b):=by
 obtain⟨k,c,x⟩:=a
 obtain⟨k',c',y⟩:=b
 rw[zbc]
 simp[vCel,ZgE,Zd4,Zl8]
theorem stable_n {d:Nat} {op:AOp} {F:Fr} {H:Zaa}:AI.stable ⟨none,some d,op⟩ F H=(op.ev F H=some (Fr.get F d,H)):=by
 simp[AI.stable,AI.want]
theorem stable_g {s d:Nat} {t:Bool} {op:AOp} {F:Fr} {H:Zaa}:AI.stable ⟨some (s,t),some d,op⟩ F H=@GdK (Fr.get F s) t ⟨op.ev F H=some (Fr.get F d,H)⟩ ⟨fun _ _=>True⟩:=by
 simp only[AI.stable,AI.want,GdK]
 cases Fr.get F s with
 | sc v =>
  cases v with
  | bool c=>cases c<;>cases t<;>simp
  | _=>rfl
 | _=>rfl
theorem ZiY {F:Fr} {H:Zaa}:(∀r∈([]:List AI),r.stable F H)=True:=by simp
theorem ZhH {F:Fr} {H:Zaa} {a:AI} {l:List AI}:(∀r∈a :: l,r.stable F H)=(a.stable F H/\∀r∈l,r.stable F H):=by simp
theorem ZhK (l:List UInt8):(⟨l.toArray⟩:ByteArray).toList=l:=by rw[ByteArray.toList_eq]
theorem beq_dec (a b:List UInt8):(a == b)=decide (a=b):=by rw[zbc];simp
theorem YE:(∀{α β:Type} {f:α->β} {l:List α} {i:Nat},(l.map f)[i]?=(l[i]?).map f)/\(∀{α:Type} {l:List α} {i:Nat} (h:i<l.length),l[i]?=some l[i]) /\
  (∀{a:Ag},(eAg a).length=10)/\(∀{c:Cel},(ZbE c).length=12)/\(∀{t:Tok} {n:Nod},(ZbD t n).length=14)/\(∀{x:Shp},(Zc3 x).length=2) /\
  (∀{a:Ag},(eAg a).take 10=eAg a)/\(∀{c:Cel},(ZbE c).take 12=ZbE c)/\(∀{t:Tok} {n:Nod},(ZbD t n).take 14=ZbD t n)/\(∀{x:Shp},(Zc3 x).take 2=Zc3 x) /\
  (∀{c:Cel},(ZbE c)[0]?=some (.i c.key))/\(∀{c:Cel},(ZbE c)[1]?=some (.i c.child))/\(∀{c:Cel},((ZbE c).drop 2).take 10=eAg c.agg)/\(∀{a:Ag},(eAg a)[0]?=some (.i a.n)) /\
  (∀{t:Tok} {n:Nod},(ZbD t n)[0]?=some (.i n.dim))/\(∀{t:Tok} {n:Nod},(ZbD t n)[1]?=some (.sl t (rL n.lists)))/\(∀{t:Tok} {n:Nod},(ZbD t n)[2]?=some (.i n.all.key))/\(∀{t:Tok} {n:Nod},(ZbD t n)[3]?=some (.i n.all.child)) /\
  (∀{t:Tok} {n:Nod},((ZbD t n).drop 2).take 12=ZbE n.all)/\(∀{t:Tok} {n:Nod},((ZbD t n).drop 4).take 10=eAg n.all.agg)/\(∀{x:Shp},(Zc3 x)[0]?=some (.sl .no (rII x.sizes)))/\(∀{x:Shp},(Zc3 x)[1]?=some (.i x.measures)) /\
  (∀{a:Ag},scs [.int .i64,.int .i64,.int .i64,.int .i64,.int .i64,.int .i64,.int .i64,.int .i64,.int .i64,.int .i64] (eAg a)=some (vAg a)) /\
  (∀{c:Cel},scs [.int .i64,.int .i64,.int .i64,.int .i64,.int .i64,.int .i64,.int .i64,.int .i64,.int .i64,.int .i64,.int .i64,.int .i64] (ZbE c)=some (vCel c)) /\
  (∀{a b:Ag},ZgE (vAg a) (vAg b)=decide (a=b))/\(∀{a b:Cel},ZgE (vCel a) (vCel b)=decide (a=b))/\(∀{n:Nat},(0<=(n:Int))=True)/\(∀{H:Zaa} {i:Nat} {o o':Zb3},i=H.next->(H.alloc o).set i o'=H.alloc o') /\
  (∀{d op F H},AI.stable ⟨none,some d,op⟩ F H=(op.ev F H=some (Fr.get F d,H)))/\(∀{s d t op F H},AI.stable ⟨some (s,t),some d,op⟩ F H=@GdK (Fr.get F s) t ⟨op.ev F H=some (Fr.get F d,H)⟩ ⟨fun _ _=>True⟩) /\
  (∀{F:Fr} {H:Zaa},(∀r∈([]:List AI),r.stable F H)=True)/\(∀{F:Fr} {H:Zaa} {a:AI} {l:List AI},(∀r∈a :: l,r.stable F H)=(a.stable F H/\∀r∈l,r.stable F H)) /\
  (∀{l:List UInt8},(⟨l.toArray⟩:ByteArray).toList=l)/\(∀{a b:List UInt8},Op.bytesLess a b=decide (a<b))/\(∀{a b:List UInt8},(a == b)=decide (a=b))/\(∀{l:List UInt8},(⟨l.toArray⟩:ByteArray).size=l.length) :=
 ⟨zaR,zab,rfl,rfl,rfl,rfl,rfl,rfl,rfl,rfl,rfl,rfl,rfl,rfl,rfl,rfl,rfl,rfl,rfl,rfl,rfl,rfl,rfl,rfl,Zl8 _ _,vsEq_cel _ _,by simp,ZaM,stable_n,stable_g,ZiY,ZhH,ZhK _,bytesLess_eq _ _,beq_dec _ _,rfl⟩
set_option linter.defProp false in
def YY:=And.intro YB <| And.intro YC <| And.intro YE <| And.intro YF YZ
section
variable {K V:Type} [DecidableEq K] {kf:K->Value} {vf:V->AV}
def Zcz (k:K):List (K×V)->Option V
 | []=>none
 | (k',v) :: M=>if k=k' then some v else Zcz k M
def ZbU (k:K) (v:V):List (K×V)->List (K×V)
 | []=>[(k,v)]
 | (k',u) :: M=>if k=k' then (k,v) :: M else (k',u) :: ZbU k v M
def Zgf (kf:K->Value) (vf:V->AV) (M:List (K×V)):List (Value×AV):=M.map fun p=>(kf p.1,vf p.2)
theorem ZbV (hk:∀a b,kEq (kf a) (kf b)=decide (a=b)) (k:K):∀M:List (K×V),ZdG (kf k) (Zgf kf vf M)=(Zcz k M).map vf
 | []=>rfl
 | (k',v) :: M=>by
  have ih:=ZbV hk k M
  unfold Zgf at ih ⊢
  simp only[zao,ZdG,hk,Zcz]
  by_cases h:k=k'<;>simp[h,ih]
theorem ZcH (hk:∀a b,kEq (kf a) (kf b)=decide (a=b)) (k:K) (v:V):∀M:List (K×V),Ziw (kf k) (vf v) (Zgf kf vf M)=Zgf kf vf (ZbU k v M)
 | []=>rfl
 | (k',u) :: M=>by
  have ih:=ZcH hk k v M
  unfold Zgf at ih ⊢
  simp only[zao,Ziw,hk,ZbU]
  by_cases h:k=k'<;>simp[h,ih]
theorem Zeg (k j:K) (v:V):∀M:List (K×V),Zcz j (ZbU k v M)=if j=k then some v else Zcz j M
 | []=>by simp[ZbU,Zcz]
 | (k',u) :: M=>by
  have ih:=Zeg k j v M
  unfold ZbU
  by_cases h:k=k'
  ·subst h
   rw[if_pos rfl]
   simp only[Zcz]
   by_cases h2:j=k<;>simp[h2]
  ·rw[if_neg h]
   simp only[Zcz,ih]
   by_cases h2:j=k
   ·subst h2;simp[h]
   ·simp[h2]
theorem ZdP (k:K) (v:V) (M:List (K×V)):Zcz k (ZbU k v M)=some v:=by rw[Zeg,if_pos rfl]
theorem ZjW (k:K) (v:V):∀M:List (K×V),(ZbU k v M).length=if (Zcz k M).isSome then M.length else M.length+1
 | []=>by simp[ZbU,Zcz]
 | (k',u) :: M=>by
  have ih:=ZjW k v M
  unfold ZbU Zcz
  by_cases h:k=k'
  ·simp[h]
  ·simp only[h,if_false,List.length_cons,ih]
   split<;>omega
end
def kI (n:Int):Value:=.int .i64 n
def k2 (p:Int×Int):Value:=.agg #[.int .i64 p.1,.int .i64 p.2]
theorem ZkH (a b:Int):kEq (kI a) (kI b)=decide (a=b):=Zd4 a b
theorem k2_eq (a b:Int×Int):kEq (k2 a) (k2 b)=decide (a=b):=by
 obtain⟨x,y⟩:=a
 obtain⟨x',y'⟩:=b
 rw[zbc]
 simp[k2,kEq,ZgE,Zd4]
theorem k2_of (a b:Int):KK.of (.row [.int .i64,.int .i64]) (.agg [.i a,.i b])=some (k2 (a,b)):=rfl
theorem kI_of (a:Int):KK.of (.one (.int .i64)) (.i a)=some (kI a):=rfl
section
variable {w:World} {F:Nat->Prop}
theorem Zhx {s:Sh} {α:Type} {f:α->List AV} (he:∀cs x,s.Is w F cs x->∃a,s.enc x=f a) {cs:List Value} {x:(Sh.slice s).D} (h:(Sh.slice s).Is w F cs x):∃l:List α,l.length<=maxLen/\(Sh.slice s).enc x=[.sl .no (l.map f)]:=by
 obtain⟨A,c,css,_,h1,h2,h3,_,h5⟩:=h
 have:∀(l:List s.D),(∀x∈l,∃a,s.enc x=f a)->∃m:List α,m.length=l.length/\l.map s.enc=m.map f:=by
  intro l
  induction l with
  | nil=>intro _;exact⟨[],rfl,rfl⟩
  | cons y l ih =>
   intro hl
   obtain⟨a,ha⟩:=hl y zah
   obtain⟨m,hm,e⟩:=ih fun z hz=>hl z (zae _ hz)
   exact⟨a :: m,by simp[hm],by simp[ha,e]⟩
 obtain⟨m,hm,e⟩:=this x fun y hy=>by
  obtain⟨i,hi,rfl⟩:=zaA hy
  have hi2:i<css.length:=by rw[h3];exact hi
  exact he css[i] _ (h5 i _ _ (zab hi2) (zab hi))
 refine⟨m,by rw[hm];exact zaQ h1 h2,?_⟩
 show[AV.sl .no (List.map s.enc x)]=_
 rw[e]
end
section
variable {W:World}
end
end Go.Proofs.YtaapiigfmdhobaaGreat
