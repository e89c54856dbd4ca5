/- Texts of the walk, joined: Ta Tb Tc Td Te Tf Ye Ym Av. -/
import Derived.Test.YtaapiigfmdhobaaGreatMh
import Derived.Sort.Walk0
import Derived.Test.YtaapiigfmdhobaaGreatMd
import Derived.Test.YtaapiigfmdhobaaGreatMe
namespace Go.Proofs.YtaapiigfmdhobaaGreat
set_option linter.unusedSimpArgs false
set_option linter.unusedVariables false
open Go.RowKit
def ArA (H:AHeap) (id:Nat) (x:Shp) (l:List Nod):Prop:=∃ tok nt most,H.get id=some (.cells (eArN x tok nt l most) 117)
theorem ArA.ext {H H':AHeap} {id:Nat} {x:Shp} {l:List Nod} (h:ArA H id x l) (hx:AHeap.Ext H H'):ArA H' id x l:=by
 obtain ⟨tok,nt,most,h⟩:=h
 exact ⟨tok,nt,most,hx.get _ _ h⟩
theorem ArO.ara {H:AHeap} {id tk:Nat} {x:Shp} {tok:Tok} {l:List Nod} {most:Int} (h:ArO H id tk x tok l most):ArA H id x l:=⟨_,_,_,h.cell⟩
theorem len_sound {H:AHeap} {id:Nat} {x:Shp} {l:List Nod} (ha:ArA H id x l) (hx:1≤x.sizes.length):Sound Tryz.prog 42 [.ptr id 0] H (PureE H (.i l.length)):=by
 obtain ⟨tok,nt,most,h⟩:=ha
 refine fn_soundQ hE cf42 (Nat.le_of_ble_eq_true rfl) fun Q hQr hQn=>?_
 ((try simp (disch:=first|assumption|omega|(simp only [nx_alloc,nx_bump,nx_set]<;>omega)|fail) only [↓YA,YB,YC,YZ,YF,↓reduceIte,Nat.reduceEqDiff,Nat.reduceAdd,Nat.reduceMul,Nat.reduceLeDiff,hQr,hQn,c42_0]);repeat' ((first|apply GdK_st|apply GdK_sf|apply CondK_s)<;>intro hd<;>(try simp only [hd])<;>(try simp (disch:=first|assumption|omega|(simp only [nx_alloc,nx_bump,nx_set]<;>omega)|fail) only [↓YA,YB,YC,YZ,YF,↓reduceIte,Nat.reduceEqDiff,Nat.reduceAdd,Nat.reduceMul,Nat.reduceLeDiff,hQr,hQn,hd,c42_0])))
 refine CallK.use (there_yes h hx) ?_
 rintro r H1 ⟨rfl,hx1⟩
 have hc:=hx1.get _ _ h
 unfold eArN eAr at hc
 ((try simp (disch:=first|assumption|omega|(simp only [nx_alloc,nx_bump,nx_set]<;>omega)|fail) only [↓YA,YB,YC,YZ,YF,↓reduceIte,Nat.reduceEqDiff,Nat.reduceAdd,Nat.reduceMul,Nat.reduceLeDiff,hQr,hQn,c42_0,hc,List.length_map]);repeat' ((first|apply GdK_st|apply GdK_sf|apply CondK_s)<;>intro hd<;>(try simp only [hd])<;>(try simp (disch:=first|assumption|omega|(simp only [nx_alloc,nx_bump,nx_set]<;>omega)|fail) only [↓YA,YB,YC,YZ,YF,↓reduceIte,Nat.reduceEqDiff,Nat.reduceAdd,Nat.reduceMul,Nat.reduceLeDiff,hQr,hQn,hd,c42_0,hc,List.length_map])))
 exact fin_keep ⟨rfl,hx1⟩
theorem top_sound {H:AHeap} {id:Nat} {x:Shp} {l:List Nod} (ha:ArA H id x l) (hx:1≤x.sizes.length) (hl:l.length≤1000000000):Sound Tryz.prog 44 [.ptr id 0] H (PureE H (.i ((l.length:Int) - 1))):=by
 refine fn_soundQ hE cf44 (Nat.le_of_ble_eq_true rfl) fun Q hQr hQn=>?_
 ((try simp (disch:=first|assumption|omega|(simp only [nx_alloc,nx_bump,nx_set]<;>omega)|fail) only [↓YA,YB,YC,YZ,YF,↓reduceIte,Nat.reduceEqDiff,Nat.reduceAdd,Nat.reduceMul,Nat.reduceLeDiff,hQr,hQn,c44_0]);repeat' ((first|apply GdK_st|apply GdK_sf|apply CondK_s)<;>intro hd<;>(try simp only [hd])<;>(try simp (disch:=first|assumption|omega|(simp only [nx_alloc,nx_bump,nx_set]<;>omega)|fail) only [↓YA,YB,YC,YZ,YF,↓reduceIte,Nat.reduceEqDiff,Nat.reduceAdd,Nat.reduceMul,Nat.reduceLeDiff,hQr,hQn,hd,c44_0])))
 refine CallK.use (len_sound ha hx) ?_
 rintro r H1 ⟨rfl,hx1⟩
 ((try simp (disch:=first|assumption|omega|(simp only [nx_alloc,nx_bump,nx_set]<;>omega)|fail) only [↓YA,YB,YC,YZ,YF,↓reduceIte,Nat.reduceEqDiff,Nat.reduceAdd,Nat.reduceMul,Nat.reduceLeDiff,hQr,hQn]);repeat' ((first|apply GdK_st|apply GdK_sf|apply CondK_s)<;>intro hd<;>(try simp only [hd])<;>(try simp (disch:=first|assumption|omega|(simp only [nx_alloc,nx_bump,nx_set]<;>omega)|fail) only [↓YA,YB,YC,YZ,YF,↓reduceIte,Nat.reduceEqDiff,Nat.reduceAdd,Nat.reduceMul,Nat.reduceLeDiff,hQr,hQn,hd])))
 exact fin_keep ⟨rfl,hx1⟩
def nodAt (l:List Nod) (i:Int):Nod:=if 0≤i then (l[i.toNat]?).getD ⟨0,[],⟨0,0,⟨0,0,0,0,0,0,0,0,0,0⟩⟩⟩ else ⟨0,[],⟨0,0,⟨0,0,0,0,0,0,0,0,0,0⟩⟩⟩
set_option maxHeartbeats 1000000 in
theorem nodes_sound {H:AHeap} {id:Nat} {x:Shp} {l:List Nod} (ha:ArA H id x l) (hx:1≤x.sizes.length) (hl:l.length≤1000000) (hn:∀ n ∈ l,smallN n):Sound Tryz.prog 18 [.ptr id 0] H (Pure H (.sl .no (rN l))):=by
 obtain ⟨tok,nt,most,h⟩:=ha
 refine fn_soundQ hE cf18 (Nat.le_of_ble_eq_true rfl) fun Q hQr hQn=>?_
 ((try simp (disch:=first|assumption|omega|(simp only [nx_alloc,nx_bump,nx_set]<;>omega)|fail) only [↓YA,YB,YC,YZ,YF,↓reduceIte,Nat.reduceEqDiff,Nat.reduceAdd,Nat.reduceMul,Nat.reduceLeDiff,hQr,hQn,c18_0]);repeat' ((first|apply GdK_st|apply GdK_sf|apply CondK_s)<;>intro hd<;>(try simp only [hd])<;>(try simp (disch:=first|assumption|omega|(simp only [nx_alloc,nx_bump,nx_set]<;>omega)|fail) only [↓YA,YB,YC,YZ,YF,↓reduceIte,Nat.reduceEqDiff,Nat.reduceAdd,Nat.reduceMul,Nat.reduceLeDiff,hQr,hQn,hd,c18_0])))
 refine CallK.use (there_yes h hx) ?_
 rintro r H1 ⟨rfl,hx1⟩
 have hc:=hx1.get _ _ h
 have hx1n:=hx1.next
 unfold eArN eAr at hc
 ((try simp (disch:=first|assumption|omega|(simp only [nx_alloc,nx_bump,nx_set]<;>omega)|fail) only [↓YA,YB,YC,YZ,YF,↓reduceIte,Nat.reduceEqDiff,Nat.reduceAdd,Nat.reduceMul,Nat.reduceLeDiff,hQr,hQn,c18_0,hc,List.length_map]);repeat' ((first|apply GdK_st|apply GdK_sf|apply CondK_s)<;>intro hd<;>(try simp only [hd])<;>(try simp (disch:=first|assumption|omega|(simp only [nx_alloc,nx_bump,nx_set]<;>omega)|fail) only [↓YA,YB,YC,YZ,YF,↓reduceIte,Nat.reduceEqDiff,Nat.reduceAdd,Nat.reduceMul,Nat.reduceLeDiff,hQr,hQn,hd,c18_0,hc,List.length_map])))
 refine AW_forI (N:=l.length) (fun k F G=>Fr.get F 14=.i (k:Int)∧Fr.get F 13=.i (l.length:Int)∧Fr.get F 12=.sl nt (rN l)∧Fr.get F 3=.sl (.own H1.next) (rN (l.take k))∧AHeap.Ext H G∧G.get H1.next=some (.tok k 115 14)) (by unfold maxLen;omega) (fun k F G h=>⟨h.1,h.2.1⟩)
  (F1:=[(3,.sl (.own H1.next) []),(14,.i ((0:Nat):Int)),(13,.i (l.length:Int)),(12,.sl nt (rN l))]) (H1:=H1.alloc (.tok 0 115 14)) ?_ ?_ ?_ ?_
 ·exact (GStep.fr (F':=[(14,.i ((0:Nat):Int)),(13,.i (l.length:Int)),(12,.sl nt (rN l)),(3,.sl .full [])]) (by simp [Fr.get])).trans ((GStep.tok 3 115 14 rfl).trans (GStep.fr (by simp [Fr.get,Fr.put])))
 ·exact ⟨rfl,rfl,rfl,rfl,hx1.alloc,AHeap.get_alloc_self (H:=H1)⟩
 ·rintro k F G hk ⟨f14,f13,f12,f3,hxG,hg⟩
  have hr:=rN_get hk
  have h0:(0:Int)≤k:=by omega
  have hlk:(rN (l.take k)).length=k:=by simp;omega
  have hgl:=AHeap.lt hg
  have hgn:=hxG.next
  have hs:=hn _ (List.getElem_mem hk)
  unfold eNod at hr
  ((try simp (disch:=first|assumption|omega|(simp only [nx_alloc,nx_bump,nx_set]<;>omega)|fail) only [↓YA,YB,YC,YZ,YF,↓reduceIte,Nat.reduceEqDiff,Nat.reduceAdd,Nat.reduceMul,Nat.reduceLeDiff,hQr,hQn,c18_0,f14,f12,f3,hr,h0]);repeat' ((first|apply GdK_st|apply GdK_sf|apply CondK_s)<;>intro hd<;>(try simp only [hd])<;>(try simp (disch:=first|assumption|omega|(simp only [nx_alloc,nx_bump,nx_set]<;>omega)|fail) only [↓YA,YB,YC,YZ,YF,↓reduceIte,Nat.reduceEqDiff,Nat.reduceAdd,Nat.reduceMul,Nat.reduceLeDiff,hQr,hQn,hd,c18_0,f14,f12,f3,hr,h0])))
  refine CallK.use (nclone_sound .no l[k] _ ⟨hs.1,hs.2.2⟩) ?_
  rintro r H2 ⟨rfl,k2,rfl⟩
  have ha1:=allLen_rN (l.take k)
  have hb1:k+1≤maxLen:=by unfold maxLen;omega
  have hb2:(k+1) * 128≤140737488355328:=by omega
  have ho1:allLen 14 [eNod .no l[k]]=true:=rfl
  have hsn:rN (l.take k)++[eNod .no l[k]]=rN (l.take (k+1)):=by rw [rN_snoc,List.take_succ_eq_append_getElem hk]
  unfold eNod at ho1
  conv at hsn=>lhs;rhs;unfold eNod
  ((try simp (disch:=first|assumption|omega|(simp only [nx_alloc,nx_bump,nx_set]<;>omega)|fail) only [↓YA,YB,YC,YZ,YF,↓reduceIte,Nat.reduceEqDiff,Nat.reduceAdd,Nat.reduceMul,Nat.reduceLeDiff,hQr,hQn,eNod,f14,f13,f12,f3,hg,hlk,ha1,hb1,hb2,ho1]);repeat' ((first|apply GdK_st|apply GdK_sf|apply CondK_s)<;>intro hd<;>(try simp only [hd])<;>(try simp (disch:=first|assumption|omega|(simp only [nx_alloc,nx_bump,nx_set]<;>omega)|fail) only [↓YA,YB,YC,YZ,YF,↓reduceIte,Nat.reduceEqDiff,Nat.reduceAdd,Nat.reduceMul,Nat.reduceLeDiff,hQr,hQn,hd,eNod,f14,f13,f12,f3,hg,hlk,ha1,hb1,hb2,ho1])))
  rw [hsn]
  refine ⟨rfl,?_⟩
  (repeat (first|assumption|exact AHeap.Ext.refl _|refine AHeap.Ext.set ?_ (by first|assumption|omega|(simp only [nx_alloc,nx_bump,nx_set];omega))|refine AHeap.Ext.alloc ?_|refine AHeap.Ext.bump ?_))
 ·rintro F G ⟨f14,f13,f12,f3,hxG,hg⟩
  rw [List.take_length] at f3
  ((try simp (disch:=first|assumption|omega|(simp only [nx_alloc,nx_bump,nx_set]<;>omega)|fail) only [↓YA,YB,YC,YZ,YF,↓reduceIte,Nat.reduceEqDiff,Nat.reduceAdd,Nat.reduceMul,Nat.reduceLeDiff,hQr,hQn,c18_0,f3]);repeat' ((first|apply GdK_st|apply GdK_sf|apply CondK_s)<;>intro hd<;>(try simp only [hd])<;>(try simp (disch:=first|assumption|omega|(simp only [nx_alloc,nx_bump,nx_set]<;>omega)|fail) only [↓YA,YB,YC,YZ,YF,↓reduceIte,Nat.reduceEqDiff,Nat.reduceAdd,Nat.reduceMul,Nat.reduceLeDiff,hQr,hQn,hd,c18_0,f3])))
  exact fin_pure hxG rfl
theorem contains_step {l:List Int} {v:Int} {k:Nat} (h:k<l.length):(l.drop k).contains v=(v == l[k] || (l.drop (k+1)).contains v):=by
 rw [List.drop_eq_getElem_cons h,List.contains_cons]
set_option maxHeartbeats 1000000 in
theorem index_sound {H:AHeap} {id cap E:Nat} {ms:List Int} (n:Nat) (v:Int) (h:H.get id=some (.cells (ms.map AV.i) E)) (hn:n≤ms.length) (hb:n≤1000000000) :
  Sound Tryz.prog 64 [.arr id 0 n cap,.i v] H fun r H'=>AHeap.Ext H H'∧∃ i:Int,r=.i i∧decide (i<0)=!((ms.take n).contains v):=by
 refine fn_soundQ hE cf64 (Nat.le_of_ble_eq_true rfl) fun Q hQr hQn=>?_
 ((try simp (disch:=first|assumption|omega|(simp only [nx_alloc,nx_bump,nx_set]<;>omega)|fail) only [↓YA,YB,YC,YZ,YF,↓reduceIte,Nat.reduceEqDiff,Nat.reduceAdd,Nat.reduceMul,Nat.reduceLeDiff,hQr,hQn,c64_0]);repeat' ((first|apply GdK_st|apply GdK_sf|apply CondK_s)<;>intro hd<;>(try simp only [hd])<;>(try simp (disch:=first|assumption|omega|(simp only [nx_alloc,nx_bump,nx_set]<;>omega)|fail) only [↓YA,YB,YC,YZ,YF,↓reduceIte,Nat.reduceEqDiff,Nat.reduceAdd,Nat.reduceMul,Nat.reduceLeDiff,hQr,hQn,hd,c64_0])))
 have hln:(ms.take n).length=n:=by simp;omega
 refine AW_forI (N:=n) (fun k F G=>Fr.get F 8=.i (k:Int)∧Fr.get F 7=.i (n:Int)∧Fr.get F 0=.arr id 0 n cap∧Fr.get F 1=.i v∧G=H∧(ms.take n).contains v=((ms.take n).drop k).contains v) (by unfold maxLen;omega) (fun k F G h=>⟨h.1,h.2.1⟩) (GStep.refl _ _) ?_ ?_ ?_
 ·exact ⟨rfl,rfl,rfl,rfl,rfl,rfl⟩
 ·rintro k F G hk ⟨f8,f7,f0,f1,hGH,ht⟩
  have hk2:k<(ms.take n).length:=by omega
  rw [contains_step hk2] at ht
  have hget:(ms.take n)[k]=ms[k]'(by omega):=by simp
  rw [hget] at ht
  have h0:(0:Int)≤k:=by omega
  have h1:(k:Int)<n:=by omega
  have hr:(ms.map AV.i)[k]?=some (AV.i (ms[k]'(by omega))):=by simp [show k<ms.length by omega]
  rw [hGH]
  ((try simp (disch:=first|assumption|omega|(simp only [nx_alloc,nx_bump,nx_set]<;>omega)|fail) only [↓YA,YB,YC,YZ,YF,↓reduceIte,Nat.reduceEqDiff,Nat.reduceAdd,Nat.reduceMul,Nat.reduceLeDiff,hQr,hQn,c64_0,f8,f7,f0,f1,h,h0,h1,hr]);repeat' ((first|apply GdK_st|apply GdK_sf|apply CondK_s)<;>intro hd<;>(try simp only [hd])<;>(try simp (disch:=first|assumption|omega|(simp only [nx_alloc,nx_bump,nx_set]<;>omega)|fail) only [↓YA,YB,YC,YZ,YF,↓reduceIte,Nat.reduceEqDiff,Nat.reduceAdd,Nat.reduceMul,Nat.reduceLeDiff,hQr,hQn,hd,c64_0,f8,f7,f0,f1,h,h0,h1,hr])))
  ·have hc:(ms.take n).contains v=true:=by rw [ht,hd];rfl
   ((try simp (disch:=first|assumption|omega|(simp only [nx_alloc,nx_bump,nx_set]<;>omega)|fail) only [↓YA,YB,YC,YZ,YF,↓reduceIte,Nat.reduceEqDiff,Nat.reduceAdd,Nat.reduceMul,Nat.reduceLeDiff,hQr,hQn,c64_0]);repeat' ((first|apply GdK_st|apply GdK_sf|apply CondK_s)<;>intro hd<;>(try simp only [hd])<;>(try simp (disch:=first|assumption|omega|(simp only [nx_alloc,nx_bump,nx_set]<;>omega)|fail) only [↓YA,YB,YC,YZ,YF,↓reduceIte,Nat.reduceEqDiff,Nat.reduceAdd,Nat.reduceMul,Nat.reduceLeDiff,hQr,hQn,hd,c64_0])))
   refine fin_keep ⟨AHeap.Ext.refl _,_,rfl,?_⟩
   rw [hc];simp
  ·rw [hd,Bool.false_or] at ht
   exact ht
 ·rintro F G ⟨f8,f7,f0,f1,hGH,ht⟩
  rw [hGH]
  rw [List.drop_of_length_le (by omega)] at ht
  ((try simp (disch:=first|assumption|omega|(simp only [nx_alloc,nx_bump,nx_set]<;>omega)|fail) only [↓YA,YB,YC,YZ,YF,↓reduceIte,Nat.reduceEqDiff,Nat.reduceAdd,Nat.reduceMul,Nat.reduceLeDiff,hQr,hQn,c64_0]);repeat' ((first|apply GdK_st|apply GdK_sf|apply CondK_s)<;>intro hd<;>(try simp only [hd])<;>(try simp (disch:=first|assumption|omega|(simp only [nx_alloc,nx_bump,nx_set]<;>omega)|fail) only [↓YA,YB,YC,YZ,YF,↓reduceIte,Nat.reduceEqDiff,Nat.reduceAdd,Nat.reduceMul,Nat.reduceLeDiff,hQr,hQn,hd,c64_0])))
  refine fin_keep ⟨AHeap.Ext.refl _,_,rfl,?_⟩
  rw [ht];rfl
def cnt (n:Nat) (chs:List Int):List Int:=(List.range n).map fun (i:Nat)=>(chs.count (i:Int):Int)
theorem cnt_len (n:Nat) (chs:List Int):(cnt n chs).length=n:=by simp [cnt]
theorem cnt_get {n:Nat} {chs:List Int} {k:Nat} (h:k<n):(cnt n chs)[k]'(by rw [cnt_len];exact h)=(chs.count (k:Int):Int):=by simp [cnt]
theorem cnt_nil (n:Nat):cnt n []=List.replicate n 0:=by
 refine List.ext_getElem (by simp [cnt]) fun i h1 h2=>?_
 simp [cnt]
theorem cnt_snoc {n:Nat} {chs:List Int} {k:Nat} (h:k<n):(cnt n chs).set k ((chs.count (k:Int):Int)+1)=cnt n (chs++[(k:Int)]):=by
 refine List.ext_getElem (by simp [cnt]) fun i h1 h2=>?_
 simp only [cnt,List.length_set,List.length_map,List.length_range] at h1
 rw [List.getElem_set]
 simp only [cnt,List.getElem_map,List.getElem_range,List.count_append]
 by_cases e:k=i
 ·subst e;simp
 ·rw [if_neg e]
  have:List.count (i:Int) [(k:Int)]=0:=by
   rw [List.count_eq_zero];simp;omega
  omega
theorem set_map_i {ms:List Int} {k:Nat} (v:Int) (h:k<ms.length):(ms.map AV.i).take k++[AV.i v]++(ms.map AV.i).drop (k+1)=(ms.set k v).map AV.i:=by
 rw [List.set_eq_take_append_cons_drop,if_pos h]
 simp
theorem rep_flat:∀ n:Nat,(List.replicate n [AV.sc (.int .i64 0)]).flatten=(List.replicate n (0:Int)).map AV.i
 | 0=>rfl
 | n+1=>by rw [List.replicate_succ,List.flatten_cons,rep_flat n,List.replicate_succ];rfl
def kids (x:Shp) (l:List Nod):List Int:=l.flatMap fun n=>if lastB x n.dim=true then [] else (each n).map Cel.child
theorem kids_snoc {x:Shp} {l:List Nod} {k:Nat} (h:k<l.length):kids x (l.take (k+1))=kids x (l.take k)++(if lastB x l[k].dim=true then [] else (each l[k]).map Cel.child):=by
 unfold kids
 rw [List.take_succ_eq_append_getElem h,List.flatMap_append]
 simp
theorem kids_len (x:Shp):∀ (l:List Nod),(∀ n ∈ l,(each n).length≤1000000)→(kids x l).length≤l.length * 1000000
 | [],_=>by simp [kids]
 | n :: l,h=>by
  have h1:=h n List.mem_cons_self
  have h2:=kids_len x l fun m hm=>h m (List.mem_cons_of_mem _ hm)
  unfold kids at h2 ⊢
  rw [List.flatMap_cons,List.length_append,List.length_cons]
  split<;>simp only [List.length_nil,List.length_map]<;>omega
def wholeB (x:Shp) (l:List Nod):Bool:=if l.length=0 then true else (nodAt l ((l.length:Int) - 1)).dim == 0&&!(((cnt l.length (kids x l)).take (l.length - 1)).contains 0)
theorem each_len {n:Nod} (h:smallN n):(each n).length≤1000000:=by
 have:=h.2.1
 unfold each;rw [List.length_append];simp only [List.length_cons,List.length_nil];omega
set_option maxHeartbeats 4000000 in
theorem whole_sound {H:AHeap} {id:Nat} {x:Shp} {l:List Nod} (ha:ArA H id x l) (hx:1≤x.sizes.length) (hx2:x.sizes.length≤1000) (hl:l.length≤200000) (hn:∀ n ∈ l,smallN n) (hch:∀ n ∈ l,lastB x n.dim=false→∀ c ∈ each n,0≤c.child∧c.child<l.length):Sound Tryz.prog 19 [.ptr id 0] H (Pure H (.b (wholeB x l))):=by
 have ha0:=ha
 obtain ⟨tok,nt,most,h⟩:=ha
 refine fn_soundQ hE cf19 (Nat.le_of_ble_eq_true rfl) fun Q hQr hQn=>?_
 have hid:=AHeap.lt h
 ((try simp (disch:=first|assumption|omega|(simp only [nx_alloc,nx_bump,nx_set]<;>omega)|fail) only [↓YA,YB,YC,YZ,YF,↓reduceIte,Nat.reduceEqDiff,Nat.reduceAdd,Nat.reduceMul,Nat.reduceLeDiff,hQr,hQn,c19_0]);repeat' ((first|apply GdK_st|apply GdK_sf|apply CondK_s)<;>intro hd<;>(try simp only [hd])<;>(try simp (disch:=first|assumption|omega|(simp only [nx_alloc,nx_bump,nx_set]<;>omega)|fail) only [↓YA,YB,YC,YZ,YF,↓reduceIte,Nat.reduceEqDiff,Nat.reduceAdd,Nat.reduceMul,Nat.reduceLeDiff,hQr,hQn,hd,c19_0])))
 refine CallK.use (there_yes h hx) ?_
 rintro r H1 ⟨rfl,hx1⟩
 have hc:=hx1.get _ _ h
 have hx1n:=hx1.next
 unfold eArN eAr at hc
 by_cases hz:l.length=0
 ·have d0:((l.length:Int) == 0)=true:=by simp [hz]
  have hT:wholeB x l=true:=by unfold wholeB;rw [if_pos hz]
  ((try simp (disch:=first|assumption|omega|(simp only [nx_alloc,nx_bump,nx_set]<;>omega)|fail) only [↓YA,YB,YC,YZ,YF,↓reduceIte,Nat.reduceEqDiff,Nat.reduceAdd,Nat.reduceMul,Nat.reduceLeDiff,hQr,hQn,c19_0,hc,d0,List.length_map]);repeat' ((first|apply GdK_st|apply GdK_sf|apply CondK_s)<;>intro hd<;>(try simp only [hd])<;>(try simp (disch:=first|assumption|omega|(simp only [nx_alloc,nx_bump,nx_set]<;>omega)|fail) only [↓YA,YB,YC,YZ,YF,↓reduceIte,Nat.reduceEqDiff,Nat.reduceAdd,Nat.reduceMul,Nat.reduceLeDiff,hQr,hQn,hd,c19_0,hc,d0,List.length_map])))
  rw [hT]
  exact fin_b hx1 rfl
 ·have d0:((l.length:Int) == 0)=false:=by rw [beq_eq_false_iff_ne];omega
  have m1:(0:Int)≤l.length:=by omega
  have m2:(l.length:Int)≤l.length:=by omega
  have m3:l.length≤maxLen:=by unfold maxLen;omega
  have m4:l.length * 8≤140737488355328:=by omega
  have m5:((l.length:Int)=0)=False:=eq_false (by omega)
  ((try simp (disch:=first|assumption|omega|(simp only [nx_alloc,nx_bump,nx_set]<;>omega)|fail) only [↓YA,YB,YC,YZ,YF,↓reduceIte,Nat.reduceEqDiff,Nat.reduceAdd,Nat.reduceMul,Nat.reduceLeDiff,hQr,hQn,c19_0,hc,d0,m1,m2,m3,m4,m5,List.length_map]);repeat' ((first|apply GdK_st|apply GdK_sf|apply CondK_s)<;>intro hd<;>(try simp only [hd])<;>(try simp (disch:=first|assumption|omega|(simp only [nx_alloc,nx_bump,nx_set]<;>omega)|fail) only [↓YA,YB,YC,YZ,YF,↓reduceIte,Nat.reduceEqDiff,Nat.reduceAdd,Nat.reduceMul,Nat.reduceLeDiff,hQr,hQn,hd,c19_0,hc,d0,m1,m2,m3,m4,m5,List.length_map])))
  have hrep:(List.replicate l.length [AV.sc (.int .i64 0)]).flatten=(cnt l.length (kids x (l.take 0))).map AV.i:=by
   have:kids x (l.take 0)=[]:=by simp [kids]
   rw [this,cnt_nil,rep_flat]
  rw [hrep]
  refine AW_forI (N:=l.length) (fun k F G=>Fr.get F 28=.i (k:Int)∧Fr.get F 27=.i (l.length:Int)∧Fr.get F 26=.sl nt (rN l)∧Fr.get F 3=.arr H1.next 0 l.length l.length∧Fr.get F 0=.ptr id 0∧AHeap.Ext H G∧G.get H1.next=some (.cells ((cnt l.length (kids x (l.take k))).map AV.i) 3)) m3 (fun k F G h=>⟨h.1,h.2.1⟩) (GStep.refl _ _) ?_ ?_ ?_
  ·exact ⟨rfl,rfl,rfl,rfl,rfl,hx1.alloc,AHeap.get_alloc_self (H:=H1)⟩
  ·rintro k F G hk ⟨f28,f27,f26,f3,f0,hxG,hg⟩
   have hr:=rN_get hk
   have h0:(0:Int)≤k:=by omega
   have hgl:=AHeap.lt hg
   have hxn:=hxG.next
   have hs:=hn _ (List.getElem_mem hk)
   have hcG:=hxG.get _ _ h
   have hcl:=AHeap.lt hcG
   have hr0:=hr
   unfold eNod at hr
   unfold eArN eAr at hcG
   ((try simp (disch:=first|assumption|omega|(simp only [nx_alloc,nx_bump,nx_set]<;>omega)|fail) only [↓YA,YB,YC,YZ,YF,↓reduceIte,Nat.reduceEqDiff,Nat.reduceAdd,Nat.reduceMul,Nat.reduceLeDiff,hQr,hQn,c19_0,f28,f26,f3,f0,hr,h0,hcG]);repeat' ((first|apply GdK_st|apply GdK_sf|apply CondK_s)<;>intro hd<;>(try simp only [hd])<;>(try simp (disch:=first|assumption|omega|(simp only [nx_alloc,nx_bump,nx_set]<;>omega)|fail) only [↓YA,YB,YC,YZ,YF,↓reduceIte,Nat.reduceEqDiff,Nat.reduceAdd,Nat.reduceMul,Nat.reduceLeDiff,hQr,hQn,hd,c19_0,f28,f26,f3,f0,hr,h0,hcG])))
   refine CallK.use (last_sound tok x l[k].dim _ (by omega)) ?_
   rintro r H2 ⟨rfl,k2,rfl⟩
   cases hb:lastB x l[k].dim with
   | true =>
    have hkk:kids x (l.take (k+1))=kids x (l.take k):=by rw [kids_snoc hk,if_pos hb,List.append_nil]
    ((try simp (disch:=first|assumption|omega|(simp only [nx_alloc,nx_bump,nx_set]<;>omega)|fail) only [↓YA,YB,YC,YZ,YF,↓reduceIte,Nat.reduceEqDiff,Nat.reduceAdd,Nat.reduceMul,Nat.reduceLeDiff,hQr,hQn,c19_0,hb,f28,f27,f26,f3,f0,hg,hkk]);repeat' ((first|apply GdK_st|apply GdK_sf|apply CondK_s)<;>intro hd<;>(try simp only [hd])<;>(try simp (disch:=first|assumption|omega|(simp only [nx_alloc,nx_bump,nx_set]<;>omega)|fail) only [↓YA,YB,YC,YZ,YF,↓reduceIte,Nat.reduceEqDiff,Nat.reduceAdd,Nat.reduceMul,Nat.reduceLeDiff,hQr,hQn,hd,c19_0,hb,f28,f27,f26,f3,f0,hg,hkk])))
    (repeat (first|assumption|exact AHeap.Ext.refl _|refine AHeap.Ext.set ?_ (by first|assumption|omega|(simp only [nx_alloc,nx_bump,nx_set];omega))|refine AHeap.Ext.alloc ?_|refine AHeap.Ext.bump ?_))
   | false =>
    have hkk:kids x (l.take (k+1))=kids x (l.take k)++(each l[k]).map Cel.child:=by rw [kids_snoc hk,hb,if_neg (by simp)]
    have hchk:=hch _ (List.getElem_mem hk) hb
    have hel:=each_len hs
    ((try simp (disch:=first|assumption|omega|(simp only [nx_alloc,nx_bump,nx_set]<;>omega)|fail) only [↓YA,YB,YC,YZ,YF,↓reduceIte,Nat.reduceEqDiff,Nat.reduceAdd,Nat.reduceMul,Nat.reduceLeDiff,hQr,hQn,c19_0,hb]);repeat' ((first|apply GdK_st|apply GdK_sf|apply CondK_s)<;>intro hd<;>(try simp only [hd])<;>(try simp (disch:=first|assumption|omega|(simp only [nx_alloc,nx_bump,nx_set]<;>omega)|fail) only [↓YA,YB,YC,YZ,YF,↓reduceIte,Nat.reduceEqDiff,Nat.reduceAdd,Nat.reduceMul,Nat.reduceLeDiff,hQr,hQn,hd,c19_0,hb])))
    refine CallK.use (each_sound .no l[k] _ hs.1 (by have:=hs.2.1;omega)) ?_
    rintro r H2 ⟨rfl,k3,rfl⟩
    ((try simp (disch:=first|assumption|omega|(simp only [nx_alloc,nx_bump,nx_set]<;>omega)|fail) only [↓YA,YB,YC,YZ,YF,↓reduceIte,Nat.reduceEqDiff,Nat.reduceAdd,Nat.reduceMul,Nat.reduceLeDiff,hQr,hQn,List.length_map]);repeat' ((first|apply GdK_st|apply GdK_sf|apply CondK_s)<;>intro hd<;>(try simp only [hd])<;>(try simp (disch:=first|assumption|omega|(simp only [nx_alloc,nx_bump,nx_set]<;>omega)|fail) only [↓YA,YB,YC,YZ,YF,↓reduceIte,Nat.reduceEqDiff,Nat.reduceAdd,Nat.reduceMul,Nat.reduceLeDiff,hQr,hQn,hd,List.length_map])))
    have hkl:=kids_len x (l.take k) fun n hm=>each_len (hn n (List.mem_of_mem_take hm))
    rw [List.length_take] at hkl
    generalize each l[k]=es at *
    generalize hK:kids x (l.take k)=K0 at *
    refine AW_forI (N:=es.length) (fun j F G=>Fr.get F 42=.i (j:Int)∧Fr.get F 41=.i (es.length:Int)∧Fr.get F 40=.sl .no (rC es)∧Fr.get F 28=.i (k:Int)∧Fr.get F 27=.i (l.length:Int)∧Fr.get F 26=.sl nt (rN l)∧Fr.get F 3=.arr H1.next 0 l.length l.length∧Fr.get F 0=.ptr id 0∧AHeap.Ext H G∧G.get H1.next=some (.cells ((cnt l.length (K0++(es.take j).map Cel.child)).map AV.i) 3)) (by unfold maxLen;omega) (fun k F G h=>⟨h.1,h.2.1⟩) (GStep.refl _ _) ?_ ?_ ?_
    ·refine ⟨rfl,rfl,rfl,f28,f27,f26,f3,f0,?_,?_⟩
     ·(repeat (first|assumption|exact AHeap.Ext.refl _|refine AHeap.Ext.set ?_ (by first|assumption|omega|(simp only [nx_alloc,nx_bump,nx_set];omega))|refine AHeap.Ext.alloc ?_|refine AHeap.Ext.bump ?_))
     ·simp only [AHeap.get_bump]
      rw [AHeap.get_set_ne (by omega),AHeap.get_alloc_ne (by omega),hg]
      simp
    ·rintro j F G hj ⟨f42,f41,f40,f28,f27,f26,f3,f0,hxG,hg⟩
     have hgl:=AHeap.lt hg
     have hxn:=hxG.next
     have hrj:=rC_get hj
     have h0j:(0:Int)≤j:=by omega
     obtain ⟨c0,c1⟩:=hchk _ (List.getElem_mem hj)
     obtain ⟨d,hdc⟩:∃ d:Nat,es[j].child=d:=⟨es[j].child.toNat,by omega⟩
     rw [hdc] at c0 c1
     have hdl:d<l.length:=by omega
     have hcl:(K0++(es.take j).map Cel.child).count (d:Int)≤300000000000:=by
      refine Nat.le_trans List.count_le_length ?_
      rw [List.length_append,List.length_map,List.length_take]
      omega
     have hsn:K0++(es.take j).map Cel.child++[(d:Int)]=K0++(es.take (j+1)).map Cel.child:=by
      rw [List.take_succ_eq_append_getElem hj,List.map_append,List.append_assoc]
      simp [hdc]
     generalize K0++(es.take j).map Cel.child=K at *
     have hlen:(cnt l.length K).length=l.length:=cnt_len _ _
     have hget:((cnt l.length K).map AV.i)[d]?=some (AV.i (K.count (d:Int):Int)):=by
      rw [List.getElem?_map,List.getElem?_eq_getElem (by omega)]
      simp only [Option.map_some]
      rw [cnt_get hdl]
     have hst:=set_map_i (ms:=cnt l.length K) ((K.count (d:Int):Int)+1) (by omega:d<_)
     rw [cnt_snoc hdl,hsn] at hst
     have hml:d+1≤(cnt l.length K).length:=by omega
     unfold eCel at hrj
     ((try simp (disch:=first|assumption|omega|(simp only [nx_alloc,nx_bump,nx_set]<;>omega)|fail) only [↓YA,YB,YC,YZ,YF,↓reduceIte,Nat.reduceEqDiff,Nat.reduceAdd,Nat.reduceMul,Nat.reduceLeDiff,hQr,hQn,c19_0,f42,f41,f40,f28,f27,f26,f3,f0,hrj,h0j,hdc,c0,c1,hg,hget,hml]);repeat' ((first|apply GdK_st|apply GdK_sf|apply CondK_s)<;>intro hd<;>(try simp only [hd])<;>(try simp (disch:=first|assumption|omega|(simp only [nx_alloc,nx_bump,nx_set]<;>omega)|fail) only [↓YA,YB,YC,YZ,YF,↓reduceIte,Nat.reduceEqDiff,Nat.reduceAdd,Nat.reduceMul,Nat.reduceLeDiff,hQr,hQn,hd,c19_0,f42,f41,f40,f28,f27,f26,f3,f0,hrj,h0j,hdc,c0,c1,hg,hget,hml])))
     refine ⟨?_,by rw [hst]⟩
     (repeat (first|assumption|exact AHeap.Ext.refl _|refine AHeap.Ext.set ?_ (by first|assumption|omega|(simp only [nx_alloc,nx_bump,nx_set];omega))|refine AHeap.Ext.alloc ?_|refine AHeap.Ext.bump ?_))
    ·rintro F G ⟨f42,f41,f40,f28,f27,f26,f3,f0,hxG,hg⟩
     rw [List.take_length,← hkk] at hg
     ((try simp (disch:=first|assumption|omega|(simp only [nx_alloc,nx_bump,nx_set]<;>omega)|fail) only [↓YA,YB,YC,YZ,YF,↓reduceIte,Nat.reduceEqDiff,Nat.reduceAdd,Nat.reduceMul,Nat.reduceLeDiff,hQr,hQn,f28,f27,f26,f3,f0]);repeat' ((first|apply GdK_st|apply GdK_sf|apply CondK_s)<;>intro hd<;>(try simp only [hd])<;>(try simp (disch:=first|assumption|omega|(simp only [nx_alloc,nx_bump,nx_set]<;>omega)|fail) only [↓YA,YB,YC,YZ,YF,↓reduceIte,Nat.reduceEqDiff,Nat.reduceAdd,Nat.reduceMul,Nat.reduceLeDiff,hQr,hQn,hd,f28,f27,f26,f3,f0])))
     exact ⟨hxG,hg⟩
  ·rintro F G ⟨f28,f27,f26,f3,f0,hxG,hg⟩
   rw [List.take_length] at hg
   have hcG:=hxG.get _ _ h
   have haG:ArA G id x l:=⟨tok,nt,most,hcG⟩
   unfold eArN eAr at hcG
   have hn1:l.length - 1<l.length:=by omega
   have hr:=rN_get hn1
   have h0:(0:Int)≤(l.length:Int) - 1:=by omega
   have hti:((l.length:Int) - 1).toNat=l.length - 1:=by omega
   unfold eNod at hr
   have hT:wholeB x l=(l[l.length - 1].dim == 0&&!(((cnt l.length (kids x l)).take (l.length - 1)).contains 0)):=by
    unfold wholeB
    rw [if_neg hz]
    congr 2
    unfold nodAt
    rw [if_pos h0,hti,List.getElem?_eq_getElem hn1]
    rfl
   rw [hT] at hQr hQn
   ((try simp (disch:=first|assumption|omega|(simp only [nx_alloc,nx_bump,nx_set]<;>omega)|fail) only [↓YA,YB,YC,YZ,YF,↓reduceIte,Nat.reduceEqDiff,Nat.reduceAdd,Nat.reduceMul,Nat.reduceLeDiff,hQr,hQn,c19_0,f0,hcG]);repeat' ((first|apply GdK_st|apply GdK_sf|apply CondK_s)<;>intro hd<;>(try simp only [hd])<;>(try simp (disch:=first|assumption|omega|(simp only [nx_alloc,nx_bump,nx_set]<;>omega)|fail) only [↓YA,YB,YC,YZ,YF,↓reduceIte,Nat.reduceEqDiff,Nat.reduceAdd,Nat.reduceMul,Nat.reduceLeDiff,hQr,hQn,hd,c19_0,f0,hcG])))
   refine CallK.use (top_sound haG hx (by omega)) ?_
   rintro r H2 ⟨rfl,hx2⟩
   have hc2:=hx2.get _ _ hcG
   refine ⟨stable_one rfl rfl (by simp (disch:=first|assumption|omega|(simp only [nx_alloc,nx_bump,nx_set]<;>omega)|fail) only [↓YA,YB,YC,YZ,YF,↓reduceIte,Nat.reduceEqDiff,Nat.reduceAdd,Nat.reduceMul,Nat.reduceLeDiff,hc2]),?_⟩
   cases hdz:(l[l.length - 1].dim == 0) with
   | false =>
    rw [hdz,Bool.false_and] at hQr hQn
    ((try simp (disch:=first|assumption|omega|(simp only [nx_alloc,nx_bump,nx_set]<;>omega)|fail) only [↓YA,YB,YC,YZ,YF,↓reduceIte,Nat.reduceEqDiff,Nat.reduceAdd,Nat.reduceMul,Nat.reduceLeDiff,hQr,hQn,hc2,hr,h0,hti,hdz]);repeat' ((first|apply GdK_st|apply GdK_sf|apply CondK_s)<;>intro hd<;>(try simp only [hd])<;>(try simp (disch:=first|assumption|omega|(simp only [nx_alloc,nx_bump,nx_set]<;>omega)|fail) only [↓YA,YB,YC,YZ,YF,↓reduceIte,Nat.reduceEqDiff,Nat.reduceAdd,Nat.reduceMul,Nat.reduceLeDiff,hQr,hQn,hd,hc2,hr,h0,hti,hdz])))
    exact fin_b (hxG.trans hx2) rfl
   | true =>
    rw [hdz,Bool.true_and] at hQr hQn
    ((try simp (disch:=first|assumption|omega|(simp only [nx_alloc,nx_bump,nx_set]<;>omega)|fail) only [↓YA,YB,YC,YZ,YF,↓reduceIte,Nat.reduceEqDiff,Nat.reduceAdd,Nat.reduceMul,Nat.reduceLeDiff,hQr,hQn,hc2,hr,h0,hti,hdz,f0]);repeat' ((first|apply GdK_st|apply GdK_sf|apply CondK_s)<;>intro hd<;>(try simp only [hd])<;>(try simp (disch:=first|assumption|omega|(simp only [nx_alloc,nx_bump,nx_set]<;>omega)|fail) only [↓YA,YB,YC,YZ,YF,↓reduceIte,Nat.reduceEqDiff,Nat.reduceAdd,Nat.reduceMul,Nat.reduceLeDiff,hQr,hQn,hd,hc2,hr,h0,hti,hdz,f0])))
    refine CallK.use (top_sound (haG.ext hx2) hx (by omega)) ?_
    rintro r H3 ⟨rfl,hx3⟩
    have hx23:=hx2.trans hx3
    have hg3:=hx23.get _ _ hg
    have b1:l.length - 1≤l.length:=by omega
    have b2:(l.length=0)=False:=eq_false hz
    have b3:0≤l.length - 1:=by omega
    ((try simp (disch:=first|assumption|omega|(simp only [nx_alloc,nx_bump,nx_set]<;>omega)|fail) only [↓YA,YB,YC,YZ,YF,↓reduceIte,Nat.reduceEqDiff,Nat.reduceAdd,Nat.reduceMul,Nat.reduceLeDiff,hQr,hQn,f3,bndA,h0,hti,b1,b2,b3,Nat.sub_zero,Nat.zero_mul,Nat.le_refl]);repeat' ((first|apply GdK_st|apply GdK_sf|apply CondK_s)<;>intro hd<;>(try simp only [hd])<;>(try simp (disch:=first|assumption|omega|(simp only [nx_alloc,nx_bump,nx_set]<;>omega)|fail) only [↓YA,YB,YC,YZ,YF,↓reduceIte,Nat.reduceEqDiff,Nat.reduceAdd,Nat.reduceMul,Nat.reduceLeDiff,hQr,hQn,hd,f3,bndA,h0,hti,b1,b2,b3,Nat.sub_zero,Nat.zero_mul,Nat.le_refl])))
    refine CallK.use (index_sound (l.length - 1) 0 hg3 (by rw [cnt_len];omega) (by omega)) ?_
    rintro r H4 ⟨hx4,i,rfl,hi⟩
    ((try simp (disch:=first|assumption|omega|(simp only [nx_alloc,nx_bump,nx_set]<;>omega)|fail) only [↓YA,YB,YC,YZ,YF,↓reduceIte,Nat.reduceEqDiff,Nat.reduceAdd,Nat.reduceMul,Nat.reduceLeDiff,hQr,hQn]);repeat' ((first|apply GdK_st|apply GdK_sf|apply CondK_s)<;>intro hd<;>(try simp only [hd])<;>(try simp (disch:=first|assumption|omega|(simp only [nx_alloc,nx_bump,nx_set]<;>omega)|fail) only [↓YA,YB,YC,YZ,YF,↓reduceIte,Nat.reduceEqDiff,Nat.reduceAdd,Nat.reduceMul,Nat.reduceLeDiff,hQr,hQn,hd])))
    rw [hi]
    exact fin_b ((hxG.trans hx23).trans hx4) rfl
set_option maxHeartbeats 4000000 in
theorem rmay6_sound (m : Int) (a : Ag) (H : AHeap) : Sound Tryz.prog 102 [.i m, .agg (eAg a)] H (Pure H (.b (aggMay m a))) := by
  refine fn_soundQ hE cf102 (Nat.le_of_ble_eq_true rfl) fun Q hQr hQn => ?_
  have hx : AHeap.Ext H (H.alloc (.cells (eAg a) 54)) := (AHeap.Ext.refl H).alloc
  unfold eAg at hx ⊢
  ((try simp (disch := first | assumption | omega | (simp only [nx_alloc, nx_bump, nx_set] <;> omega) | fail) only [↓YA, YB, YC, YZ, YF, ↓reduceIte, Nat.reduceEqDiff, Nat.reduceAdd, Nat.reduceMul, Nat.reduceLeDiff, hQr, hQn, c102_0]); repeat' ((first | apply GdK_st | apply GdK_sf | apply CondK_s) <;> intro hd <;> (try simp only [hd]) <;> (try simp (disch := first | assumption | omega | (simp only [nx_alloc, nx_bump, nx_set] <;> omega) | fail) only [↓YA, YB, YC, YZ, YF, ↓reduceIte, Nat.reduceEqDiff, Nat.reduceAdd, Nat.reduceMul, Nat.reduceLeDiff, hQr, hQn, hd, c102_0])))
  any_goals
    refine fin_b hx ?_
    unfold aggMay
    grind
  have h0 : 0 ≤ m := by grind
  have h1 : m ≤ 3 := by grind
  have h2 : 1 ≤ a.n := by grind
  rw [tail0 h0 h1 h2] at hQr hQn
  refine AW_loopI (fun n F G => ∃ k : Nat, k ≤ 3 ∧ n = 3 - k ∧ Fr.get F 5 = .i (k : Int) ∧ Fr.get F 0 = .i m ∧ Fr.get F 3 = .ptr H.next 0 ∧ AHeap.Ext H G ∧ G.get H.next = some (.cells (eAg a) 54) ∧ tailMay 0 m a = tailMay k m a) 3 (GStep.refl _ _) ⟨0, by omega, rfl, rfl, rfl, rfl, hx, AHeap.get_alloc_self (H := H), rfl⟩ ?_
  rintro n F G ⟨k, hk, rfl, f5, f0, f3, hxG, hg, ht⟩
  by_cases hk3 : k = 3
  · subst hk3
    replace f5 : Fr.get F 5 = .i 3 := f5
    have d : decide ((3 : Int) < 3) = false := by decide
    ((try simp (disch := first | assumption | omega | (simp only [nx_alloc, nx_bump, nx_set] <;> omega) | fail) only [↓YA, YB, YC, YZ, YF, ↓reduceIte, Nat.reduceEqDiff, Nat.reduceAdd, Nat.reduceMul, Nat.reduceLeDiff, hQr, hQn, c102_0, f5, d]); repeat' ((first | apply GdK_st | apply GdK_sf | apply CondK_s) <;> intro hd <;> (try simp only [hd]) <;> (try simp (disch := first | assumption | omega | (simp only [nx_alloc, nx_bump, nx_set] <;> omega) | fail) only [↓YA, YB, YC, YZ, YF, ↓reduceIte, Nat.reduceEqDiff, Nat.reduceAdd, Nat.reduceMul, Nat.reduceLeDiff, hQr, hQn, hd, c102_0, f5, d])))
    ((try simp (disch := first | assumption | omega | (simp only [nx_alloc, nx_bump, nx_set] <;> omega) | fail) only [↓YA, YB, YC, YZ, YF, ↓reduceIte, Nat.reduceEqDiff, Nat.reduceAdd, Nat.reduceMul, Nat.reduceLeDiff, hQr, hQn, c102_0]); repeat' ((first | apply GdK_st | apply GdK_sf | apply CondK_s) <;> intro hd <;> (try simp only [hd]) <;> (try simp (disch := first | assumption | omega | (simp only [nx_alloc, nx_bump, nx_set] <;> omega) | fail) only [↓YA, YB, YC, YZ, YF, ↓reduceIte, Nat.reduceEqDiff, Nat.reduceAdd, Nat.reduceMul, Nat.reduceLeDiff, hQr, hQn, hd, c102_0])))
    exact fin_b hxG (by rw [ht]; rfl)
  · have hk' : k < 3 := by omega
    rw [tail_step hk'] at ht
    have hgl := AHeap.lt hg
    have hg0 := hg
    have hxn := hxG.next
    unfold eAg at hg
    obtain rfl | rfl | rfl : k = 0 ∨ k = 1 ∨ k = 2 := by omega
    · replace f5 : Fr.get F 5 = .i 0 := f5
      ((try simp (disch := first | assumption | omega | (simp only [nx_alloc, nx_bump, nx_set] <;> omega) | fail) only [↓YA, YB, YC, YZ, YF, ↓reduceIte, Nat.reduceEqDiff, Nat.reduceAdd, Nat.reduceMul, Nat.reduceLeDiff, hQr, hQn, c102_0, f5, f0, f3, hg, eAg, Int.cast_ofNat_Int, Int.reduceLE, Int.reduceLT, Int.reduceToNat, Nat.reduceMul, Int.reduceAdd, decide_true]); repeat' ((first | apply GdK_st | apply GdK_sf | apply CondK_s) <;> intro hd <;> (try simp only [hd]) <;> (try simp (disch := first | assumption | omega | (simp only [nx_alloc, nx_bump, nx_set] <;> omega) | fail) only [↓YA, YB, YC, YZ, YF, ↓reduceIte, Nat.reduceEqDiff, Nat.reduceAdd, Nat.reduceMul, Nat.reduceLeDiff, hQr, hQn, hd, c102_0, f5, f0, f3, hg, eAg, Int.cast_ofNat_Int, Int.reduceLE, Int.reduceLT, Int.reduceToNat, Nat.reduceMul, Int.reduceAdd, decide_true])))
      all_goals first
        | (refine fin_b ?_ ?_
           · (repeat (first | assumption | exact AHeap.Ext.refl _ | refine AHeap.Ext.set ?_ (by first | assumption | omega | (simp only [nx_alloc, nx_bump, nx_set]; omega)) | refine AHeap.Ext.alloc ?_ | refine AHeap.Ext.bump ?_))
           · rw [ht]; simp only [prtMay, Ag.prt]; grind)
        | (refine ⟨2, by omega, 1, by omega, rfl, rfl, ?_, ?_⟩
           · (repeat (first | assumption | exact AHeap.Ext.refl _ | refine AHeap.Ext.set ?_ (by first | assumption | omega | (simp only [nx_alloc, nx_bump, nx_set]; omega)) | refine AHeap.Ext.alloc ?_ | refine AHeap.Ext.bump ?_))
           · rw [ht]; simp only [prtMay, Ag.prt]; grind)
    · replace f5 : Fr.get F 5 = .i 1 := f5
      ((try simp (disch := first | assumption | omega | (simp only [nx_alloc, nx_bump, nx_set] <;> omega) | fail) only [↓YA, YB, YC, YZ, YF, ↓reduceIte, Nat.reduceEqDiff, Nat.reduceAdd, Nat.reduceMul, Nat.reduceLeDiff, hQr, hQn, c102_0, f5, f0, f3, hg, eAg, Int.cast_ofNat_Int, Int.reduceLE, Int.reduceLT, Int.reduceToNat, Nat.reduceMul, Int.reduceAdd, decide_true]); repeat' ((first | apply GdK_st | apply GdK_sf | apply CondK_s) <;> intro hd <;> (try simp only [hd]) <;> (try simp (disch := first | assumption | omega | (simp only [nx_alloc, nx_bump, nx_set] <;> omega) | fail) only [↓YA, YB, YC, YZ, YF, ↓reduceIte, Nat.reduceEqDiff, Nat.reduceAdd, Nat.reduceMul, Nat.reduceLeDiff, hQr, hQn, hd, c102_0, f5, f0, f3, hg, eAg, Int.cast_ofNat_Int, Int.reduceLE, Int.reduceLT, Int.reduceToNat, Nat.reduceMul, Int.reduceAdd, decide_true])))
      all_goals first
        | (refine fin_b ?_ ?_
           · (repeat (first | assumption | exact AHeap.Ext.refl _ | refine AHeap.Ext.set ?_ (by first | assumption | omega | (simp only [nx_alloc, nx_bump, nx_set]; omega)) | refine AHeap.Ext.alloc ?_ | refine AHeap.Ext.bump ?_))
           · rw [ht]; simp only [prtMay, Ag.prt]; grind)
        | (refine ⟨1, by omega, 2, by omega, rfl, rfl, ?_, ?_⟩
           · (repeat (first | assumption | exact AHeap.Ext.refl _ | refine AHeap.Ext.set ?_ (by first | assumption | omega | (simp only [nx_alloc, nx_bump, nx_set]; omega)) | refine AHeap.Ext.alloc ?_ | refine AHeap.Ext.bump ?_))
           · rw [ht]; simp only [prtMay, Ag.prt]; grind)
    · replace f5 : Fr.get F 5 = .i 2 := f5
      ((try simp (disch := first | assumption | omega | (simp only [nx_alloc, nx_bump, nx_set] <;> omega) | fail) only [↓YA, YB, YC, YZ, YF, ↓reduceIte, Nat.reduceEqDiff, Nat.reduceAdd, Nat.reduceMul, Nat.reduceLeDiff, hQr, hQn, c102_0, f5, f0, f3, hg, eAg, Int.cast_ofNat_Int, Int.reduceLE, Int.reduceLT, Int.reduceToNat, Nat.reduceMul, Int.reduceAdd, decide_true]); repeat' ((first | apply GdK_st | apply GdK_sf | apply CondK_s) <;> intro hd <;> (try simp only [hd]) <;> (try simp (disch := first | assumption | omega | (simp only [nx_alloc, nx_bump, nx_set] <;> omega) | fail) only [↓YA, YB, YC, YZ, YF, ↓reduceIte, Nat.reduceEqDiff, Nat.reduceAdd, Nat.reduceMul, Nat.reduceLeDiff, hQr, hQn, hd, c102_0, f5, f0, f3, hg, eAg, Int.cast_ofNat_Int, Int.reduceLE, Int.reduceLT, Int.reduceToNat, Nat.reduceMul, Int.reduceAdd, decide_true])))
      all_goals first
        | (refine fin_b ?_ ?_
           · (repeat (first | assumption | exact AHeap.Ext.refl _ | refine AHeap.Ext.set ?_ (by first | assumption | omega | (simp only [nx_alloc, nx_bump, nx_set]; omega)) | refine AHeap.Ext.alloc ?_ | refine AHeap.Ext.bump ?_))
           · rw [ht]; simp only [prtMay, Ag.prt]; grind)
        | (refine ⟨0, by omega, 3, by omega, rfl, rfl, ?_, ?_⟩
           · (repeat (first | assumption | exact AHeap.Ext.refl _ | refine AHeap.Ext.set ?_ (by first | assumption | omega | (simp only [nx_alloc, nx_bump, nx_set]; omega)) | refine AHeap.Ext.alloc ?_ | refine AHeap.Ext.bump ?_))
           · rw [ht]; simp only [prtMay, Ag.prt]; grind)
def vAg (a:Ag):List Value:=[.int .i64 a.n,.int .i64 a.s0,.int .i64 a.l0,.int .i64 a.h0,.int .i64 a.s1,.int .i64 a.l1,.int .i64 a.h1,.int .i64 a.s2,.int .i64 a.l2,.int .i64 a.h2]
def vCel (c:Cel):List Value:=.int .i64 c.key :: .int .i64 c.child :: vAg c.agg
theorem vsEq_ag (a b:Ag):vsEq (vAg a) (vAg b)=decide (a=b):=by
 obtain ⟨n,s0,l0,h0,s1,l1,h1,s2,l2,h2⟩:=a
 obtain ⟨n',s0',l0',h0',s1',l1',h1',s2',l2',h2'⟩:=b
 rw [Bool.eq_iff_iff]
 simp [vAg,vsEq,vEq_int]
theorem vsEq_cel (a b:Cel):vsEq (vCel a) (vCel b)=decide (a=b):=by
 obtain ⟨k,c,x⟩:=a
 obtain ⟨k',c',y⟩:=b
 rw [Bool.eq_iff_iff]
 simp [vCel,vsEq,vEq_int,vsEq_ag]
theorem stable_n {d:Nat} {op:AOp} {F:Fr} {H:AHeap}:AI.stable ⟨none,some d,op⟩ F H=(op.ev F H=some (Fr.get F d,H)):=by
 simp [AI.stable,AI.want]
theorem stable_g {s d:Nat} {t:Bool} {op:AOp} {F:Fr} {H:AHeap}:AI.stable ⟨some (s,t),some d,op⟩ F H=@GdK (Fr.get F s) t ⟨op.ev F H=some (Fr.get F d,H)⟩ ⟨fun _ _=>True⟩:=by
 simp only [AI.stable,AI.want,GdK]
 cases Fr.get F s with
 | sc v =>
  cases v with
  | bool c=>cases c<;>cases t<;>simp
  | _=>rfl
 | _=>rfl
theorem stables_nil {F:Fr} {H:AHeap}:(∀ r ∈ ([]:List AI),r.stable F H)=True:=by simp
theorem stables_cons {F:Fr} {H:AHeap} {a:AI} {l:List AI}:(∀ r ∈ a :: l,r.stable F H)=(a.stable F H∧∀ r ∈ l,r.stable F H):=by simp
theorem bytes_toList (l:List UInt8):(⟨l.toArray⟩:ByteArray).toList=l:=by rw [ByteArray.toList_eq]
theorem beq_dec (a b:List UInt8):(a == b)=decide (a=b):=by rw [Bool.eq_iff_iff];simp
theorem YE:(∀ {α β:Type} {f:α→β} {l:List α} {i:Nat},(l.map f)[i]?=(l[i]?).map f)∧(∀ {α:Type} {l:List α} {i:Nat} (h:i<l.length),l[i]?=some l[i]) ∧
  (∀ {a:Ag},(eAg a).length=10)∧(∀ {c:Cel},(eCel c).length=12)∧(∀ {t:Tok} {n:Nod},(eNod t n).length=14)∧(∀ {x:Shp},(eShp x).length=2) ∧
  (∀ {a:Ag},(eAg a).take 10=eAg a)∧(∀ {c:Cel},(eCel c).take 12=eCel c)∧(∀ {t:Tok} {n:Nod},(eNod t n).take 14=eNod t n)∧(∀ {x:Shp},(eShp x).take 2=eShp x) ∧
  (∀ {c:Cel},(eCel c)[0]?=some (.i c.key))∧(∀ {c:Cel},(eCel c)[1]?=some (.i c.child))∧(∀ {c:Cel},((eCel c).drop 2).take 10=eAg c.agg)∧(∀ {a:Ag},(eAg a)[0]?=some (.i a.n)) ∧
  (∀ {t:Tok} {n:Nod},(eNod t n)[0]?=some (.i n.dim))∧(∀ {t:Tok} {n:Nod},(eNod t n)[1]?=some (.sl t (rL n.lists)))∧(∀ {t:Tok} {n:Nod},(eNod t n)[2]?=some (.i n.all.key))∧(∀ {t:Tok} {n:Nod},(eNod t n)[3]?=some (.i n.all.child)) ∧
  (∀ {t:Tok} {n:Nod},((eNod t n).drop 2).take 12=eCel n.all)∧(∀ {t:Tok} {n:Nod},((eNod t n).drop 4).take 10=eAg n.all.agg)∧(∀ {x:Shp},(eShp x)[0]?=some (.sl .no (rII x.sizes)))∧(∀ {x:Shp},(eShp x)[1]?=some (.i x.measures)) ∧
  (∀ {a:Ag},scs [.int .i64,.int .i64,.int .i64,.int .i64,.int .i64,.int .i64,.int .i64,.int .i64,.int .i64,.int .i64] (eAg a)=some (vAg a)) ∧
  (∀ {c:Cel},scs [.int .i64,.int .i64,.int .i64,.int .i64,.int .i64,.int .i64,.int .i64,.int .i64,.int .i64,.int .i64,.int .i64,.int .i64] (eCel c)=some (vCel c)) ∧
  (∀ {a b:Ag},vsEq (vAg a) (vAg b)=decide (a=b))∧(∀ {a b:Cel},vsEq (vCel a) (vCel b)=decide (a=b))∧(∀ {n:Nat},(0≤(n:Int))=True)∧(∀ {H:AHeap} {i:Nat} {o o':AObj},i=H.next→(H.alloc o).set i o'=H.alloc o') ∧
  (∀ {d op F H},AI.stable ⟨none,some d,op⟩ F H=(op.ev F H=some (Fr.get F d,H)))∧(∀ {s d t op F H},AI.stable ⟨some (s,t),some d,op⟩ F H=@GdK (Fr.get F s) t ⟨op.ev F H=some (Fr.get F d,H)⟩ ⟨fun _ _=>True⟩) ∧
  (∀ {F:Fr} {H:AHeap},(∀ r ∈ ([]:List AI),r.stable F H)=True)∧(∀ {F:Fr} {H:AHeap} {a:AI} {l:List AI},(∀ r ∈ a :: l,r.stable F H)=(a.stable F H∧∀ r ∈ l,r.stable F H)) ∧
  (∀ {l:List UInt8},(⟨l.toArray⟩:ByteArray).toList=l)∧(∀ {a b:List UInt8},Op.bytesLess a b=decide (a<b))∧(∀ {a b:List UInt8},(a == b)=decide (a=b))∧(∀ {l:List UInt8},(⟨l.toArray⟩:ByteArray).size=l.length) :=
 ⟨List.getElem?_map,List.getElem?_eq_getElem,rfl,rfl,rfl,rfl,rfl,rfl,rfl,rfl,rfl,rfl,rfl,rfl,rfl,rfl,rfl,rfl,rfl,rfl,rfl,rfl,rfl,rfl,vsEq_ag _ _,vsEq_cel _ _,by simp,set_alloc_at,stable_n,stable_g,stables_nil,stables_cons,bytes_toList _,bytesLess_eq _ _,beq_dec _ _,rfl⟩
section
variable {K V:Type} [DecidableEq K] {kf:K→Value} {vf:V→AV}
def aGet (k:K):List (K×V)→Option V
 | []=>none
 | (k',v) :: M=>if k=k' then some v else aGet k M
def aSet (k:K) (v:V):List (K×V)→List (K×V)
 | []=>[(k,v)]
 | (k',u) :: M=>if k=k' then (k,v) :: M else (k',u) :: aSet k v M
def eMap (kf:K→Value) (vf:V→AV) (M:List (K×V)):List (Value×AV):=M.map fun p=>(kf p.1,vf p.2)
theorem mFind_map (hk:∀ a b,kEq (kf a) (kf b)=decide (a=b)) (k:K):∀ M:List (K×V),mFind (kf k) (eMap kf vf M)=(aGet k M).map vf
 | []=>rfl
 | (k',v) :: M=>by
  have ih:=mFind_map hk k M
  unfold eMap at ih ⊢
  simp only [List.map_cons,mFind,hk,aGet]
  by_cases h:k=k'<;>simp [h,ih]
theorem mSet_map (hk:∀ a b,kEq (kf a) (kf b)=decide (a=b)) (k:K) (v:V):∀ M:List (K×V),mSet (kf k) (vf v) (eMap kf vf M)=eMap kf vf (aSet k v M)
 | []=>rfl
 | (k',u) :: M=>by
  have ih:=mSet_map hk k v M
  unfold eMap at ih ⊢
  simp only [List.map_cons,mSet,hk,aSet]
  by_cases h:k=k'<;>simp [h,ih]
theorem aGet_set (k j:K) (v:V):∀ M:List (K×V),aGet j (aSet k v M)=if j=k then some v else aGet j M
 | []=>by simp [aSet,aGet]
 | (k',u) :: M=>by
  have ih:=aGet_set k j v M
  unfold aSet
  by_cases h:k=k'
  ·subst h
   rw [if_pos rfl]
   simp only [aGet]
   by_cases h2:j=k<;>simp [h2]
  ·rw [if_neg h]
   simp only [aGet,ih]
   by_cases h2:j=k
   ·subst h2;simp [h]
   ·simp [h2]
theorem aGet_same (k:K) (v:V) (M:List (K×V)):aGet k (aSet k v M)=some v:=by rw [aGet_set,if_pos rfl]
theorem aSet_len (k:K) (v:V):∀ M:List (K×V),(aSet k v M).length=if (aGet k M).isSome then M.length else M.length+1
 | []=>by simp [aSet,aGet]
 | (k',u) :: M=>by
  have ih:=aSet_len k v M
  unfold aSet aGet
  by_cases h:k=k'
  ·simp [h]
  ·simp only [h,if_false,List.length_cons,ih]
   split<;>omega
end
def kI (n:Int):Value:=.int .i64 n
def k2 (p:Int×Int):Value:=.agg #[.int .i64 p.1,.int .i64 p.2]
theorem kI_eq (a b:Int):kEq (kI a) (kI b)=decide (a=b):=vEq_int a b
theorem kI_of (a:Int):KK.of (.one (.int .i64)) (.i a)=some (kI a):=rfl
structure ExtB (m:Nat) (H H':AHeap):Prop where
 next:H.next≤H'.next
 get:∀ i o,i≠m→H.get i=some o→H'.get i=some o
theorem ExtB.refl (m:Nat) (H:AHeap):ExtB m H H:=⟨Nat.le_refl _,fun _ _ _ h=>h⟩
theorem ExtB.trans {m:Nat} {H H' H'':AHeap} (h:ExtB m H H') (k:ExtB m H' H''):ExtB m H H'':=⟨Nat.le_trans h.next k.next,fun i o hi e=>k.get i o hi (h.get i o hi e)⟩
theorem ExtB.of {m:Nat} {H H':AHeap} (h:AHeap.Ext H H'):ExtB m H H':=⟨h.next,fun i o _ e=>h.get i o e⟩
theorem ExtB.set {m:Nat} {H H':AHeap} {o:AObj} (h:ExtB m H H'):ExtB m H (H'.set m o):=⟨h.next,fun i o hi e=>by rw [AHeap.get_set_ne hi];exact h.get i o hi e⟩
theorem ExtB.alloc {m:Nat} {H H':AHeap} {o:AObj} (h:ExtB m H H'):ExtB m H (H'.alloc o):=h.trans (.of (AHeap.Ext.refl _).alloc)
theorem ExtB.bump {m k:Nat} {H H':AHeap} (h:ExtB m H H'):ExtB m H (H'.bump k):=h.trans (.of (AHeap.Ext.refl _).bump)
section
variable {w:World} {F:Nat→Prop}
theorem enc_slice {s:Sh} {α:Type} {f:α→List AV} (he:∀ cs x,s.Is w F cs x→∃ a,s.enc x=f a) {cs:List Value} {x:(Sh.slice s).D} (h:(Sh.slice s).Is w F cs x):∃ l:List α,l.length≤maxLen∧(Sh.slice s).enc x=[.sl .no (l.map f)]:=by
 obtain ⟨A,c,css,_,h1,h2,h3,_,h5⟩:=h
 have:∀ (l:List s.D),(∀ x ∈ l,∃ a,s.enc x=f a)→∃ m:List α,m.length=l.length∧l.map s.enc=m.map f:=by
  intro l
  induction l with
  | nil=>intro _;exact ⟨[],rfl,rfl⟩
  | cons y l ih =>
   intro hl
   obtain ⟨a,ha⟩:=hl y List.mem_cons_self
   obtain ⟨m,hm,e⟩:=ih fun z hz=>hl z (List.mem_cons_of_mem _ hz)
   exact ⟨a :: m,by simp [hm],by simp [ha,e]⟩
 obtain ⟨m,hm,e⟩:=this x fun y hy=>by
  obtain ⟨i,hi,rfl⟩:=List.getElem_of_mem hy
  have hi2:i<css.length:=by rw [h3];exact hi
  exact he css[i] _ (h5 i _ _ (List.getElem?_eq_getElem hi2) (List.getElem?_eq_getElem hi))
 refine ⟨m,by rw [hm];exact Nat.le_trans h1 h2,?_⟩
 show [AV.sl .no (List.map s.enc x)]=_
 rw [e]
end
section
variable {W:World}
end
end Go.Proofs.YtaapiigfmdhobaaGreat
