/- Texts of the walk, joined: Eq Er Eu Ev F0 F1 Ew Ex. -/
import Derived.Test.YtaapiigfmdhobaaGreatMf
import Derived.Test.YtaapiigfmdhobaaGreatN3
import Derived.Test.YtaapiigfmdhobaaGreatMj
import Derived.Test.YtaapiigfmdhobaaGreatMv
import Derived.Test.YtaapiigfmdhobaaGreatMt
namespace Go.Proofs.YtaapiigfmdhobaaGreat
set_option linter.unusedSimpArgs false
set_option linter.unusedVariables false
open Go.RowKit
def eqTa:EqT:=⟨eqE,fun t=>t == 88⟩
theorem hEa:∀t ks,eqTa t=some ks->Ziv Tryz.prog t ks:=hE0
def zha0:AV:=.agg [.sl .full [],.sc (.int .i64 0),.sc (.int .i64 0),.sc (.int .i64 0),.sc (.int .i64 0),.sc (.int .i64 0),.sc (.int .i64 0),.sc (.int .i64 0),.sc (.int .i64 0),.sc (.int .i64 0),.sc (.int .i64 0)]
def zha1:AV:=.agg [.sc (.int .i64 0),.sc (.int .i64 0),.sc (.int .i64 0),.sc (.int .i64 0),.sc (.int .i64 0),.sc (.int .i64 0),.sc (.int .i64 0),.sc (.int .i64 0),.sc (.int .i64 0),.sc (.int .i64 0)]
def zhl2:List AV:=[.sl .full [],.sc (.int .i64 0),.sc (.int .i64 0),.sc (.int .i64 0),.sc (.int .i64 0),.sc (.int .i64 0),.sc (.int .i64 0),.sc (.int .i64 0),.sc (.int .i64 0),.sc (.int .i64 0),.sc (.int .i64 0)]
theorem YZh:True/\zha0=.agg [.sl .full [],.sc (.int .i64 0),.sc (.int .i64 0),.sc (.int .i64 0),.sc (.int .i64 0),.sc (.int .i64 0),.sc (.int .i64 0),.sc (.int .i64 0),.sc (.int .i64 0),.sc (.int .i64 0),.sc (.int .i64 0)]/\zha1=.agg [.sc (.int .i64 0),.sc (.int .i64 0),.sc (.int .i64 0),.sc (.int .i64 0),.sc (.int .i64 0),.sc (.int .i64 0),.sc (.int .i64 0),.sc (.int .i64 0),.sc (.int .i64 0),.sc (.int .i64 0)]/\zhl2=[.sl .full [],.sc (.int .i64 0),.sc (.int .i64 0),.sc (.int .i64 0),.sc (.int .i64 0),.sc (.int .i64 0),.sc (.int .i64 0),.sc (.int .i64 0),.sc (.int .i64 0),.sc (.int .i64 0),.sc (.int .i64 0)]:=⟨trivial,rfl,rfl,rfl⟩
def v30_1:Zar:=.blk 0 (.loop (.seq (.reg [io 13 (.bin .lss (.t 12) (.t 11))]) (.seq (.cond (.t 13) .skip (.exit 0)) (.seq (.blk 1 (.seq (.reg [io 14 (.ixa 11 (.t 10) (.t 12)),io 15 (.ld 11 true (.t 14)),io 6 (.box 88 (.c zha0)),iz (.st 11 (.t 6) (.t 15))]) (.seq (.reg [im 16 4,io 17 (.len false (.t 16)),im 7 17]) (.seq (.seq (.drw [ip (im 18 7),ip (io 19 (.bin .eql (.t 18) (ik 0))),ip (im 20 19),ip (ih 20 21 (.mv (.t 4))),ip (ih 20 22 (.mv (.t 7))),ip (ih 20 23 (.bin .sub (.t 22) (ik 1))),ip (ih 20 24 (.ixa 11 (.t 21) (.t 23))),ip (ih 20 25 (.ld 11 true (.t 24))),ip (ih 20 26 (.ld 11 true (.t 6))),ip (ih 20 27 (.call (jf 57) [.t 25,.t 26])),ip (io 28 (.pick (.t 20) (ib true) (.t 27))),ip (im 29 28),ip (ih 29 30 (.ld 11 true (.t 6))),ip (ih 29 31 (.mv (.t 4))),ip (ih 29 32 (.mv (.t 7))),ip (ih 29 33 (.bin .sub (.t 32) (ik 1))),ip (ih 29 34 (.ixa 11 (.t 31) (.t 33))),ip (ih 29 35 (.ld 11 true (.t 34))),ip (ih 29 36 (.call (jf 57) [.t 30,.t 35])),ip (io 37 (.pick (.t 29) (ib true) (.t 36)))]) (.cond (.t 37) (.seq (.reg [im 38 4,io 39 (.ld 11 true (.t 6)),io 40 (.bsv 88 11 [.t 39]),io 41 (.apv 88 11 104 [.sl .full [],.sc (.int .i64 0),.sc (.int .i64 0),.sc (.int .i64 0),.sc (.int .i64 0),.sc (.int .i64 0),.sc (.int .i64 0),.sc (.int .i64 0),.sc (.int .i64 0),.sc (.int .i64 0),.sc (.int .i64 0)] (.t 38) (.t 40)),im 4 41]) (.exit 1)) .skip)) (.seq (.drw [ip (im 43 4),ip (im 44 7),ip (io 45 (.bin .sub (.t 44) (ik 1))),ip (io 46 (.ixa 11 (.t 43) (.t 45))),ip (io 47 (.fla 1 (.t 46))),ip (io 48 (.ld 10 true (.t 47))),ip (io 49 (.fla 1 (.t 6))),ip (io 50 (.ld 10 true (.t 49))),ip (io 51 (.call (jf 70) [.t 48,.t 50])),ip (im 42 51),ip (io 52 (.ext (.t 42) 0)),ip (io 53 (.ext (.t 42) 1)),ip (io 8 (.box 54 (.c zha1))),ip (iz (.st 10 (.t 8) (.t 52))),ip (im 9 53)]) (.seq (.seq (.reg [im 54 9,io 55 (.un .not (.t 54))]) (.cond (.t 55) (.seq (.reg [io 2 (.mv jn),io 3 (.mv (ib false))]) .ret) .skip)) (.reg [im 56 4,im 57 7,io 58 (.bin .sub (.t 57) (ik 1)),io 59 (.fla 0 (.t 6)),io 60 (.ld 1 false (.t 59)),io 61 (.ld 10 true (.t 8)),io 62 (.bld zhl2 [(0,(1,.t 60)),(1,(10,.t 61))]),io 63 (.ixa 11 (.t 56) (.t 58)),iz (.st 11 (.t 63) (.t 62))]))))))) (.reg [io 64 (.bin .add (.t 12) (ik 1)),im 12 64])))))
def ZnJ:Zar:=.seq (.reg [io 2 (.mv jn),io 3 (.mv (ib false))]) (.seq (.reg [io 4 (.mv jn)]) (.seq (.seq (.reg [im 10 0,io 11 (.len false (.t 10)),jm 12 0]) v30_1) (.seq (.reg [im 65 4,im 2 65,io 3 (.mv (ib true))]) .ret)))
theorem vf30:cFn Tryz.prog eqTa 30=some (ZnJ,[(.tmp 2),(.tmp 3)],66):=by kernel_rfl
def fdV (out:List Fct) (id cap:Nat):AV:=match out with
 | []=>.sl .full []
 | _ :: _=>.arr id 0 out.length cap
def fdO (out:List Fct) (id:Nat) (tail:List AV):List (Nat×Zb3):=match out with
 | []=>[]
 | _ :: _=>[(id,.cells ((rF out).flatten++tail) 88)]
@[simp] theorem fdV_nil (id cap:Nat):fdV [] id cap=.sl .full []:=rfl
theorem ZnM (o:List Fct) (e:Fct) (id cap:Nat):fdV (o++[e]) id cap=.arr id 0 (o.length+1) cap:=by
 cases o with
 | nil=>rfl
 | cons a r=>show AV.arr id 0 (a :: (r++[e])).length cap=_;simp
theorem Zo2 (o:List Fct) (e:Fct) (id:Nat) (tail:List AV):fdO (o++[e]) id tail=[(id,.cells ((rF (o++[e])).flatten++tail) 88)]:=by
 cases o<;>rfl
theorem Zpj (o:List Fct):∀q∈rF o,q.length=11:=fun q hq=>by obtain⟨p,_,rfl⟩:=zau.1 hq;rfl
theorem ZnD (o:List Fct):(rF o).flatten.length=o.length * 11:=by
 rw[Zc7 (sz:=11) (Zpj o),zaa]
theorem ZqI {H:Zaa} {o:List Fct} {id cap:Nat} {tail:List AV} {e:Fct} {x:AV} {zero:List AV} (hz:zero.length=11) {K:AV->Zaa->Prop} (hx:ZaL H 11 x=some [ZcI e])
  (ho:o≠[]->H.get id=some (.cells ((rF o).flatten++tail) 88)/\((rF o).flatten++tail).length=cap * 11/\o.length<=cap) (hl:o.length<=1000000)
  (k:∀id' cap' tail' H',(o≠[]/\id'=id/\H'=H.set id (.cells ((rF (o++[e])).flatten++tail') 88))∨(id'=H.next/\H'=H.alloc (.cells ((rF (o++[e])).flatten++tail') 88))->((rF (o++[e])).flatten++tail').length=cap' * 11->o.length+1<=cap'->K (fdV (o++[e]) id' cap') H') :
  Zk3 H 88 11 104 zero (fdV o id cap) x K:=by
 have hsn:rF o++[ZcI e]=rF (o++[e]):=by simp[rF]
 simp only[ZnM]at k
 cases o with
 | nil =>
  unfold Zk3
  rw[hx]
  refine⟨⟨by simp,rfl,by unfold maxLen;simp,by simp⟩,fun c h1 h2=>?_⟩
  refine k H.next c _ _ (.inr ⟨rfl,rfl⟩) ?_ h1
  rw[zak,ZnD,Zc7 (sz:=11) (rows:=List.replicate _ _) (fun q hq=>by rw[(zbJ.1 hq).2];exact hz),List.length_replicate,← zaY]
  simp only[List.length_cons,List.length_nil,List.nil_append]at h1 ⊢
  congr 1
  omega
 | cons a r =>
  obtain⟨h1,h2,h3⟩:=ho (by simp)
  have hrl:(rF (a :: r)).length=(a :: r).length:=zaa ..
  have h:=Zp3 (H:=H) (E:=88) (sz:=11) (bytes:=104) (id:=id) (cap:=cap) (zero:=zero) (rows:=rF (a :: r)) (tail:=tail) (r:=ZcI e) (x:=x) (K:=K)
   h1 (Zpj _) hx rfl h2 (by rw[hrl];exact h3) (by rw[hrl];unfold maxLen;omega) (by rw[hrl];omega) hz (fun id' cap' tail' H' q1 q2 q3 _=>by
    rw[hsn]at q1 q2
    rw[hrl]at q3 ⊢
    refine k id' cap' tail' H' ?_ q2 q3
    rcases q1 with⟨q1,q4⟩|q1
    ·exact .inl ⟨by simp,q1,q4⟩
    ·exact .inr q1)
  rw[hrl]at h
  exact h
theorem Zp2 {H:Zaa} {o:List Fct} {q:Fct} {id cap:Nat} {tail:List AV} {e:Fct} {x:AV} {zero:List AV} (hz:zero.length=11) {K:AV->Zaa->Prop} (hx:ZaL H 11 x=some [ZcI e])
  (ho:H.get id=some (.cells ((rF (o++[q])).flatten++tail) 88)) (h1:((rF (o++[q])).flatten++tail).length=cap * 11) (h2:(o++[q]).length<=cap) (hl:(o++[q]).length<=1000000)
  (k:∀id' cap' tail' H',(o++[q]≠[]/\id'=id/\H'=H.set id (.cells ((rF (o++[q]++[e])).flatten++tail') 88))∨(id'=H.next/\H'=H.alloc (.cells ((rF (o++[q]++[e])).flatten++tail') 88))->((rF (o++[q]++[e])).flatten++tail').length=cap' * 11->(o++[q]).length+1<=cap'->K (fdV (o++[q]++[e]) id' cap') H') :
  Zk3 H 88 11 104 zero (.arr id 0 (o.length+1) cap) x K:=by
 rw[← ZnM o q]
 exact ZqI hz hx (fun _=>⟨ho,h1,h2⟩) hl k
theorem ZpW:∀(o:List Fct) (tail:List AV),chunk 11 o.length ((rF o).flatten++tail)=rF o
 | [],_=>rfl
 | e :: o,tail=>by
  simp only[rF,zao,List.flatten_cons,List.length_cons,chunk,zaP]
  rw[show(ZcI e++((List.map ZcI o).flatten++tail)).take 11=ZcI e from rfl,show(ZcI e++((List.map ZcI o).flatten++tail)).drop 11=(List.map ZcI o).flatten++tail from rfl]
  exact congrArg _ (ZpW o tail)
theorem frz_fct {H:Zaa} {D:Nat->Bool} {id cap E:Nat} {o:List Fct} {tail:List AV} (hD:D id=true) (hg:H.get id=some (.cells ((rF o).flatten++tail) E)):Frz H D (.arr id 0 o.length cap) (.sl .no (rF o)):=by
 have hch:chunk 11 o.length (((rF o).flatten++tail).drop 0)=rF o:=ZpW o tail
 refine .arr id 0 11 o.length cap E _ _ hD hg (by rw[zak,ZnD];omega) (by simp[rF]) (fun i r r' h1 h2=>?_) (fun i r r' j x y h1 h2 hx hy=>?_)
 ·rw[hch,h2]at h1
  injection h1 with h1
  rw[h1]
 ·rw[hch,h2]at h1
  injection h1 with h1
  rw[← h1,hy]at hx
  injection hx with hx
  rw[hx]
  exact .refl _
theorem fd_take (o:List Fct) (q:Fct) (tail:List AV):(((rF (o++[q])).flatten++tail).drop (o.length * 11)).take 11=ZcI q:=by
 have e:(rF (o++[q])).flatten++tail=(rF o).flatten++(ZcI q++tail):=by simp[rF]
 rw[e,← ZnD o,List.drop_left]
 rfl
theorem fd_take2 (o:List Fct) (q:Fct) (tail:List AV):(((rF (o++[q])).flatten++tail).drop (o.length * 11+1)).take 10=eAg q.2:=by
 have e:(rF (o++[q])).flatten++tail=(rF o).flatten++(ZcI q++tail):=by simp[rF]
 rw[e,← ZnD o,← List.drop_drop,List.drop_left]
 rfl
theorem fd_put (o:List Fct) (q g:Fct) (tail:List AV) (c:List AV) (hc:c=ZcI g):((rF (o++[q])).flatten++tail).take (o.length * 11)++c++((rF (o++[q])).flatten++tail).drop (o.length * 11+11)=(rF (o++[g])).flatten++tail:=by
 have e:∀q:Fct,(rF (o++[q])).flatten++tail=(rF o).flatten++(ZcI q++tail):=fun q=>by simp[rF]
 have e3:(ZcI q++tail).drop 11=tail:=rfl
 rw[e,e,← ZnD o,List.take_left,← List.drop_drop,List.drop_left,e3,hc,zaP]
structure FdI (b k:Nat) (o:List Fct) (id cap:Nat) (tail:List AV):Prop where
 room:o≠[]->b<=id/\((rF o).flatten++tail).length=cap * 11/\o.length<=cap
 len:o.length<=k
 ok:∀f∈o,f.1.length<=1000000/\Zho f.2
theorem Zqc (o:List Fct):o=[]∨∃r q,o=r++[q]:=by
 rcases List.eq_nil_or_concat o with h|⟨r,q,h⟩
 ·exact .inl h
 ·exact .inr ⟨r,q,h.trans (by simp)⟩
theorem fd_hx {o o':List Fct} {id id':Nat} {tail tail':List AV} {H G G5:Zaa} (h:HX (fdO o id tail) H G) (hid:o≠[]->H.next<=id) (hn:G.next<=G5.next) (ho:∀p∈fdO o' id' tail',G5.get p.1=some p.2) (hg:∀j,j<H.next->G5.get j=G.get j):HX (fdO o' id' tail') H G5:=by
 refine⟨zaQ h.n hn,ho,fun j hj _=>?_⟩
 rw[hg j hj]
 refine h.g j hj ?_
 rw[zbj]
 intro p hp
 cases o with
 | nil=>cases hp
 | cons x r =>
  rw[zas.1 hp]
  have:=hid (by simp)
  simp;omega
theorem ZqQ {G:Zaa} {n:Nat} {f:Fct} (h:G.get n=some (.cells [ZcI f].flatten 88)):ZaL G 11 (.arr n 0 1 1)=some [ZcI f]:=by
 simp only[ZaL,h]
 rfl
theorem Zpw {k:Nat} {o:List Fct} {f:Fct} {id cap id' cap':Nat} {tail tail':List AV} {H G G1 G5:Zaa} (hI:FdI H.next k o id cap tail) (hG:HX (fdO o id tail) H G) (hn:H.next<=G.next) (hf:f.1.length<=1000000/\Zho f.2) (h1:∀j,j<G.next->G1.get j=G.get j) (h2:G.next<=G1.next)
  (hc:(o≠[]/\id'=id/\G5=G1.set id (.cells ((rF (o++[f])).flatten++tail') 88))∨(id'=G1.next/\G5=G1.alloc (.cells ((rF (o++[f])).flatten++tail') 88))) (hl:((rF (o++[f])).flatten++tail').length=cap' * 11) (hcc:o.length+1<=cap') :
  FdI H.next (k+1) (o++[f]) id' cap' tail'/\HX (fdO (o++[f]) id' tail') H G5:=by
 have hid:=fun h=>(hI.room h).1
 have hlt:o≠[]->id<G.next:=fun h=>by
  cases o with
  | nil=>exact absurd rfl h
  | cons a r=>exact Zaa.lt (hG.o (id,.cells ((rF (a :: r)).flatten++tail) 88) (zas.2 rfl))
 refine⟨⟨fun _=>⟨?_,hl,by simpa using hcc⟩,by have:=hI.len;simp;omega,fun x hx=>?_⟩,fd_hx hG hid ?_ ?_ ?_⟩
 ·rcases hc with⟨h,rfl,_⟩|⟨rfl,_⟩
  ·exact hid h
  ·omega
 ·rcases zaz.1 hx with hx|hx
  ·exact hI.ok x hx
  ·rw[zas.1 hx];exact hf
 ·rcases hc with⟨_,_,rfl⟩|⟨_,rfl⟩
  ·exact h2
  ·simp only[nx];omega
 ·intro p hp
  rw[Zo2]at hp
  rw[zas.1 hp]
  rcases hc with⟨h,rfl,rfl⟩|⟨rfl,rfl⟩
  ·exact Zaa.Zal (by have:=hlt h;omega)
  ·exact Zaa.Zae
 ·intro j hj
  rcases hc with⟨h,_,rfl⟩|⟨_,rfl⟩
  ·rw[Zaa.Zah (by have:=hid h;omega)]
   exact h1 j (by omega)
  ·rw[Zaa.Zag (by omega)]
   exact h1 j (by omega)
set_option maxHeartbeats 8000000 in
theorem Zpu (t:Tok) (l T:List Fct) (H:Zaa) (hl:l.length<=1000000) (hk:∀f∈l,f.1.length<=1000000/\Zho f.2) (hT:ZnG [] l=some T):Zay Tryz.prog 30 [.sl t (rF l)] H (Pure H (.tup [.sl .no (rF T),.b true])):=by
 refine Zak hEa vf30 (zac rfl) fun Q qr qn=>?_
 ((have hd:=tv;repeat' first|(first|apply Zad|apply Zac|apply Zab)<;>intro hd<;>try simp only[hd]|simp(disch:=first|assumption|omega|simp only[nx]<;>omega|fail)only[hd,qr,qn,ZnJ,↓YA,YY,sevalprocAttr,YZh,zaa])<;>try revert hd;refine ttr ?_)
 refine Zbs [10,11] (σ:=List Fct×Nat×Nat×List AV) (fun(k:Nat) s=>ZnG s.1 (l.drop k)=some T/\FdI H.next k s.1 s.2.1 s.2.2.1 s.2.2.2) (fun k s=>[(4,fdV s.1 s.2.1 s.2.2.1)]) (fun k s=>(fdO s.1 s.2.1 s.2.2.2)) (([]:List Fct),0,0,([]:List AV)) (GStep.refl _ _) (by simp only[ZaA,Zav,Fr.put,Fr.get,↓reduceIte,Nat.reduceEqDiff];rfl) (by intro k s;rfl) (by intro k s;rfl) (by rfl) (by unfold maxLen;omega) ?_ (by simp only[ZaF,ZaX,Fr.put,Fr.get,↓reduceIte,Nat.reduceEqDiff,and_self]<;>simp) ?_ ?_ ?_
 ·exact⟨hT,⟨fun h=>absurd rfl h,zaf _,by simp⟩⟩
 ·simp[Zc5,fdO]
 ·(rintro k s G hk1 ⟨ht,hI⟩ hG hn1;try simp only[nx]at hn1)
  obtain⟨out,id,cap,tail⟩:=s
  simp only at ht hI hG
  have hkf:=hk _ (zam hk1)
  rw[zan hk1,ZnG]at ht
  have e1:(ZcI l[k]).length=11:=rfl
  have e2:(ZcI l[k]).take 11=ZcI l[k]:=rfl
  generalize hfk:l[k]=f at *
  rcases Zqc out with rfl|⟨o,q,rfl⟩
  ·have v0:∀a b,fdV ([]:List Fct) a b=.sl .full []:=fun _ _=>rfl
   have d00:(((0:Nat):Int) == 0)=true:=rfl
   ((have hd:=tv;repeat' first|(first|apply Zad|apply Zac|apply Zab)<;>intro hd<;>try simp only[hd]|simp(disch:=first|assumption|omega|simp only[nx]<;>omega|fail)only[hd,qr,qn,ZnJ,↓YA,YY,sevalprocAttr,v0,d00,YZh,hfk,e1,e2,hk1,zaa])<;>try revert hd;refine ttr ?_)
   rw[ZnF (fun q hq=>by simp at hq)]at ht
   refine ZqI (o:=[]) (id:=id) (cap:=cap) (tail:=tail) (e:=f) (zero:=[.sl .full [],.i 0,.i 0,.i 0,.i 0,.i 0,.i 0,.i 0,.i 0,.i 0,.i 0]) rfl (H:=(G.alloc (.cells (ZcI f) 88)).alloc (.cells [ZcI f].flatten 88)) (x:=.arr (G.next+1) 0 1 1) (ZqQ (Zaa.Zae (H:=G.alloc _))) (fun h=>absurd rfl h) (by simp) (fun id' cap' tail' G5 hc hcl hcc=>?_)
   obtain⟨q1,q2⟩:=Zpw hI hG hn1 hkf (G1:=(G.alloc (.cells (ZcI f) 88)).alloc (.cells [ZcI f].flatten 88)) (fun j hj=>by rw[Zaa.Zag (by simp only[nx];omega),Zaa.Zag (by omega)]) (by simp only[nx];omega) hc hcl hcc
   ((have hd:=tv;repeat' first|(first|apply Zad|apply Zac|apply Zab)<;>intro hd<;>try simp only[hd]|simp(disch:=first|assumption|omega|simp only[nx]<;>omega|fail)only[hd,qr,qn,ZnJ,↓YA,YY,sevalprocAttr])<;>try revert hd;refine ttr ?_)
   exact⟨([]++[f],id',cap',tail'),⟨ht,q1⟩,rfl,q2⟩
  ·have g0:=hG.o (id,.cells ((rF (o++[q])).flatten++tail) 88) (by rw[Zo2];exact zas.2 rfl)
   simp only at g0
   have lg0:=Zaa.lt g0
   have hqk:=hI.ok q (zbp _ zah)
   have d0:(((o.length+1:Nat):Int) == 0)=false:=by rw[beq_eq_false_iff_ne];omega
   have d2:((o.length+1:Nat):Int) - 1=(o.length:Int):=by omega
   have hb0:(0:Int)<=(o.length:Int):=by omega
   have htk:=fd_take o q tail
   have hol:o.length+1<=1000000:=by have:=hI.len;simp at this;omega
   have hin:(o.length:Int)<((o.length+1:Nat):Int):=by omega
   have g1:(G.alloc (.cells (ZcI f) 88)).get id=some (.cells ((rF (o++[q])).flatten++tail) 88):=by rw[Zaa.Zag (by omega)];exact g0
   have hlc:o.length * 11+11<=((rF (o++[q])).flatten++tail).length:=by rw[zak,ZnD,zak];simp;omega
   have f1:(ZcI q).length=11:=rfl
   have hL1:=fun H=>Zjw q f H hqk.1 hkf.1
   have hL2:=fun H=>Zjw f q H hkf.1 hqk.1
   have hroom:=(hI.room (by simp)).2
   by_cases c1:q.1<f.1
   ·simp only[decide_eq_true c1]at hL1
    have ht2:ZnG (o++[q]++[f]) (l.drop (k+1))=some T:=by
     rw[ZnF (fun x hx=>(ZnA hx) ▸ c1)]at ht
     exact ht
    ((have hd:=tv;repeat' first|(first|apply Zad|apply Zac|apply Zab)<;>intro hd<;>try simp only[hd]|simp(disch:=first|assumption|omega|simp only[nx]<;>omega|fail)only[hd,qr,qn,ZnJ,↓YA,YY,sevalprocAttr,ZnM,YZh,hfk,e1,e2,hk1,d0,d2,hb0,hin,g0,g1,htk,hlc,f1,Int.toNat_natCast,zaa])<;>try revert hd;refine ttr ?_)
    (refine Zap.use (hL1 _) ?_;rintro _ _ ⟨rfl,k1,rfl⟩)
    ((have hd:=tv;repeat' first|(first|apply Zad|apply Zac|apply Zab)<;>intro hd<;>try simp only[hd]|simp(disch:=first|assumption|omega|simp only[nx]<;>omega|fail)only[hd,qr,qn,ZnJ,↓YA,YY,sevalprocAttr,g0,g1,htk,hlc,f1,e1,e2,d2,hb0,hin,Int.toNat_natCast])<;>try revert hd;refine ttr ?_)
    refine Zp2 (o:=o) (q:=q) (id:=id) (cap:=cap) (tail:=tail) (e:=f) (zero:=[.sl .full [],.i 0,.i 0,.i 0,.i 0,.i 0,.i 0,.i 0,.i 0,.i 0,.i 0]) rfl (H:=((G.alloc (.cells (ZcI f) 88)).bump k1).alloc (.cells [ZcI f].flatten 88)) (x:=.arr (G.next+1+k1) 0 1 1) (ZqQ (Zaa.Zae (H:=(G.alloc _).bump k1))) (by rw[Zaa.Zag (by simp only[nx];omega)];exact g1) hroom.1 hroom.2 (by simp;omega) (fun id' cap' tail' G5 hc hcl hcc=>?_)
    obtain⟨q1,q2⟩:=Zpw hI hG hn1 hkf (G1:=((G.alloc (.cells (ZcI f) 88)).bump k1).alloc (.cells [ZcI f].flatten 88)) (fun j hj=>by rw[Zaa.Zag (by simp only[nx];omega)];exact Zaa.Zag (by omega)) (by simp only[nx];omega) hc hcl hcc
    ((have hd:=tv;repeat' first|(first|apply Zad|apply Zac|apply Zab)<;>intro hd<;>try simp only[hd]|simp(disch:=first|assumption|omega|simp only[nx]<;>omega|fail)only[hd,qr,qn,ZnJ,↓YA,YY,sevalprocAttr])<;>try revert hd;refine ttr ?_)
    exact⟨(o++[q]++[f],id',cap',tail'),⟨ht2,q1⟩,rfl,q2⟩
   ·by_cases c2:f.1<q.1
    ·simp only[decide_eq_false c1]at hL1
     simp only[decide_eq_true c2]at hL2
     have ht2:ZnG (o++[q]++[f]) (l.drop (k+1))=some T:=by
      unfold ZpE at ht
      rw[List.getLast?_concat]at ht
      simp only at ht
      rw[if_pos (.inr c2)]at ht
      exact ht
     ((have hd:=tv;repeat' first|(first|apply Zad|apply Zac|apply Zab)<;>intro hd<;>try simp only[hd]|simp(disch:=first|assumption|omega|simp only[nx]<;>omega|fail)only[hd,qr,qn,ZnJ,↓YA,YY,sevalprocAttr,ZnM,YZh,hfk,e1,e2,hk1,d0,d2,hb0,hin,g0,g1,htk,hlc,f1,Int.toNat_natCast,zaa])<;>try revert hd;refine ttr ?_)
     (refine Zap.use (hL1 _) ?_;rintro _ _ ⟨rfl,k1,rfl⟩)
     ((have hd:=tv;repeat' first|(first|apply Zad|apply Zac|apply Zab)<;>intro hd<;>try simp only[hd]|simp(disch:=first|assumption|omega|simp only[nx]<;>omega|fail)only[hd,qr,qn,ZnJ,↓YA,YY,sevalprocAttr,g0,g1,htk,hlc,f1,e1,e2,d2,hb0,hin,Int.toNat_natCast])<;>try revert hd;refine ttr ?_)
     (refine Zap.use (hL2 _) ?_;rintro _ _ ⟨rfl,k2,rfl⟩)
     ((have hd:=tv;repeat' first|(first|apply Zad|apply Zac|apply Zab)<;>intro hd<;>try simp only[hd]|simp(disch:=first|assumption|omega|simp only[nx]<;>omega|fail)only[hd,qr,qn,ZnJ,↓YA,YY,sevalprocAttr,g0,g1,htk,hlc,f1,e1,e2,d2,hb0,hin,Int.toNat_natCast])<;>try revert hd;refine ttr ?_)
     refine Zp2 (o:=o) (q:=q) (id:=id) (cap:=cap) (tail:=tail) (e:=f) (zero:=[.sl .full [],.i 0,.i 0,.i 0,.i 0,.i 0,.i 0,.i 0,.i 0,.i 0,.i 0]) rfl (H:=(((G.alloc (.cells (ZcI f) 88)).bump k1).bump k2).alloc (.cells [ZcI f].flatten 88)) (x:=.arr (G.next+1+k1+k2) 0 1 1) (ZqQ (Zaa.Zae (H:=((G.alloc _).bump k1).bump k2))) (by rw[Zaa.Zag (by simp only[nx];omega)];exact g1) hroom.1 hroom.2 (by simp;omega) (fun id' cap' tail' G5 hc hcl hcc=>?_)
     obtain⟨q1,q2⟩:=Zpw hI hG hn1 hkf (G1:=(((G.alloc (.cells (ZcI f) 88)).bump k1).bump k2).alloc (.cells [ZcI f].flatten 88)) (fun j hj=>by rw[Zaa.Zag (by simp only[nx];omega)];exact Zaa.Zag (by omega)) (by simp only[nx];omega) hc hcl hcc
     ((have hd:=tv;repeat' first|(first|apply Zad|apply Zac|apply Zab)<;>intro hd<;>try simp only[hd]|simp(disch:=first|assumption|omega|simp only[nx]<;>omega|fail)only[hd,qr,qn,ZnJ,↓YA,YY,sevalprocAttr])<;>try revert hd;refine ttr ?_)
     exact⟨(o++[q]++[f],id',cap',tail'),⟨ht2,q1⟩,rfl,q2⟩
    ·simp only[decide_eq_false c1]at hL1
     simp only[decide_eq_false c2]at hL2
     unfold ZpE at ht
     rw[List.getLast?_concat]at ht
     simp only at ht
     rw[if_neg (fun h=>h.elim c1 c2),List.dropLast_concat]at ht
     have hJ:=fun H=>ZpB q.2 f.2 H hqk.2 hkf.2
     cases hj:Zdl q.2 f.2 with
     | none=>rw[hj]at ht;cases ht
     | some a =>
      rw[hj]at ht
      simp only at ht
      have hJ:∀H,Zay Tryz.prog 70 [.agg (eAg q.2),.agg (eAg f.2)] H (Pure H (.tup [.agg (eAg a),.b true])):=fun H=>by
       have h:=hJ H
       rw[hj]at h
       exact h
      have hai:=Zo5 hqk.2 hkf.2 hj
      obtain⟨w0,w1,w2,w3⟩:=Zbu f
      have htk2:=fd_take2 o q tail
      have hlc2:o.length * 11+1+10<=((rF (o++[q])).flatten++tail).length:=by omega
      ((have hd:=tv;repeat' first|(first|apply Zad|apply Zac|apply Zab)<;>intro hd<;>try simp only[hd]|simp(disch:=first|assumption|omega|simp only[nx]<;>omega|fail)only[hd,qr,qn,ZnJ,↓YA,YY,sevalprocAttr,ZnM,YZh,hfk,e1,e2,hk1,d0,d2,hb0,hin,g0,g1,htk,hlc,f1,Int.toNat_natCast,zaa])<;>try revert hd;refine ttr ?_)
      (refine Zap.use (hL1 _) ?_;rintro _ _ ⟨rfl,k1,rfl⟩)
      ((have hd:=tv;repeat' first|(first|apply Zad|apply Zac|apply Zab)<;>intro hd<;>try simp only[hd]|simp(disch:=first|assumption|omega|simp only[nx]<;>omega|fail)only[hd,qr,qn,ZnJ,↓YA,YY,sevalprocAttr,g0,g1,htk,hlc,f1,e1,e2,d2,hb0,hin,Int.toNat_natCast])<;>try revert hd;refine ttr ?_)
      (refine Zap.use (hL2 _) ?_;rintro _ _ ⟨rfl,k2,rfl⟩)
      ((have hd:=tv;repeat' first|(first|apply Zad|apply Zac|apply Zab)<;>intro hd<;>try simp only[hd]|simp(disch:=first|assumption|omega|simp only[nx]<;>omega|fail)only[hd,qr,qn,ZnJ,↓YA,YY,sevalprocAttr,g0,g1,htk,hlc,f1,e1,e2,htk2,hlc2,hb0,hin,d2,w0,w1,w2,w3,Int.toNat_natCast])<;>try revert hd;refine ttr ?_)
      (refine Zap.use (hJ _) ?_;rintro _ _ ⟨rfl,k3,rfl⟩)
      ((have hd:=tv;repeat' first|(first|apply Zad|apply Zac|apply Zab)<;>intro hd<;>try simp only[hd]|simp(disch:=first|assumption|omega|simp only[nx]<;>omega|fail)only[hd,qr,qn,ZnJ,↓YA,YY,sevalprocAttr,g0,g1,htk,hlc,f1,e1,e2,htk2,hlc2,d2,hb0,hin,Int.toNat_natCast,w0,w1,w2,w3])<;>try revert hd;refine ttr ?_)
      rw[fd_put o q (f.1,a) tail (AV.sl .no (rI f.1) :: eAg a) rfl]
      have hrm:=hI.room (by simp)
      have hin':(o++[q]).length=(o++[(f.1,a)]).length:=by simp
      have hlq:((rF (o++[(f.1,a)])).flatten++tail).length=((rF (o++[q])).flatten++tail).length:=by rw[zak,zak,ZnD,ZnD,hin']
      refine⟨(o++[(f.1,a)],id,cap,tail),⟨ht,⟨fun _=>⟨hrm.1,hlq.trans hrm.2.1,hin' ▸ hrm.2.2⟩,by have:=hI.len;rw[hin']at this;simp only;omega,fun x hx=>?_⟩⟩,(ZnM _ _ _ _).symm,?_⟩
      ·rcases zaz.1 hx with hx|hx
       ·exact hI.ok x (zbw _ hx)
       ·rw[zas.1 hx];exact⟨hkf.1,hai⟩
      ·refine fd_hx hG (fun _=>hrm.1) (by simp only[nx];omega) (fun p hp=>?_) fun j hj=>?_
       ·simp only at hp
        rw[Zo2]at hp
        rw[zas.1 hp]
        exact Zaa.Zal (by simp only[nx];omega)
       ·have h1:=hrm.1
        rw[Zaa.Zah (by omega),Zaa.Zag (by simp only[nx];omega)]
        exact Zaa.Zag (by omega)
 ·(rintro s G ⟨ht,hI⟩ hG hn1;try simp only[nx]at hn1)
  obtain⟨out,id,cap,tail⟩:=s
  simp only at ht hI hG
  rw[zaT,ZnG]at ht
  injection ht with ht
  subst ht
  have hxG:Zaa.Ext H G:=hG.ZdB (Zaa.Ext.refl H) (by
   intro p hp
   cases out with
   | nil=>cases hp
   | cons x r=>rw[zas.1 hp];exact(hI.room (by simp)).1)
  cases out with
  | nil =>
   ((have hd:=tv;repeat' first|(first|apply Zad|apply Zac|apply Zab)<;>intro hd<;>try simp only[hd]|simp(disch:=first|assumption|omega|simp only[nx]<;>omega|fail)only[hd,qr,qn,ZnJ,↓YA,YY,sevalprocAttr])<;>try revert hd;refine ttr ?_)
   exact ZpD (D:=fun _=>false) (.tup _ _ rfl fun i x y hx hy=>by
    match i,hx,hy with
    | 0,hx,hy =>
     injection hx with hx
     injection hy with hy
     subst hx hy
     exact .sl _ _ _ rfl (fun i r r' h1 _=>by simp at h1) (fun i r r' j x y h1 _ _ _=>by simp at h1)
    | 1,hx,hy =>
     injection hx with hx
     injection hy with hy
     subst hx hy
     exact .refl _
    | j+2,hx,_=>exact absurd hx (by simp)) (fun _ _=>rfl) hxG
  | cons a r =>
   have g0:=hG.o (id,.cells ((rF (a :: r)).flatten++tail) 88) (zas.2 rfl)
   have hid:=(hI.room (by simp)).1
   have v1:fdV (a :: r) id cap=.arr id 0 (a :: r).length cap:=rfl
   ((have hd:=tv;repeat' first|(first|apply Zad|apply Zac|apply Zab)<;>intro hd<;>try simp only[hd]|simp(disch:=first|assumption|omega|simp only[nx]<;>omega|fail)only[hd,qr,qn,ZnJ,↓YA,YY,sevalprocAttr,v1])<;>try revert hd;refine ttr ?_)
   exact ZpD (D:=fun i=>decide (i=id)) (.tup _ _ rfl fun i x y hx hy=>by
    match i,hx,hy with
    | 0,hx,hy =>
     injection hx with hx
     injection hy with hy
     subst hx hy
     exact frz_fct (by simp) g0
    | 1,hx,hy =>
     injection hx with hx
     injection hy with hy
     subst hx hy
     exact .refl _
    | j+2,hx,_=>exact absurd hx (by simp)) (fun i hi=>by simp;omega) hxG
def Zql:Shp:=⟨[[1]],1⟩
def Zqe:Nod:=⟨0,[[⟨0,0,⟨1,0,0,0,0,0,0,0,0,0⟩⟩]],⟨0,0,⟨1,0,0,0,0,0,0,0,0,0⟩⟩⟩
theorem ZnB:∀n∈[Zqe],Zdb n:=fun n hn=>by
 rw[zas.1 hn];unfold Zdb;decide
theorem w30_prw:Prw Zql [Zqe]:=Zqt (by decide) (by decide) ZnB fun n hn=>by
 rw[zas.1 hn]
 have h:CelIn ⟨0,0,⟨1,0,0,0,0,0,0,0,0,0⟩⟩:=⟨by decide,by decide,⟨by decide,by decide,by decide,by decide⟩⟩
 exact⟨fun l hl c hc=>by
  rw[zas.1 hl]at hc
  rw[zas.1 hc];exact h,h⟩
theorem w30_prw0:Prw Zql []:=Zqt (by decide) (by decide) (by simp) (by simp)
theorem ZqN:(ZoF Zql [Zqe] [] 9).e=0/\(ZoF Zql [Zqe] [] 9).N=[Zqe]:=by decide
theorem w30_may:Zlb Zql [Zqe]=true/\Zlb Zql []=true/\(0:Int)<=9/\(9:Int)<=131072:=by decide
set_option maxHeartbeats 2000000 in
theorem Zm1 (H:Zaa):Zay Tryz.prog 29 [] H (PureE H (.b true)):=by
 have hL:=fun lt G=>Zqd lt Zql [Zqe] G (by decide) ZnB
 have hN:=fun G=>Zfe Zql 0 G
 refine Zak hE cf29 (zac rfl) fun Q qr qn=>?_
 ((have hd:=tv;repeat' first|(first|apply Zad|apply Zac|apply Zab)<;>intro hd<;>try simp only[hd]|simp(disch:=first|assumption|omega|simp only[nx]<;>omega|fail)only[hd,qr,qn,ZoU,↓YA,YY,sevalprocAttr])<;>try revert hd;refine ttr ?_)
 refine Zap.use (Zay.wknA (hL .no _) rfl fun i a b ha hb=>?_) ?_
 ·match i with
  | 0=>simp only[List.getElem?_cons_zero,zad]at ha hb;subst ha hb;exact Zea (n:=10) rfl
  | 1=>simp only[List.getElem?_cons_zero,List.getElem?_cons_succ,zad]at ha hb;subst ha hb;exact Zea (n:=10) rfl
  | i+2=>simp at ha
 rintro r G1 ⟨hx1,hr⟩
 rcases hr with⟨h1,_⟩|⟨_,aid,rfl,hA⟩
 ·exact absurd (show Zm5 Zql [Zqe]=0 by decide) h1
 obtain⟨tk,tok,hO,i1,i2⟩:=hA
 have hA1:ArA G1 aid Zql [Zqe]:=hO.ara
 have g1:=hx1.get H.next _ ((Zaa.Zag (by simp only[nx];omega)).trans Zaa.Zae)
 have hx1:Zaa.Ext H G1:=((Zaa.Ext.refl H).alloc.alloc).trans hx1
 clear i1 i2 hO
 ((have hd:=tv;repeat' first|(first|apply Zad|apply Zac|apply Zab)<;>intro hd<;>try simp only[hd]|simp(disch:=first|assumption|omega|simp only[nx]<;>omega|fail)only[hd,qr,qn,ZoU,↓YA,YY,sevalprocAttr,g1])<;>try revert hd;refine ttr ?_)
 refine Zap.use (Zay.wknA (hN _) rfl fun i a b ha hb=>?_) ?_
 ·match i with
  | 0=>simp only[List.getElem?_cons_zero,zad]at ha hb;subst ha hb;exact Zea (n:=10) rfl
  | 1=>simp only[List.getElem?_cons_zero,List.getElem?_cons_succ,zad]at ha hb;subst ha hb;exact .refl _
  | i+2=>simp at ha
 rintro r G2 ⟨hx2,hr⟩
 rw[if_pos (by decide)]at hr
 obtain⟨bid,tok2,rfl,_,g2⟩:=hr
 have hA2:ArA G2 bid Zql []:=⟨_,_,_,g2⟩
 have hx1:=hx1.trans hx2
 have hA1:=hA1.ext hx2
 have hM:=Zok 9 hA1 hA2 w30_prw w30_prw0
 ((have hd:=tv;repeat' first|(first|apply Zad|apply Zac|apply Zab)<;>intro hd<;>try simp only[hd]|simp(disch:=first|assumption|omega|simp only[nx]<;>omega|fail)only[hd,qr,qn,ZoU,↓YA,YY,sevalprocAttr])<;>try revert hd;refine ttr ?_)
 refine Zap.use hM ?_
 rintro r G3 ⟨hx3,hr⟩
 rw[if_pos w30_may,if_neg (fun h=>h ZqN.1),ZqN.2]at hr
 obtain⟨did,rfl,hA3,_⟩:=hr
 have hx1:=hx1.trans hx3
 have hA1:=hA1.ext hx3
 have hb:1<=Zql.sizes.length:=by decide
 have hn3:=fun G (h:Zaa.Ext G3 G)=>Znx (hA3.ext h) hb (by decide) ZnB
 have hn1:=fun G (h:Zaa.Ext G3 G)=>Znx (hA1.ext h) hb (by decide) ZnB
 have hR:∀t u G,Zay Tryz.prog 17 [.sl t (rN [Zqe]),.sl u (rN [Zqe])] G (Pure G (.b true)):=fun t u G=>by
  have h:=ZoI t u [Zqe] [Zqe] G (by decide) ZnB
  rw[decide_eq_true rfl]at h
  exact h
 have hl3:=fun G (h:Zaa.Ext G3 G)=>ZhQ (hA3.ext h) hb
 ((have hd:=tv;repeat' first|(first|apply Zad|apply Zac|apply Zab)<;>intro hd<;>try simp only[hd]|simp(disch:=first|assumption|omega|simp only[nx]<;>omega|fail)only[hd,qr,qn,ZoU,↓YA,YY,sevalprocAttr])<;>try revert hd;refine ttr ?_)
 (refine Zap.use (hn3 G3 (Zaa.Ext.refl _)) ?_;rintro _ _ ⟨rfl,k1,rfl⟩)
 ((have hd:=tv;repeat' first|(first|apply Zad|apply Zac|apply Zab)<;>intro hd<;>try simp only[hd]|simp(disch:=first|assumption|omega|simp only[nx]<;>omega|fail)only[hd,qr,qn,ZoU,↓YA,YY,sevalprocAttr])<;>try revert hd;refine ttr ?_)
 (refine Zap.use (hn1 (G3.bump k1) ((Zaa.Ext.refl G3).bump)) ?_;rintro _ _ ⟨rfl,k2,rfl⟩)
 ((have hd:=tv;repeat' first|(first|apply Zad|apply Zac|apply Zab)<;>intro hd<;>try simp only[hd]|simp(disch:=first|assumption|omega|simp only[nx]<;>omega|fail)only[hd,qr,qn,ZoU,↓YA,YY,sevalprocAttr])<;>try revert hd;refine ttr ?_)
 (refine Zap.use (hR _ _ _) ?_;rintro _ _ ⟨rfl,k3,rfl⟩)
 ((have hd:=tv;repeat' first|(first|apply Zad|apply Zac|apply Zab)<;>intro hd<;>try simp only[hd]|simp(disch:=first|assumption|omega|simp only[nx]<;>omega|fail)only[hd,qr,qn,ZoU,↓YA,YY,sevalprocAttr])<;>try revert hd;refine ttr ?_)
 refine Zap.use (hl3 (((G3.bump k1).bump k2).bump k3) ((Zaa.Ext.refl G3).bump.bump.bump)) ?_
 rintro _ G4 ⟨rfl,hx4⟩
 have hx4:Zaa.Ext H G4:=hx1.trans ((Zaa.Ext.refl G3).bump.bump.bump.trans hx4)
 ((have hd:=tv;repeat' first|(first|apply Zad|apply Zac|apply Zab)<;>intro hd<;>try simp only[hd]|simp(disch:=first|assumption|omega|simp only[nx]<;>omega|fail)only[hd,qr,qn,ZoU,↓YA,YY,sevalprocAttr,List.length_cons,List.length_nil])<;>try revert hd;refine ttr ?_)
 exact Zaq ⟨rfl,by exact AXT⟩
theorem Zo3 {S:Sc} {most:Int} {facts:List Fct} (hs:scE S=0) (hr:Zd7 (Za3 S) none facts=0) (ha:∀f∈facts,Zho f.2) (hfl:facts.length<=4000) (ho:(Zcn S facts).over=false) (h0:0<=most/\most<=131072) :
  Zet S most facts=7∨(Zet S most facts=0/\Ze6 S most facts=(Zcn S facts).N/\(Zcn S facts).N.length<=most/\Zlb (Za3 S) (Zcn S facts).N=true):=by
 have hw:wantB S most facts=0:=by
  unfold wantB
  rw[if_neg (fun h=>h hs),if_neg (fun h=>h hr),if_neg (by omega)]
 obtain⟨_,h2,h3⟩:=ZkG hfl ha hw
 by_cases c:(Zcn S facts).N.length<=most
 ·obtain⟨q1,q2,q3⟩:=h3 ho c
  exact .inr ⟨q1,q2,c,q3⟩
 ·exact .inl (h2 ho (by omega))
structure ZqD (S:Sc) (l m:List Fct):Prop where
 fold:ZnG [] (Znr (l++m))=some (Zng (l.length+m.length) l m)
 mrg:MrgOk S l m (Zng (l.length+m.length) l m)
 len:(Zng (l.length+m.length) l m).length<=400
 bl:Zet S 20000 l=7∨(Zet S 20000 l=0/\Ze6 S 20000 l=(Zcn S l).N/\(Zcn S l).N.length<=(20000:Int)/\Zlb (Za3 S) (Zcn S l).N=true)
 bm:Zet S 20000 m=7∨(Zet S 20000 m=0/\Ze6 S 20000 m=(Zcn S m).N/\(Zcn S m).N.length<=(20000:Int)/\Zlb (Za3 S) (Zcn S m).N=true)
 ba:Zet S 20000 (Zng (l.length+m.length) l m)=7∨(Zet S 20000 (Zng (l.length+m.length) l m)=0/\Ze6 S 20000 (Zng (l.length+m.length) l m)=(Zcn S (Zng (l.length+m.length) l m)).N/\(Zcn S (Zng (l.length+m.length) l m)).N.length<=(20000:Int)/\Zlb (Za3 S) (Zcn S (Zng (l.length+m.length) l m)).N=true)
theorem pair_ok {S:Sc} {l m:List Fct} (hs:scE S=0) (hl:Zd7 (Za3 S) none l=0) (hm:Zd7 (Za3 S) none m=0) (wl:ZlW l) (wm:ZlW m) (ll:l.length<=200) (lm:m.length<=200):ZqD S l m:=by
 have vl:=wl.wag (m:=(Za3 S).measures) fun f hf=>(Zcp (Zcu hl f hf)).2.2
 have vm:=wm.wag (m:=(Za3 S).measures) fun f hf=>(Zcp (Zcu hm f hf)).2.2
 have hM:=mrg_ok hs hl hm vl vm ll lm (zaf _)
 have hln:=Zn3 (l.length+m.length) l m
 refine⟨Zqx (ZnY hl).1 (ZnY hm).1 vl vm,hM,by omega,?_,?_,?_⟩
 ·exact Zo3 hs hl hM.law.fl.ag (by omega) (ZlB hs hl (by omega) vl).2 (by decide)
 ·exact Zo3 hs hm hM.law.fm.ag (by omega) (ZlB hs hm (by omega) vm).2 (by decide)
 ·exact Zo3 hs hM.row hM.inn (by omega) hM.over (by decide)
def ZpK:Zar:=.seq (.reg [io 78 (.ld 2 true (.t 3)),im 79 1,io 80 (.call (jf 12) [.t 78,ik 20000,.t 79]),im 77 80,io 81 (.ext (.t 77) 0),io 82 (.ext (.t 77) 1),im 10 81,im 11 82]) (.seq (.reg [io 84 (.ld 2 true (.t 3)),im 85 2,io 86 (.call (jf 12) [.t 84,ik 20000,.t 85]),im 83 86,io 87 (.ext (.t 83) 0),io 88 (.ext (.t 83) 1),im 12 87,im 13 88]) (.seq (.reg [io 90 (.ld 2 true (.t 3)),im 91 8,io 92 (.call (jf 12) [.t 90,ik 20000,.t 91]),im 89 92,io 93 (.ext (.t 89) 0),io 94 (.ext (.t 89) 1),im 14 93,im 15 94]) (.seq (.seq (.reg [im 95 9,io 96 (.un .not (.t 95)),im 97 96,ih 97 98 (.mv (.t 11)),ih 97 99 (.bin .eql (.t 98) (ik 7)),io 100 (.pick (.t 97) (ib true) (.t 99)),im 101 100,ih 101 102 (.mv (.t 13)),ih 101 103 (.bin .eql (.t 102) (ik 7)),io 104 (.pick (.t 101) (ib true) (.t 103)),im 105 104,ih 105 106 (.mv (.t 15)),ih 105 107 (.bin .eql (.t 106) (ik 7)),io 108 (.pick (.t 105) (ib true) (.t 107))]) (.cond (.t 108) (.seq (.reg [im 109 9,im 110 109,ig 110 111 (.call (jf 29) []),io 112 (.pick (.t 110) (.t 111) (ib false)),im 6 112]) .ret) .skip)) (.seq (.seq (.reg [im 113 11,io 114 (.bin .neq (.t 113) (ik 0)),im 115 114,ih 115 116 (.mv (.t 13)),ih 115 117 (.bin .neq (.t 116) (ik 0)),io 118 (.pick (.t 115) (ib true) (.t 117)),im 119 118,ih 119 120 (.mv (.t 15)),ih 119 121 (.bin .neq (.t 120) (ik 0)),io 122 (.pick (.t 119) (ib true) (.t 121))]) (.cond (.t 122) (.seq (.reg [io 6 (.mv (ib false))]) .ret) .skip)) (.seq (.reg [im 124 10,im 125 12,io 126 (.call (jf 32) [.t 124,.t 125,ik 20000]),im 123 126,io 127 (.ext (.t 123) 0),io 128 (.ext (.t 123) 1),im 16 127,im 17 128]) (.seq (.reg [im 129 17,io 130 (.bin .eql (.t 129) (ik 0)),im 131 130,ig 131 132 (.mv (.t 16)),ig 131 133 (.call (jf 18) [.t 132]),ig 131 134 (.mv (.t 14)),ig 131 135 (.call (jf 18) [.t 134]),ig 131 136 (.call (jf 17) [.t 133,.t 135]),io 137 (.pick (.t 131) (.t 136) (ib false)),im 138 137,ig 138 139 (.call (jf 29) []),io 140 (.pick (.t 138) (.t 139) (ib false)),im 6 140]) .ret))))))
def Zqp:Zar:=.seq (.reg [io 68 (.bsl 11 []),im 69 1,io 70 (.app 88 11 104 (.t 68) (.t 69)),im 71 2,io 72 (.app 88 11 104 (.t 70) (.t 71)),io 73 (.call (jf 31) [.t 72]),io 74 (.call (jf 30) [.t 73]),im 67 74,io 75 (.ext (.t 67) 0),io 76 (.ext (.t 67) 1),im 8 75,im 9 76]) ZpK
set_option maxRecDepth 10000 in
theorem pa_split:Zna=.seq (.reg [io 3 (.box 25 (.t 0)),io 6 (.mv (ib false))]) (.seq (.reg [io 18 (.ld 2 true (.t 3)),io 19 (.call (jf 15) [.t 18]),io 7 (.box 37 (.c (.agg [.sl .full [],.sc (.int .i64 0)]))),iz (.st 2 (.t 7) (.t 19))]) (.seq (.seq (.reg [io 20 (.ld 2 true (.t 3)),io 21 (.call (jf 27) [.t 20]),io 22 (.un .not (.t 21)),im 23 22,ih 23 24 (.fla 0 (.t 3)),ih 23 25 (.ld 1 false (.t 24)),ih 23 26 (.len false (.t 25)),ih 23 27 (.bin .gtr (.t 26) (ik 6)),io 28 (.pick (.t 23) (ib true) (.t 27)),im 29 28,ih 29 30 (.ld 2 true (.t 3)),ih 29 31 (.call (jf 13) [.t 30]),ih 29 32 (.bin .neq (.t 31) (ik 0)),io 33 (.pick (.t 29) (ib true) (.t 32)),im 34 33,ih 34 35 (.mv (.t 1)),ih 34 36 (.call (jf 28) [.t 35,ik 20]),ih 34 37 (.un .not (.t 36)),io 38 (.pick (.t 34) (ib true) (.t 37)),im 39 38,ih 39 40 (.mv (.t 2)),ih 39 41 (.call (jf 28) [.t 40,ik 20]),ih 39 42 (.un .not (.t 41)),io 43 (.pick (.t 39) (ib true) (.t 42)),im 44 43,ih 44 45 (.mv (.t 1)),ih 44 46 (.call (jf 20) [.t 45]),ih 44 47 (.un .not (.t 46)),io 48 (.pick (.t 44) (ib true) (.t 47)),im 49 48,ih 49 50 (.mv (.t 2)),ih 49 51 (.call (jf 20) [.t 50]),ih 49 52 (.un .not (.t 51)),io 53 (.pick (.t 49) (ib true) (.t 52)),im 54 53,ih 54 55 (.ld 2 true (.t 7)),ih 54 56 (.mv (.t 1)),ih 54 57 (.call (jf 14) [.t 55,.t 56]),ih 54 58 (.bin .neq (.t 57) (ik 0)),io 59 (.pick (.t 54) (ib true) (.t 58)),im 60 59,ih 60 61 (.ld 2 true (.t 7)),ih 60 62 (.mv (.t 2)),ih 60 63 (.call (jf 14) [.t 61,.t 62]),ih 60 64 (.bin .neq (.t 63) (ik 0)),io 65 (.pick (.t 60) (ib true) (.t 64))]) (.cond (.t 65) (.seq (.reg [io 66 (.call (jf 29) []),im 6 66]) .ret) .skip)) Zqp)):=rfl
def BuiltU (S:Sc) (most:Int) (facts:List Fct) (G:Zaa) (p:AV) (e:Int):Prop :=
 e=7∨(e=0/\Zet S most facts=0/\Ze6 S most facts=(Zcn S facts).N/\((Zcn S facts).N.length:Int)<=most/\Zlb (Za3 S) (Zcn S facts).N=true/\∃id,p=.ptr id 0/\ArA G id (Za3 S) (Zcn S facts).N)
theorem Zox {S:Sc} {most:Int} {facts:List Fct} {H G:Zaa} {r:AV} (h:ZdZ S most facts H r G) (hb:Zet S most facts=7∨(Zet S most facts=0/\Ze6 S most facts=(Zcn S facts).N/\((Zcn S facts).N.length:Int)<=most/\Zlb (Za3 S) (Zcn S facts).N=true)) :
  Zaa.Ext H G/\∃p e,r=.tup [p,.i e]/\BuiltU S most facts G p e:=by
 obtain⟨hx,h⟩:=h
 refine⟨hx,?_⟩
 rcases h with⟨h1,h2⟩|⟨h1,id,h2,h3⟩
 ·rcases hb with b1|⟨b1,_⟩
  ·rw[b1]at h2
   exact⟨_,_,h2,.inl rfl⟩
  ·exact absurd b1 h1
 ·rcases hb with b1|⟨b1,b2,b3,b4⟩
  ·omega
  ·rw[b2]at h3
   exact⟨_,_,h2,.inr ⟨rfl,b1,b2,b3,b4,id,rfl,h3⟩⟩
set_option maxRecDepth 10000 in
set_option maxHeartbeats 8000000 in
theorem Zny {S:Sc} {l m:List Fct} {is:Nat} {Q:AEx->Fr->Zaa->Prop} {F:Fr} {G0:Zaa} {t8:Tok} (h1:scE S=0) (hS:Zh1 S) (hP:ZqD S l m) (ll:l.length<=20) (lm:m.length<=20) (al:∀f∈l,Zho f.2) (am:∀f∈m,Zho f.2)
  (f1:Fr.get F 1=.sl .no (rF l)) (f2:Fr.get F 2=.sl .no (rF m)) (f3:Fr.get F 3=.ptr is 0) (f8:Fr.get F 8=.sl t8 (rF (Zng (l.length+m.length) l m))) (f9:Fr.get F 9=.b true) (g6:G0.get is=some (.cells (eSc S) 25)) (hQ:∀F G,Fr.get F 6=.b true->Q .ret F G):AW Tryz.prog ZpK Q F G0:=by
 obtain⟨e0,e1,e2,e3⟩:=ZbB S
 have hM:=hP.mrg
 have hbl:=fun G=>ZfY .no S 20000 l G hS (by omega) (fun q1 q2 q3 _=>ZdS q1 q2 q3 al)
 have hbm:=fun G=>ZfY .no S 20000 m G hS (by omega) (fun q1 q2 q3 _=>ZdS q1 q2 q3 am)
 have hba:=fun G=>ZfY t8 S 20000 (Zng (l.length+m.length) l m) G hS (by have:=hP.len;omega) (fun q1 q2 q3 _=>ZdS q1 q2 q3 hM.inn)
 have qr:=trivial
 have qn:=trivial
 unfold ZpK
 ((have hd:=tv;repeat' first|(first|apply Zad|apply Zac|apply Zab)<;>intro hd<;>try simp only[hd]|simp(disch:=first|assumption|omega|simp only[nx]<;>omega|fail)only[hd,qr,qn,Zna,↓YA,YY,sevalprocAttr,f1,f2,f3,f8,f9,g6,e0,e3])<;>try revert hd;refine ttr ?_)
 refine Zap.use (hbl _) ?_
 rintro r G7 hr
 obtain⟨hy7,p7,e7,rfl,hr7⟩:=Zox hr hP.bl
 have g6:=hy7.get _ _ g6
 ((have hd:=tv;repeat' first|(first|apply Zad|apply Zac|apply Zab)<;>intro hd<;>try simp only[hd]|simp(disch:=first|assumption|omega|simp only[nx]<;>omega|fail)only[hd,qr,qn,Zna,↓YA,YY,sevalprocAttr,f1,f2,f3,f8,f9,g6,e0,e3])<;>try revert hd;refine ttr ?_)
 refine Zap.use (hbm _) ?_
 rintro r G8 hr
 obtain⟨hy8,p8,e8,rfl,hr8⟩:=Zox hr hP.bm
 have g6:=hy8.get _ _ g6
 ((have hd:=tv;repeat' first|(first|apply Zad|apply Zac|apply Zab)<;>intro hd<;>try simp only[hd]|simp(disch:=first|assumption|omega|simp only[nx]<;>omega|fail)only[hd,qr,qn,Zna,↓YA,YY,sevalprocAttr,f1,f2,f3,f8,f9,g6,e0,e3])<;>try revert hd;refine ttr ?_)
 refine Zap.use (hba _) ?_
 rintro r G9 hr
 obtain⟨hy9,p9,e9,rfl,hr9⟩:=Zox hr hP.ba
 rcases hr7 with rfl|⟨rfl,a1,a2,a3,a4,i7,rfl,a5⟩
 ·((have hd:=tv;repeat' first|(first|apply Zad|apply Zac|apply Zab)<;>intro hd<;>try simp only[hd]|simp(disch:=first|assumption|omega|simp only[nx]<;>omega|fail)only[hd,qr,qn,Zna,↓YA,YY,sevalprocAttr,f1,f2,f3,f8,f9])<;>try revert hd;refine ttr ?_)
  refine Zap.use (Zm1 _) ?_
  rintro r _ ⟨rfl,_⟩
  ((have hd:=tv;repeat' first|(first|apply Zad|apply Zac|apply Zab)<;>intro hd<;>try simp only[hd]|simp(disch:=first|assumption|omega|simp only[nx]<;>omega|fail)only[hd,qr,qn,Zna,↓YA,YY,sevalprocAttr,f9])<;>try revert hd;refine ttr ?_)
  exact hQ _ _ rfl
 rcases hr8 with rfl|⟨rfl,c1,c2,c3,c4,i8,rfl,c5⟩
 ·((have hd:=tv;repeat' first|(first|apply Zad|apply Zac|apply Zab)<;>intro hd<;>try simp only[hd]|simp(disch:=first|assumption|omega|simp only[nx]<;>omega|fail)only[hd,qr,qn,Zna,↓YA,YY,sevalprocAttr,f1,f2,f3,f8,f9])<;>try revert hd;refine ttr ?_)
  refine Zap.use (Zm1 _) ?_
  rintro r _ ⟨rfl,_⟩
  ((have hd:=tv;repeat' first|(first|apply Zad|apply Zac|apply Zab)<;>intro hd<;>try simp only[hd]|simp(disch:=first|assumption|omega|simp only[nx]<;>omega|fail)only[hd,qr,qn,Zna,↓YA,YY,sevalprocAttr,f9])<;>try revert hd;refine ttr ?_)
  exact hQ _ _ rfl
 rcases hr9 with rfl|⟨rfl,d1,d2,d3,d4,i9,rfl,d5⟩
 ·((have hd:=tv;repeat' first|(first|apply Zad|apply Zac|apply Zab)<;>intro hd<;>try simp only[hd]|simp(disch:=first|assumption|omega|simp only[nx]<;>omega|fail)only[hd,qr,qn,Zna,↓YA,YY,sevalprocAttr,f1,f2,f3,f8,f9])<;>try revert hd;refine ttr ?_)
  refine Zap.use (Zm1 _) ?_
  rintro r _ ⟨rfl,_⟩
  ((have hd:=tv;repeat' first|(first|apply Zad|apply Zac|apply Zab)<;>intro hd<;>try simp only[hd]|simp(disch:=first|assumption|omega|simp only[nx]<;>omega|fail)only[hd,qr,qn,Zna,↓YA,YY,sevalprocAttr,f9])<;>try revert hd;refine ttr ?_)
  exact hQ _ _ rfl
 obtain⟨t1,t2⟩:=ZpL h1 hM a1 c1 d1 a2 c2 d2 (by omega) (by omega) (by omega)
 have hs3:=(ZnR hM.law.fa d1 d2 hM.doc (by omega)).1.k.w.small
 have hs1:1<=(Za3 S).sizes.length:=(ZnR hM.law.fa d1 d2 hM.doc (by omega)).1.k.w.bounds.1
 have hln:(Zcn S (Zng (l.length+m.length) l m)).N.length<=1000000:=by omega
 have hmg:=Zok 20000 ((a5.ext hy8).ext hy9) (c5.ext hy9) (ZnR hM.law.fl a1 a2 hM.law.dl (by omega)).1 (ZnR hM.law.fm c1 c2 hM.law.dm (by omega)).1
 have hR:∀t u G,Zay Tryz.prog 17 [.sl t (rN (Zcn S (Zng (l.length+m.length) l m)).N),.sl u (rN (Zcn S (Zng (l.length+m.length) l m)).N)] G (Pure G (.b true)):=fun t u G=>by
  have h:=ZoI t u _ (Zcn S (Zng (l.length+m.length) l m)).N G hln hs3
  rw[decide_eq_true rfl]at h
  exact h
 ((have hd:=tv;repeat' first|(first|apply Zad|apply Zac|apply Zab)<;>intro hd<;>try simp only[hd]|simp(disch:=first|assumption|omega|simp only[nx]<;>omega|fail)only[hd,qr,qn,Zna,↓YA,YY,sevalprocAttr,f1,f2,f3,f8,f9])<;>try revert hd;refine ttr ?_)
 refine Zap.use hmg ?_
 rintro r G10 ⟨hy10,hr⟩
 rw[if_pos ⟨a4,c4,by decide,by decide⟩,if_neg (fun h=>h t1),t2]at hr
 obtain⟨did,rfl,hA3,_⟩:=hr
 have hA4:=d5.ext hy10
 have hn3:=fun G (h:Zaa.Ext G10 G)=>Znx (hA3.ext h) hs1 hln hs3
 have hn4:=fun G (h:Zaa.Ext G10 G)=>Znx (hA4.ext h) hs1 hln hs3
 ((have hd:=tv;repeat' first|(first|apply Zad|apply Zac|apply Zab)<;>intro hd<;>try simp only[hd]|simp(disch:=first|assumption|omega|simp only[nx]<;>omega|fail)only[hd,qr,qn,Zna,↓YA,YY,sevalprocAttr])<;>try revert hd;refine ttr ?_)
 (refine Zap.use (hn3 G10 (Zaa.Ext.refl _)) ?_;rintro _ _ ⟨rfl,k1,rfl⟩)
 ((have hd:=tv;repeat' first|(first|apply Zad|apply Zac|apply Zab)<;>intro hd<;>try simp only[hd]|simp(disch:=first|assumption|omega|simp only[nx]<;>omega|fail)only[hd,qr,qn,Zna,↓YA,YY,sevalprocAttr])<;>try revert hd;refine ttr ?_)
 (refine Zap.use (hn4 (G10.bump k1) ((Zaa.Ext.refl G10).bump)) ?_;rintro _ _ ⟨rfl,k2,rfl⟩)
 ((have hd:=tv;repeat' first|(first|apply Zad|apply Zac|apply Zab)<;>intro hd<;>try simp only[hd]|simp(disch:=first|assumption|omega|simp only[nx]<;>omega|fail)only[hd,qr,qn,Zna,↓YA,YY,sevalprocAttr])<;>try revert hd;refine ttr ?_)
 (refine Zap.use (hR _ _ _) ?_;rintro _ _ ⟨rfl,k3,rfl⟩)
 ((have hd:=tv;repeat' first|(first|apply Zad|apply Zac|apply Zab)<;>intro hd<;>try simp only[hd]|simp(disch:=first|assumption|omega|simp only[nx]<;>omega|fail)only[hd,qr,qn,Zna,↓YA,YY,sevalprocAttr])<;>try revert hd;refine ttr ?_)
 refine Zap.use (Zm1 _) ?_
 rintro r _ ⟨rfl,_⟩
 ((have hd:=tv;repeat' first|(first|apply Zad|apply Zac|apply Zab)<;>intro hd<;>try simp only[hd]|simp(disch:=first|assumption|omega|simp only[nx]<;>omega|fail)only[hd,qr,qn,Zna,↓YA,YY,sevalprocAttr])<;>try revert hd;refine ttr ?_)
 exact hQ _ _ rfl
set_option maxRecDepth 10000 in
set_option maxHeartbeats 8000000 in
theorem Zpe {S:Sc} {l m:List Fct} {is:Nat} {Q:AEx->Fr->Zaa->Prop} {F:Fr} {G0:Zaa} (h1:scE S=0) (hS:Zh1 S) (hP:ZqD S l m) (ll:l.length<=20) (lm:m.length<=20) (al:∀f∈l,Zho f.2) (am:∀f∈m,Zho f.2)
  (f1:Fr.get F 1=.sl .no (rF l)) (f2:Fr.get F 2=.sl .no (rF m)) (f3:Fr.get F 3=.ptr is 0) (g6:G0.get is=some (.cells (eSc S) 25)) (hQ:∀F G,Fr.get F 6=.b true->Q .ret F G):AW Tryz.prog Zqp Q F G0:=by
 have hM:=hP.mrg
 have lg6:=Zaa.lt g6
 have hkl:∀f∈l++m,f.1.length<=1000000:=fun f hf=>by
  rcases zaz.1 hf with hf|hf
  ·have:=hM.law.fl.keys f hf;have:=hM.law.fl.dims;omega
  ·have:=hM.law.fm.keys f hf;have:=hM.law.fm.dims;omega
 have hil:∀f∈Znr (l++m),f.1.length<=1000000/\Zho f.2:=fun f hf=>by
  have:=ZoC (l:=l++m) (P:=fun f=>f.1.length<=1000000/\Zho f.2) (fun g hg=>⟨hkl g hg,by
   rcases zaz.1 hg with hg|hg
   ·exact al g hg
   ·exact am g hg⟩) (l++m).length (zaf _)
  rw[zaN]at this
  exact this f hf
 have hls:(Znr (l++m)).length<=1000000:=by
  have:=ZoB (l++m) (l++m).length (zaf _)
  rw[zaN,zak]at this
  omega
 have hso:=fun t G=>Zpa t (l++m) G (by simp;omega) hkl
 have hfo:=fun t G=>Zpu t (Znr (l++m)) _ G hls hil hP.fold
 have hall:=Znt l
 have halm:=Znt m
 have b1:l.length<=maxLen/\l.length * 104<=140737488355328:=by unfold maxLen;omega
 have b2:m.length<=maxLen/\m.length * 104<=140737488355328:=by unfold maxLen;omega
 have b3:l.length+m.length<=maxLen/\(l.length+m.length) * 104<=140737488355328:=by unfold maxLen;omega
 have hcl:l=[]∨∃a r,rF l=a :: r:=by
  cases l with
  | nil=>exact .inl rfl
  | cons a r=>exact .inr ⟨_,_,rfl⟩
 have hcm:m=[]∨∃a r,rF m=a :: r:=by
  cases m with
  | nil=>exact .inl rfl
  | cons a r=>exact .inr ⟨_,_,rfl⟩
 have hjl:∀a r,rF l=a :: r->ZaE 11 (a :: r)=true/\r.length+1<=maxLen/\(r.length+1) * 104<=140737488355328:=fun a r h=>by
  have hn:=congrArg List.length h
  rw[zaa,List.length_cons]at hn
  rw[← h,← hn]
  exact⟨hall,b1.1,b1.2⟩
 have hjm:∀a r,rF m=a :: r->ZaE 11 (a :: r)=true/\r.length+1<=maxLen/\(r.length+1) * 104<=140737488355328:=fun a r h=>by
  have hn:=congrArg List.length h
  rw[zaa,List.length_cons]at hn
  rw[← h,← hn]
  exact⟨halm,b2.1,b2.2⟩
 have qr:=trivial
 have qn:=trivial
 unfold Zqp
 rcases hcl with e|⟨a,r,hal⟩
 ·have hr0:rF l=[]:=by rw[e];rfl
  have hl0:l.length=0:=by rw[e];rfl
  rcases hcm with e2|⟨a2,r2,hal2⟩
  ·have hr1:rF m=[]:=by rw[e2];rfl
   have hl1:m.length=0:=by rw[e2];rfl
   have hrlm:rF (l++m)=[]:=by rw[e,e2];rfl
   rw[hrlm]at hso
   ((have hd:=tv;repeat' first|(first|apply Zad|apply Zac|apply Zab)<;>intro hd<;>try simp only[hd]|simp(disch:=first|assumption|omega|simp only[nx]<;>omega|fail)only[hd,qr,qn,Zna,↓YA,YY,sevalprocAttr,f1,f2,hr0,hl0,hr1,hl1,Zgy,zaG,zbm,and_true])<;>try revert hd;refine ttr ?_)
   (refine Zap.use (hso _ _) ?_;rintro _ _ ⟨rfl,k5,rfl⟩)
   ((have hd:=tv;repeat' first|(first|apply Zad|apply Zac|apply Zab)<;>intro hd<;>try simp only[hd]|simp(disch:=first|assumption|omega|simp only[nx]<;>omega|fail)only[hd,qr,qn,Zna,↓YA,YY,sevalprocAttr])<;>try revert hd;refine ttr ?_)
   (refine Zap.use (hfo _ _) ?_;rintro _ _ ⟨rfl,k6,rfl⟩)
   ((have hd:=tv;repeat' first|(first|apply Zad|apply Zac|apply Zab)<;>intro hd<;>try simp only[hd]|simp(disch:=first|assumption|omega|simp only[nx]<;>omega|fail)only[hd,qr,qn,Zna,↓YA,YY,sevalprocAttr])<;>try revert hd;refine ttr ?_)
   have g7:=((Zaa.Ext.refl G0).bump (k:=k5)).bump (k:=k6) |>.get _ _ g6
   exact Zny h1 hS hP ll lm al am (by first|exact f1|simp[Fr.get,Fr.put,f1]) (by first|exact f2|simp[Fr.get,Fr.put,f2]) (by first|exact f3|simp[Fr.get,Fr.put,f3]) rfl rfl g7 hQ
  ·obtain⟨j1,j2,j3⟩:=hjm a2 r2 hal2
   have hcat:a2 :: r2=rF (l++m):=by rw[e,← hal2];rfl
   ((have hd:=tv;repeat' first|(first|apply Zad|apply Zac|apply Zab)<;>intro hd<;>try simp only[hd]|simp(disch:=first|assumption|omega|simp only[nx]<;>omega|fail)only[hd,qr,qn,Zna,↓YA,YY,sevalprocAttr,f1,f2,hr0,hl0,Zgy,zaG,zbm,and_true,hal2,j1,j2,j3,b2.1,b2.2])<;>try revert hd;refine ttr ?_)
   simp only[hcat]
   have g6:(G0.alloc (.tok (r2.length+1) 88 11)).get is=some (.cells (eSc S) 25):=(Zaa.Ext.refl G0).alloc.get _ _ g6
   (refine Zap.use (hso _ _) ?_;rintro _ _ ⟨rfl,k5,rfl⟩)
   ((have hd:=tv;repeat' first|(first|apply Zad|apply Zac|apply Zab)<;>intro hd<;>try simp only[hd]|simp(disch:=first|assumption|omega|simp only[nx]<;>omega|fail)only[hd,qr,qn,Zna,↓YA,YY,sevalprocAttr])<;>try revert hd;refine ttr ?_)
   (refine Zap.use (hfo _ _) ?_;rintro _ _ ⟨rfl,k6,rfl⟩)
   ((have hd:=tv;repeat' first|(first|apply Zad|apply Zac|apply Zab)<;>intro hd<;>try simp only[hd]|simp(disch:=first|assumption|omega|simp only[nx]<;>omega|fail)only[hd,qr,qn,Zna,↓YA,YY,sevalprocAttr])<;>try revert hd;refine ttr ?_)
   have g7:=((Zaa.Ext.refl (G0.alloc (.tok (r2.length+1) 88 11))).bump (k:=k5)).bump (k:=k6) |>.get _ _ g6
   exact Zny h1 hS hP ll lm al am (by first|exact f1|simp[Fr.get,Fr.put,f1]) (by first|exact f2|simp[Fr.get,Fr.put,f2]) (by first|exact f3|simp[Fr.get,Fr.put,f3]) rfl rfl g7 hQ
 ·obtain⟨i1,i2,i3⟩:=hjl a r hal
  have hn:=congrArg List.length hal
  rw[zaa,List.length_cons]at hn
  rw[hn]at b3
  have hcat:a :: (r++rF m)=rF (l++m):=by rw[← List.cons_append,← hal];exact za9.symm
  ((have hd:=tv;repeat' first|(first|apply Zad|apply Zac|apply Zab)<;>intro hd<;>try simp only[hd]|simp(disch:=first|assumption|omega|simp only[nx]<;>omega|fail)only[hd,qr,qn,Zna,↓YA,YY,sevalprocAttr,f1,f2,hal,halm,b3.1,b3.2,i1,i2,i3,Zgy,and_true,hcat])<;>try revert hd;refine ttr ?_)
  have g6:(G0.alloc (.tok (r.length+1+m.length) 88 11)).get is=some (.cells (eSc S) 25):=(Zaa.Ext.refl G0).alloc.get _ _ g6
  (refine Zap.use (hso _ _) ?_;rintro _ _ ⟨rfl,k5,rfl⟩)
  ((have hd:=tv;repeat' first|(first|apply Zad|apply Zac|apply Zab)<;>intro hd<;>try simp only[hd]|simp(disch:=first|assumption|omega|simp only[nx]<;>omega|fail)only[hd,qr,qn,Zna,↓YA,YY,sevalprocAttr])<;>try revert hd;refine ttr ?_)
  (refine Zap.use (hfo _ _) ?_;rintro _ _ ⟨rfl,k6,rfl⟩)
  ((have hd:=tv;repeat' first|(first|apply Zad|apply Zac|apply Zab)<;>intro hd<;>try simp only[hd]|simp(disch:=first|assumption|omega|simp only[nx]<;>omega|fail)only[hd,qr,qn,Zna,↓YA,YY,sevalprocAttr])<;>try revert hd;refine ttr ?_)
  have g7:=((Zaa.Ext.refl (G0.alloc (.tok (r.length+1+m.length) 88 11))).bump (k:=k5)).bump (k:=k6) |>.get _ _ g6
  exact Zny h1 hS hP ll lm al am (by first|exact f1|simp[Fr.get,Fr.put,f1]) (by first|exact f2|simp[Fr.get,Fr.put,f2]) (by first|exact f3|simp[Fr.get,Fr.put,f3]) rfl rfl g7 hQ
set_option maxRecDepth 10000 in
set_option maxHeartbeats 8000000 in
theorem pairall_walk (S:Sc) (l m:List Fct) (H:Zaa) (hd:S.dims.length<=4000000000000) (hdt:∀d∈S.dims,d.tiers.length<=4000000000000) (al:∀f∈l,Zho f.2) (am:∀f∈m,Zho f.2):Zay Tryz.prog 6 [.agg (eSc S),.sl .no (rF l),.sl .no (rF m)] H fun r _=>r=.b true:=by
 obtain⟨f0,f1,f2,f3⟩:=ZbB S
 have g1:(H.alloc (.cells (eSc S) 25)).get H.next=some (.cells (eSc S) 25):=Zaa.Zae
 have hx0:Zaa.Ext H (H.alloc (.cells (eSc S) 25)):=(Zaa.Ext.refl H).alloc
 refine Zak hE cf6 (zac rfl) fun Q qr qn=>?_
 rw[pa_split]
 have hQf:∀F G,Fr.get F 6=.b true->Q .ret F G:=fun F G h=>by rw[qr];show ∃r2 H2,Zb6 (Fr.get F 6) G r2 H2/\r2=.b true;rw[h];exact Zaq rfl
 ((have hd:=tv;repeat' first|(first|apply Zad|apply Zac|apply Zab)<;>intro hd<;>try simp only[hd]|simp(disch:=first|assumption|omega|simp only[nx]<;>omega|fail)only[hd,qr,qn,Zna,↓YA,YY,sevalprocAttr,f0,f3])<;>try revert hd;refine ttr ?_)
 (refine Zap.use (ZoZ S _ hd hdt) ?_;rintro _ _ ⟨rfl,k1,rfl⟩)
 ((have hd:=tv;repeat' first|(first|apply Zad|apply Zac|apply Zab)<;>intro hd<;>try simp only[hd]|simp(disch:=first|assumption|omega|simp only[nx]<;>omega|fail)only[hd,qr,qn,Zna,↓YA,YY,sevalprocAttr,f0,f3])<;>try revert hd;refine ttr ?_)
 have g1:(((H.alloc (.cells (eSc S) 25)).bump k1).alloc (.cells (Zc3 (Za3 S)) 37)).get H.next=some (.cells (eSc S) 25):=by rw[Zaa.Zag (by simp only[nx];omega)];exact g1
 have g2:(((H.alloc (.cells (eSc S) 25)).bump k1).alloc (.cells (Zc3 (Za3 S)) 37)).get (H.next+1+k1)=some (.cells (Zc3 (Za3 S)) 37):=Zaa.Zae (H:=(H.alloc _).bump k1)
 have hx0:Zaa.Ext H (((H.alloc (.cells (eSc S) 25)).bump k1).alloc (.cells (Zc3 (Za3 S)) 37)):=by exact AXT
 refine Zap.use (ZiT S _) ?_
 rintro r H1 ⟨hx1,b,rfl,hb⟩
 have g1:=hx1.ext.get _ _ g1
 have g2:=hx1.ext.get _ _ g2
 have hx1:=hx0.trans hx1.ext
 cases b with
 | false =>
  ((have hd:=tv;repeat' first|(first|apply Zad|apply Zac|apply Zab)<;>intro hd<;>try simp only[hd]|simp(disch:=first|assumption|omega|simp only[nx]<;>omega|fail)only[hd,qr,qn,Zna,↓YA,YY,sevalprocAttr])<;>try revert hd;refine ttr ?_)
  refine Zap.use (Zm1 _) ?_
  rintro r H2 ⟨rfl,hx2⟩
  ((have hd:=tv;repeat' first|(first|apply Zad|apply Zac|apply Zab)<;>intro hd<;>try simp only[hd]|simp(disch:=first|assumption|omega|simp only[nx]<;>omega|fail)only[hd,qr,qn,Zna,↓YA,YY,sevalprocAttr])<;>try revert hd;refine ttr ?_)
  exact Zaq rfl
 | true =>
 have hfs:=hb rfl
 have hS:Zh1 S:=fun d hd t ht=>by have:=((hfs.2 d hd).2 t ht).2;unfold Zgr;omega
 by_cases h6:(S.dims.length:Int) > 6
 ·have d6:decide ((S.dims.length:Int) > 6)=true:=decide_eq_true h6
  ((have hd:=tv;repeat' first|(first|apply Zad|apply Zac|apply Zab)<;>intro hd<;>try simp only[hd]|simp(disch:=first|assumption|omega|simp only[nx]<;>omega|fail)only[hd,qr,qn,Zna,↓YA,YY,sevalprocAttr,g1,f0,f1,f3,d6,zaa])<;>try revert hd;refine ttr ?_)
  refine Zap.use (Zm1 _) ?_
  rintro r H2 ⟨rfl,hx2⟩
  ((have hd:=tv;repeat' first|(first|apply Zad|apply Zac|apply Zab)<;>intro hd<;>try simp only[hd]|simp(disch:=first|assumption|omega|simp only[nx]<;>omega|fail)only[hd,qr,qn,Zna,↓YA,YY,sevalprocAttr])<;>try revert hd;refine ttr ?_)
  exact Zaq rfl
 have d6:decide ((S.dims.length:Int) > 6)=false:=decide_eq_false h6
 by_cases h1:scE S=0
 case neg =>
  have d1:(scE S != 0)=true:=by simpa using h1
  ((have hd:=tv;repeat' first|(first|apply Zad|apply Zac|apply Zab)<;>intro hd<;>try simp only[hd]|simp(disch:=first|assumption|omega|simp only[nx]<;>omega|fail)only[hd,qr,qn,Zna,↓YA,YY,sevalprocAttr,g1,f0,f1,f3,d6,zaa])<;>try revert hd;refine ttr ?_)
  (refine Zap.use (ZeE S _ hS) ?_;rintro _ _ ⟨rfl,k2,rfl⟩)
  ((have hd:=tv;repeat' first|(first|apply Zad|apply Zac|apply Zab)<;>intro hd<;>try simp only[hd]|simp(disch:=first|assumption|omega|simp only[nx]<;>omega|fail)only[hd,qr,qn,Zna,↓YA,YY,sevalprocAttr,d1])<;>try revert hd;refine ttr ?_)
  refine Zap.use (Zm1 _) ?_
  rintro r H2 ⟨rfl,hx2⟩
  ((have hd:=tv;repeat' first|(first|apply Zad|apply Zac|apply Zab)<;>intro hd<;>try simp only[hd]|simp(disch:=first|assumption|omega|simp only[nx]<;>omega|fail)only[hd,qr,qn,Zna,↓YA,YY,sevalprocAttr])<;>try revert hd;refine ttr ?_)
  exact Zaq rfl
 have d0:((0:Int) != 0)=false:=rfl
 ((have hd:=tv;repeat' first|(first|apply Zad|apply Zac|apply Zab)<;>intro hd<;>try simp only[hd]|simp(disch:=first|assumption|omega|simp only[nx]<;>omega|fail)only[hd,qr,qn,Zna,↓YA,YY,sevalprocAttr,g1,f0,f1,f3,d6,zaa])<;>try revert hd;refine ttr ?_)
 (refine Zap.use (ZeE S _ hS) ?_;rintro _ _ ⟨rfl,k2,rfl⟩)
 ((have hd:=tv;repeat' first|(first|apply Zad|apply Zac|apply Zab)<;>intro hd<;>try simp only[hd]|simp(disch:=first|assumption|omega|simp only[nx]<;>omega|fail)only[hd,qr,qn,Zna,↓YA,YY,sevalprocAttr,h1,d0])<;>try revert hd;refine ttr ?_)
 have g1:(H1.bump k2).get H.next=_:=(Zaa.Ext.refl H1).bump.get _ _ g1
 have g2:=(Zaa.Ext.refl H1).bump (k:=k2) |>.get _ _ g2
 have hx1:Zaa.Ext H (H1.bump k2):=hx1.bump
 refine Zap.use (Zfs .no l 20 _ (by decide)) ?_
 rintro r H2 ⟨hx2,b,rfl,hl⟩
 have g1:=hx2.ext.get _ _ g1
 have g2:=hx2.ext.get _ _ g2
 have hx2:=hx1.trans hx2.ext
 cases b with
 | false =>
  ((have hd:=tv;repeat' first|(first|apply Zad|apply Zac|apply Zab)<;>intro hd<;>try simp only[hd]|simp(disch:=first|assumption|omega|simp only[nx]<;>omega|fail)only[hd,qr,qn,Zna,↓YA,YY,sevalprocAttr])<;>try revert hd;refine ttr ?_)
  refine Zap.use (Zm1 _) ?_
  rintro r _ ⟨rfl,_⟩
  ((have hd:=tv;repeat' first|(first|apply Zad|apply Zac|apply Zab)<;>intro hd<;>try simp only[hd]|simp(disch:=first|assumption|omega|simp only[nx]<;>omega|fail)only[hd,qr,qn,Zna,↓YA,YY,sevalprocAttr])<;>try revert hd;refine ttr ?_)
  exact Zaq rfl
 | true =>
 have hl:=hl rfl
 ((have hd:=tv;repeat' first|(first|apply Zad|apply Zac|apply Zab)<;>intro hd<;>try simp only[hd]|simp(disch:=first|assumption|omega|simp only[nx]<;>omega|fail)only[hd,qr,qn,Zna,↓YA,YY,sevalprocAttr])<;>try revert hd;refine ttr ?_)
 refine Zap.use (Zfs .no m 20 _ (by decide)) ?_
 rintro r H3 ⟨hx3,b,rfl,hm⟩
 have g1:=hx3.ext.get _ _ g1
 have g2:=hx3.ext.get _ _ g2
 have hx3:=hx2.trans hx3.ext
 cases b with
 | false =>
  ((have hd:=tv;repeat' first|(first|apply Zad|apply Zac|apply Zab)<;>intro hd<;>try simp only[hd]|simp(disch:=first|assumption|omega|simp only[nx]<;>omega|fail)only[hd,qr,qn,Zna,↓YA,YY,sevalprocAttr])<;>try revert hd;refine ttr ?_)
  refine Zap.use (Zm1 _) ?_
  rintro r _ ⟨rfl,_⟩
  ((have hd:=tv;repeat' first|(first|apply Zad|apply Zac|apply Zab)<;>intro hd<;>try simp only[hd]|simp(disch:=first|assumption|omega|simp only[nx]<;>omega|fail)only[hd,qr,qn,Zna,↓YA,YY,sevalprocAttr])<;>try revert hd;refine ttr ?_)
  exact Zaq rfl
 | true =>
 have hm:=hm rfl
 ((have hd:=tv;repeat' first|(first|apply Zad|apply Zac|apply Zab)<;>intro hd<;>try simp only[hd]|simp(disch:=first|assumption|omega|simp only[nx]<;>omega|fail)only[hd,qr,qn,Zna,↓YA,YY,sevalprocAttr])<;>try revert hd;refine ttr ?_)
 refine Zap.use (Zkx .no l _ (by omega)) ?_
 rintro r H4 ⟨hx4,b,rfl,wl⟩
 have g1:=hx4.ext.get _ _ g1
 have g2:=hx4.ext.get _ _ g2
 have hx4:=hx3.trans hx4.ext
 cases b with
 | false =>
  ((have hd:=tv;repeat' first|(first|apply Zad|apply Zac|apply Zab)<;>intro hd<;>try simp only[hd]|simp(disch:=first|assumption|omega|simp only[nx]<;>omega|fail)only[hd,qr,qn,Zna,↓YA,YY,sevalprocAttr])<;>try revert hd;refine ttr ?_)
  refine Zap.use (Zm1 _) ?_
  rintro r _ ⟨rfl,_⟩
  ((have hd:=tv;repeat' first|(first|apply Zad|apply Zac|apply Zab)<;>intro hd<;>try simp only[hd]|simp(disch:=first|assumption|omega|simp only[nx]<;>omega|fail)only[hd,qr,qn,Zna,↓YA,YY,sevalprocAttr])<;>try revert hd;refine ttr ?_)
  exact Zaq rfl
 | true =>
 have wl:=wl rfl
 ((have hd:=tv;repeat' first|(first|apply Zad|apply Zac|apply Zab)<;>intro hd<;>try simp only[hd]|simp(disch:=first|assumption|omega|simp only[nx]<;>omega|fail)only[hd,qr,qn,Zna,↓YA,YY,sevalprocAttr])<;>try revert hd;refine ttr ?_)
 refine Zap.use (Zkx .no m _ (by omega)) ?_
 rintro r H5 ⟨hx5,b,rfl,wm⟩
 have g1:=hx5.ext.get _ _ g1
 have g2:=hx5.ext.get _ _ g2
 have hx5:=hx4.trans hx5.ext
 cases b with
 | false =>
  ((have hd:=tv;repeat' first|(first|apply Zad|apply Zac|apply Zab)<;>intro hd<;>try simp only[hd]|simp(disch:=first|assumption|omega|simp only[nx]<;>omega|fail)only[hd,qr,qn,Zna,↓YA,YY,sevalprocAttr])<;>try revert hd;refine ttr ?_)
  refine Zap.use (Zm1 _) ?_
  rintro r _ ⟨rfl,_⟩
  ((have hd:=tv;repeat' first|(first|apply Zad|apply Zac|apply Zab)<;>intro hd<;>try simp only[hd]|simp(disch:=first|assumption|omega|simp only[nx]<;>omega|fail)only[hd,qr,qn,Zna,↓YA,YY,sevalprocAttr])<;>try revert hd;refine ttr ?_)
  exact Zaq rfl
 | true =>
 have wm:=wm rfl
 have hxl:(Za3 S).sizes.length<=1000000:=by unfold Za3;simp;omega
 by_cases h2:Zd7 (Za3 S) none l=0
 case neg =>
  have d2:(Zd7 (Za3 S) none l != 0)=true:=by simpa using h2
  ((have hd:=tv;repeat' first|(first|apply Zad|apply Zac|apply Zab)<;>intro hd<;>try simp only[hd]|simp(disch:=first|assumption|omega|simp only[nx]<;>omega|fail)only[hd,qr,qn,Zna,↓YA,YY,sevalprocAttr,g2])<;>try revert hd;refine ttr ?_)
  (refine Zap.use (ZfV .no (Za3 S) l _ (by omega) hxl) ?_;rintro _ _ ⟨rfl,k3,rfl⟩)
  ((have hd:=tv;repeat' first|(first|apply Zad|apply Zac|apply Zab)<;>intro hd<;>try simp only[hd]|simp(disch:=first|assumption|omega|simp only[nx]<;>omega|fail)only[hd,qr,qn,Zna,↓YA,YY,sevalprocAttr,d2])<;>try revert hd;refine ttr ?_)
  refine Zap.use (Zm1 _) ?_
  rintro r _ ⟨rfl,_⟩
  ((have hd:=tv;repeat' first|(first|apply Zad|apply Zac|apply Zab)<;>intro hd<;>try simp only[hd]|simp(disch:=first|assumption|omega|simp only[nx]<;>omega|fail)only[hd,qr,qn,Zna,↓YA,YY,sevalprocAttr])<;>try revert hd;refine ttr ?_)
  exact Zaq rfl
 by_cases h3:Zd7 (Za3 S) none m=0
 case neg =>
  have d3:(Zd7 (Za3 S) none m != 0)=true:=by simpa using h3
  ((have hd:=tv;repeat' first|(first|apply Zad|apply Zac|apply Zab)<;>intro hd<;>try simp only[hd]|simp(disch:=first|assumption|omega|simp only[nx]<;>omega|fail)only[hd,qr,qn,Zna,↓YA,YY,sevalprocAttr,g2])<;>try revert hd;refine ttr ?_)
  (refine Zap.use (ZfV .no (Za3 S) l _ (by omega) hxl) ?_;rintro _ _ ⟨rfl,k3,rfl⟩)
  ((have hd:=tv;repeat' first|(first|apply Zad|apply Zac|apply Zab)<;>intro hd<;>try simp only[hd]|simp(disch:=first|assumption|omega|simp only[nx]<;>omega|fail)only[hd,qr,qn,Zna,↓YA,YY,sevalprocAttr,h2,d0,g2])<;>try revert hd;refine ttr ?_)
  (refine Zap.use (ZfV .no (Za3 S) m _ (by omega) hxl) ?_;rintro _ _ ⟨rfl,k4,rfl⟩)
  ((have hd:=tv;repeat' first|(first|apply Zad|apply Zac|apply Zab)<;>intro hd<;>try simp only[hd]|simp(disch:=first|assumption|omega|simp only[nx]<;>omega|fail)only[hd,qr,qn,Zna,↓YA,YY,sevalprocAttr,d3])<;>try revert hd;refine ttr ?_)
  refine Zap.use (Zm1 _) ?_
  rintro r _ ⟨rfl,_⟩
  ((have hd:=tv;repeat' first|(first|apply Zad|apply Zac|apply Zab)<;>intro hd<;>try simp only[hd]|simp(disch:=first|assumption|omega|simp only[nx]<;>omega|fail)only[hd,qr,qn,Zna,↓YA,YY,sevalprocAttr])<;>try revert hd;refine ttr ?_)
  exact Zaq rfl
 have hP:=pair_ok h1 h2 h3 wl wm (by omega) (by omega)
 ((have hd:=tv;repeat' first|(first|apply Zad|apply Zac|apply Zab)<;>intro hd<;>try simp only[hd]|simp(disch:=first|assumption|omega|simp only[nx]<;>omega|fail)only[hd,qr,qn,Zna,↓YA,YY,sevalprocAttr,g2])<;>try revert hd;refine ttr ?_)
 (refine Zap.use (ZfV .no (Za3 S) l _ (by omega) hxl) ?_;rintro _ _ ⟨rfl,k3,rfl⟩)
 ((have hd:=tv;repeat' first|(first|apply Zad|apply Zac|apply Zab)<;>intro hd<;>try simp only[hd]|simp(disch:=first|assumption|omega|simp only[nx]<;>omega|fail)only[hd,qr,qn,Zna,↓YA,YY,sevalprocAttr,h2,d0,g2])<;>try revert hd;refine ttr ?_)
 (refine Zap.use (ZfV .no (Za3 S) m _ (by omega) hxl) ?_;rintro _ _ ⟨rfl,k4,rfl⟩)
 ((have hd:=tv;repeat' first|(first|apply Zad|apply Zac|apply Zab)<;>intro hd<;>try simp only[hd]|simp(disch:=first|assumption|omega|simp only[nx]<;>omega|fail)only[hd,qr,qn,Zna,↓YA,YY,sevalprocAttr,h3,d0])<;>try revert hd;refine ttr ?_)
 have g6:((H5.bump k3).bump k4).get H.next=some (.cells (eSc S) 25):=((Zaa.Ext.refl H5).bump.bump).get _ _ g1
 exact Zpe h1 hS hP hl hm al am rfl rfl rfl g6 hQf
theorem Zqq:Tryz.prog.bytesOf 102=40:=by kernel_rfl
theorem Zqg:Tryz.prog.bytesOf 107=64:=by kernel_rfl
theorem ZqW {α β γ:Type} {f:α->γ} {g:β->γ} {l:List α} {m:List β} (h:l.map f=m.map g):l.length=m.length/\∀b∈m,∃a∈l,f a=g b:=by
 refine⟨by have:=congrArg List.length h;rwa [zaa,zaa]at this,fun b hb=>?_⟩
 have:g b∈l.map f:=h ▸ List.mem_map_of_mem hb
 obtain⟨a,ha,e⟩:=zau.1 this
 exact⟨a,ha,e⟩
theorem dm_bound {x:Zo7.D} {d:Dm} (e:Zo7.enc x=eDm d) (hw:Zo7.Wt Tryz.prog reachBytes (.inl 102) x):d.tiers.length<=4000000000000:=by
 obtain⟨n,ts,u2⟩:=x
 have h3:=(((hw _ _ Tryz.underlying102).2) _ _ rfl).1 107 Tryz.underlying100
 rw[Zqg]at h3
 have h4:(show List Zqf.D from ts).length * 64<=reachBytes:=h3.1
 have e4:[AV.sc (.string n)]++([AV.sl .no ((show List Zqf.D from ts).map Zqf.enc)]++[])=eDm d:=e
 have e5:(show List Zqf.D from ts).map Zqf.enc=d.tiers.map eTr:=by
  have:=(List.cons.inj (List.cons.inj e4).2).1
  injection this
 rw[(ZqW e5).1,show reachBytes=140737488351232 from rfl]at h4
 omega
theorem ZqV {y:ZqP.D} {s:Sc} (e:ZqP.enc y=eSc s) (hw:ZqP.Wt Tryz.prog reachBytes (.inl 25) y):s.dims.length<=4000000000000/\∀d∈s.dims,d.tiers.length<=4000000000000:=by
 obtain⟨ds,ms,u⟩:=y
 have e1:[AV.sl .no ((show List Zo7.D from ds).map Zo7.enc)]++((Sh.slice .str).enc ms++[])=eSc s:=e
 have e2:(show List Zo7.D from ds).map Zo7.enc=s.dims.map eDm:=by
  have:=(List.cons.inj e1).1
  injection this
 have h1:=(hw _ _ Tryz.underlying25).1 102 Tryz.underlying22
 rw[Zqq]at h1
 have h2:(show List Zo7.D from ds).length * 40<=reachBytes:=h1.1
 have h3:∀x∈(show List Zo7.D from ds),Zo7.Wt Tryz.prog reachBytes (.inl 102) x:=h1.2
 obtain⟨k1,k2⟩:=ZqW e2
 rw[k1,show reachBytes=140737488351232 from rfl]at h2
 refine⟨by omega,fun d hd=>?_⟩
 obtain⟨x,hx,ex⟩:=k2 d hd
 exact dm_bound ex (h3 x hx)
theorem arg_scW {W:World} {cs:Array Value} {y:ZqP.D} (h:ZqP.Is W (·<W.heap.size) cs.toList y) (hw:ZqP.Wt Tryz.prog reachBytes (.inl 25) y) :
  ∃s:Sc,VR (Gh.ro (Zjd W)) W (.agg (eSc s)) (.agg cs)/\s.dims.length<=4000000000000/\∀d∈s.dims,d.tiers.length<=4000000000000:=by
 obtain⟨s,e⟩:=enc_sc h
 exact⟨s,e ▸ arg_agg (by simp[ZqP,Zo7,Zqf,Zd9,Sh.pos,Sh.size]) h,ZqV e hw⟩
end Go.Proofs.YtaapiigfmdhobaaGreat
