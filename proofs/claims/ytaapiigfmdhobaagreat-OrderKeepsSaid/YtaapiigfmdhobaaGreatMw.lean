/- Texts of the walk. -/
import Derived.Test.YtaapiigfmdhobaaGreatMk
import Derived.Test.YtaapiigfmdhobaaGreatMi
import Derived.Test.YtaapiigfmdhobaaGreatMo
import Derived.Test.YtaapiigfmdhobaaGreatMp
namespace Go.Proofs.YtaapiigfmdhobaaGreat
set_option linter.unusedSimpArgs false
set_option linter.unusedVariables false
open Go.RowKit
theorem HX.two {O:List (Nat×Zb3)} {H G G1:Zaa} (h:HX O H G) (k:HX [] G G1):HX O H G1 :=
 ⟨zaM h.n k.n,fun p hp=>(k.g _ (Zaa.lt (h.o p hp)) (by simp)).trans (h.o p hp),fun j hj hne=>(k.g _ (zbx hj h.n) (by simp)).trans (h.g j hj hne)⟩
abbrev rIt (ts:List (Tok×List Int)):List (List AV):=ts.map fun p=>[.sl p.1 (rI p.2)]
theorem wkn_rIt (t:Tok) (ts:List (Tok×List Int)) (m:Int):Wkn (.agg [.sl t (rIt ts),.i m]) (.agg (Zc3 ⟨ts.map (·.2),m⟩)):=by
 rw[ZgU]
 refine .agg _ _ rfl (fun i a b ha hb=>?_)
 match i with
 | 0 =>
  simp only[List.getElem?_cons_zero,zac]at ha hb
  subst ha hb
  refine .sl _ _ _ (by simp) (fun i r r' h h'=>?_) (fun i r r' j x y h h' hx hy=>?_)
  ·simp only[zaN]at h h'
   cases hq:ts[i]? with
   | none=>rw[hq]at h;cases h
   | some q=>rw[hq]at h h';injection h with h;injection h' with h';rw[<- h,<- h'];rfl
  ·simp only[zaN]at h h'
   cases hq:ts[i]? with
   | none=>rw[hq]at h;cases h
   | some q =>
    rw[hq]at h h'
    injection h with h
    injection h' with h'
    subst h h'
    match j with
    | 0 =>
     simp only[List.getElem?_cons_zero,zac]at hx hy
     subst hx hy
     exact Zfm _ _
    | j+1=>simp at hx
 | 1=>simp only[List.getElem?_cons_zero,List.getElem?_cons_succ,zac]at ha hb;subst ha hb;exact .refl _
 | i+2=>simp at ha
set_option maxHeartbeats 4000000 in
theorem ZoZ (S:Sc) (H:Zaa) (hl:S.dims.length<=4000000000000) (hl2:∀d∈S.dims,d.tiers.length<=4000000000000):Zay Tryz.prog 15 [.agg (eSc S)] H (Pure H (.agg (Zc3 (Za3 S)))):=by
 obtain⟨f0,f1,f2,f3⟩:=ZbB S
 refine Zak hE cf15 (zad rfl) fun Q qr qn=>?_
 ((have hd:=tv;repeat' first|(first|apply Zad|apply Zac|apply Zab)<;>intro hd<;>try simp only[hd]|simp(disch:=first|assumption|omega|simp only[nx]<;>omega|fail)only[hd,qr,qn,ZkW,↓YA,YY,sevalprocAttr,f1,f2,zaa])<;>try revert hd;refine ttr ?_)
 have hx0:Zaa.Ext H ((((H.alloc (.cells (eSc S) 25)).alloc (.cells [.sl .full [],.i 0] 37)).alloc (.cells [.sl .full [],.i (S.meas.length:Int)] 37))):=by exact AXT
 have g1:((((H.alloc (.cells (eSc S) 25)).alloc (.cells [.sl .full [],.i 0] 37)).alloc (.cells [.sl .full [],.i (S.meas.length:Int)] 37))).get (H.next+1+1)=some (.cells [.sl .full [],.i (S.meas.length:Int)] 37):=Zaa.Zae (H:=(H.alloc _).alloc _)
 have g2:((((H.alloc (.cells (eSc S) 25)).alloc (.cells [.sl .full [],.i 0] 37)).alloc (.cells [.sl .full [],.i (S.meas.length:Int)] 37))).get (H.next+1)=some (.cells [.sl .full [],.i 0] 37):=by
  rw[Zaa.Zag (by simp only[nx];omega)]
  exact Zaa.Zae (H:=H.alloc _)
 have hn0:((((H.alloc (.cells (eSc S) 25)).alloc (.cells [.sl .full [],.i 0] 37)).alloc (.cells [.sl .full [],.i (S.meas.length:Int)] 37))).next=H.next+3:=rfl
 generalize (((H.alloc (.cells (eSc S) 25)).alloc (.cells [.sl .full [],.i 0] 37)).alloc (.cells [.sl .full [],.i (S.meas.length:Int)] 37))=G0 at *
 have l1:=Zaa.lt g1
 have l2:=Zaa.lt g2
 refine Zbs [2,3,14,15] (σ:=List (Tok×List Int)) (fun(k:Nat) s=>s.map (·.2)=(S.dims.take k).map fun d=>d.tiers.map szT) (fun k s=>[]) (fun k s=>[(H.next+1+1,.cells [.sl (.own G0.next) (rIt s),.i (S.meas.length:Int)] 37),(G0.next,.tok k 57 1)]) [] (GStep.ZdO (H.next+1+1) 0 37 57 1 g1 rfl) (by simp only[ZaA,Zav,Fr.put,Fr.get,↓reduceIte,Nat.reduceEqDiff];rfl) (by intro k s;rfl) (by intro k s;rfl) (by rfl) (by unfold maxLen;omega) ?_ (by simp only[ZaF]) ?_ ?_ ?_
 ·simp
 ·rw[ZaP,ZaP]
  refine⟨?_,Zaa.Zae (H:=G0.set _ _),by simp[Zc5]⟩
  rw[Zaa.Zag (by simp only[nx];omega)]
  exact Zaa.Zal l1
 ·(rintro k ts G hk ht hG hn;try simp only[nx]at hn)
  obtain⟨q0,q1,q2,q3⟩:=Za7 S.dims[k]
  have qd:(eDm S.dims[k]).drop 2=[]:=rfl
  have htl:=hl2 _ (zal hk)
  have hlen:ts.length=k:=by
   have:=congrArg List.length ht
   simp at this;omega
  ((have hd:=tv;repeat' first|(first|apply Zad|apply Zac|apply Zab)<;>intro hd<;>try simp only[hd]|simp(disch:=first|assumption|omega|simp only[nx]<;>omega|fail)only[hd,qr,qn,ZkW,↓YA,YY,sevalprocAttr,hk,q0,q2,q3,qd,zau,zaa])<;>try revert hd;refine ttr ?_)
  have hG1:=hG.alloc (o:=.cells (eDm S.dims[k]) 102)
  have g5:(G.alloc (.cells (eDm S.dims[k]) 102)).get G.next=some (.cells (eDm S.dims[k]) 102):=Zaa.Zae
  generalize G.alloc (.cells (eDm S.dims[k]) 102)=G1 at *
  generalize hD:S.dims[k]=D at *
  refine Zbs [2,3,14,15,16,21,22] (σ:=Unit) (fun(k:Nat) s=>True) (fun k s=>[(6,.sl (.own G1.next) (rI ((D.tiers.take k).map szT)))]) (fun k s=>[(G1.next,.tok k 3 1)]) () (GStep.tok 6 3 1 rfl) (by simp only[ZaA,Zav,Fr.put,Fr.get,↓reduceIte,Nat.reduceEqDiff];rfl) (by intro k s;rfl) (by intro k s;rfl) (by rfl) (by unfold maxLen;omega) ?_ (by simp only[ZaF,ZaX,Fr.put,Fr.get,↓reduceIte,Nat.reduceEqDiff,and_self]<;>simp) ?_ ?_ ?_
  ·trivial
  ·rw[ZaP]
   exact⟨Zaa.Zae (H:=G1),by simp[Zc5]⟩
  ·(rintro j u G2 hj ht2 hG2 hn2;try simp only[nx]at hn2)
   have ho:=hG2.o1
   have lo:=Zaa.lt ho
   have hr:=Zdh hj
   obtain⟨t0,t1,t2,t3,t4⟩:=Zba D.tiers[j]
   have td:(eTr D.tiers[j]).drop 3=[]:=rfl
   have hsn:rI ((D.tiers.take j).map szT)++[[.i (D.tiers[j].terms.length:Int)]]=rI ((D.tiers.take (j+1)).map szT):=by rw[ZcR hj];simp[szT]
   have la1:ZaE 1 (rI ((D.tiers.take j).map szT))=true:=ZaU (f:=fun n:Int=>[AV.i n]) (fun _=>rfl) _
   have la2:ZaE 1 [[AV.i (D.tiers[j].terms.length:Int)]]=true:=rfl
   have lm1:j+1<=maxLen:=by unfold maxLen;omega
   have lm2:(j+1) * 8<=140737488355328:=by omega
   have hrl:(rI ((D.tiers.take j).map szT)).length=j:=by simp;omega
   ((have hd:=tv;repeat' first|(first|apply Zad|apply Zac|apply Zab)<;>intro hd<;>try simp only[hd]|simp(disch:=first|assumption|omega|simp only[nx]<;>omega|fail)only[hd,qr,qn,ZkW,↓YA,YY,sevalprocAttr,hr,t0,t2,t4,td,ho,la1,la2,lm1,lm2,hrl,ZaL,rowsOf,zau,zaa,List.length_singleton])<;>try revert hd;refine ttr ?_)
   exact⟨(),congrArg (AV.sl _) hsn,hG2.alloc.put⟩
  ·(rintro u G2 ht2 hG2 hn2;try simp only[nx]at hn2)
   have ho1:=hG1.o1
   have ho2:=hG1.o2
   have lo1:=Zaa.lt ho1
   have lo2:=Zaa.lt ho2
   have e1:=(hG2.g _ (by simp only[nx];omega) (by simp;omega)).trans ((Zaa.Zag (by omega)).trans ho1)
   have e2:=(hG2.g _ (by simp only[nx];omega) (by simp;omega)).trans ((Zaa.Zag (by omega)).trans ho2)
   have le1:=Zaa.lt e1
   have le2:=Zaa.lt e2
   have la1:ZaE 1 (rIt ts)=true:=ZaU (f:=fun p:Tok×List Int=>[AV.sl p.1 (rI p.2)]) (fun _=>rfl) ts
   have la2:ZaE 1 [[AV.sl (.own G1.next) (rI (D.tiers.map szT))]]=true:=rfl
   have lm1:k+1<=maxLen:=by unfold maxLen;omega
   have lm2:(k+1) * 24<=140737488355328:=by omega
   have hrl:(rIt ts).length=k:=by simp;omega
   rw[zaP]
   ((have hd:=tv;repeat' first|(first|apply Zad|apply Zac|apply Zab)<;>intro hd<;>try simp only[hd]|simp(disch:=first|assumption|omega|simp only[nx]<;>omega|fail)only[hd,qr,qn,ZkW,↓YA,YY,sevalprocAttr,e1,e2,la1,la2,lm1,lm2,hrl,ZaL,rowsOf,zaa,List.length_singleton])<;>try revert hd;refine ttr ?_)
   have hkk:HX [] G1 G2:=by
    have kn:=hG2.n
    simp only[nx]at kn
    refine⟨by omega,by simp[Zc5],fun i hi _=>?_⟩
    exact(hG2.g i (by simp only[nx];omega) (by simp;omega)).trans (Zaa.Zag (by omega))
   have happ:rIt ts++[[.sl (.own G1.next) (rI (D.tiers.map szT))]]=rIt (ts++[(.own G1.next,D.tiers.map szT)]):=by simp[rIt]
   refine⟨ts++[(.own G1.next,D.tiers.map szT)],by rw[ZcR hk,zaV,ht,hD];rfl,?_⟩
   rw[happ]
   exact(hG1.two hkk).put2 (by omega)
 ·(rintro ts G ht hG hn;try simp only[nx]at hn)
  have ho1:=hG.o1
  have hc:=(hG.g (H.next+1) (by simp only[nx];omega) (by simp;omega)).trans ((Zaa.Zag (by simp only[nx];omega)).trans ((Zaa.Zah (by omega)).trans g2))
  have lo1:=Zaa.lt ho1
  have lc:=Zaa.lt hc
  rw[zaP]at ht
  ((have hd:=tv;repeat' first|(first|apply Zad|apply Zac|apply Zab)<;>intro hd<;>try simp only[hd]|simp(disch:=first|assumption|omega|simp only[nx]<;>omega|fail)only[hd,qr,qn,ZkW,↓YA,YY,sevalprocAttr,ho1,hc])<;>try revert hd;refine ttr ?_)
  have hw:=wkn_rIt (.own G0.next) ts (S.meas.length:Int)
  rw[ht]at hw
  exact Zc1 hw ((hG.ZdB ((hx0.set (by omega)).alloc) (by simp;omega)).set (by omega))
theorem ZeM (S:Sc) (H:Zaa) (hl:S.dims.length<=1000000) (hl2:∀d∈S.dims,d.tiers.length<=1000000):Zay Tryz.prog 15 [.agg (eSc S)] H (Pure H (.agg (Zc3 (Za3 S)))):=ZoZ S H (by omega) fun d hd=>by have:=hl2 d hd;omega
theorem Zjt:∀(a b:List Int),decide (a<b)=!decide (cmpL a b≥0)
 | [],[]=>by simp[cmpL]
 | [],_ :: _=>by simp[cmpL]
 | _ :: _,[]=>by simp[cmpL]
 | x :: a,y :: b=>by
  have ih:=Zjt a b
  rw[cmpL]
  unfold Zgz
  rcases Int.lt_trichotomy x y with h|h|h
  ·have h2:¬y<x:=by omega
   simp[zco,h,h2]
  ·subst h
   simp only[zco,Int.lt_irrefl,false_or,true_and,ih]
   simp
  ·have h2:¬x<y:=by omega
   have h3:x≠y:=by omega
   simp[zco,h,h2,h3]
def kyL (l:List Fct) (d i:Nat):Nat:=((l.getD i ([],ag0)).1.getD d 0).toNat
def undR (D:Dm) (l:List Fct) (d t:Nat) (key:Int) (part:List Nat):List Nat:=part.filter fun i=>Zdo D t (kyL l d i) == key
@[simp] theorem undR_nil {D:Dm} {l:List Fct} {d t:Nat} {key:Int}:undR D l d t key []=[]:=rfl
def PartIn (D:Dm) (l:List Fct) (d:Nat) (part:List Nat):Prop:=∀i∈part,i<l.length/\d<(l.getD i ([],ag0)).1.length/\0<=(l.getD i ([],ag0)).1.getD d 0/\kyL l d i<n0 D
structure DSt where
 N:List Nod
 P:List (List Nat)
 over:Bool
def Zc2 (facts:List Fct) (f:DSt->List Nat->DSt×Int) (last:Bool) (c:DSt) (key:Int) (part:List Nat):DSt×Cel :=
 if last=true then (⟨c.N,c.P,c.over || (ZdJ facts ag0 part).isNone⟩,⟨key,0,(ZdJ facts ag0 part).getD ag0⟩) else ((f c part).1,⟨key,(f c part).2,ag0⟩)
def cellsD (g:DSt->Int->List Nat->DSt×Cel):DSt->List (Int×List Nat)->DSt×List Cel
 | c,[]=>(c,[])
 | c,p :: ps=>((cellsD g (g c p.1 p.2).1 ps).1,(g c p.1 p.2).2 :: (cellsD g (g c p.1 p.2).1 ps).2)
def ZbW (g:DSt->Int->List Nat->DSt×Cel):DSt->List (List (Int×List Nat))->DSt×List (List Cel)
 | c,[]=>(c,[])
 | c,p :: ps=>((ZbW g (cellsD g c p).1 ps).1,(cellsD g c p).2 :: (ZbW g (cellsD g c p).1 ps).2)
def ZdH:Nod:=⟨0,[],ZcE⟩
def ZgB (d:Nat) (part:List Nat) (N:List Nod) (P:List (List Nat)) (i:Nat):Bool:=decide ((N.getD i ZdH).dim=(d:Int))&&decide (P.getD i []=part)
def Ze3 (d:Nat) (part:List Nat) (N:List Nod) (P:List (List Nat)):Option Nat:=(List.range N.length).find? (ZgB d part N P)
def Ze8 (d:Nat) (part:List Nat) (a:DSt×Cel) (ls:List (List Cel)):DSt×Int:=(⟨a.1.N++[⟨d,ls,a.2⟩],a.1.P++[part],a.1.over⟩,(a.1.N.length:Int))
def visM (c:DSt) (r:DSt×Int):Option Nat->DSt×Int
 | some i=>(c,(i:Int))
 | none=>r
def ZpU (x:Shp) (L:List (List (List Int))) (facts:List Fct) (f:DSt->List Nat->DSt×Int) (d:Nat) (c:DSt) (part:List Nat):DSt×Int :=
 visM c (Ze8 d part (Zc2 facts f (decide (d+1=L.length)) (ZbW (Zc2 facts f (decide (d+1=L.length))) c (ZaC x L facts d part)).1 0 part) (ZbW (Zc2 facts f (decide (d+1=L.length))) c (ZaC x L facts d part)).2) (Ze3 d part c.N c.P)
def Zhq (x:Shp) (L:List (List (List Int))) (facts:List Fct):Nat->DSt->List Nat->DSt×Int
 | 0,c,_=>(c,0)
 | n+1,c,part=>ZpU x L facts (Zhq x L facts n) (L.length - (n+1)) c part
def Zdd (e:Int) (c c':DSt):Prop:=∃N' P',c'.N=c.N++N'/\c'.P=c.P++P'/\N'.length=P'.length/\(∀n∈N',e<=n.dim)/\(c.over=true->c'.over=true)
theorem Zdd.refl (e:Int) (c:DSt):Zdd e c c:=⟨[],[],by simp,by simp,rfl,by simp,id⟩
theorem Zdd.trans {e:Int} {c c' c'':DSt} (h:Zdd e c c') (k:Zdd e c' c''):Zdd e c c'':=by
 obtain⟨N1,P1,h1,h2,h3,h4,h5⟩:=h
 obtain⟨N2,P2,k1,k2,k3,k4,k5⟩:=k
 refine⟨N1++N2,P1++P2,by rw[k1,h1,zaI],by rw[k2,h2,zaI],by simp[h3,k3],fun n hn=>?_,fun h=>k5 (h5 h)⟩
 rcases zaC.1 hn with hn|hn
 ·exact h4 n hn
 ·exact k4 n hn
theorem Zdd.weak {e e':Int} {c c':DSt} (h:Zdd e c c') (he:e'<=e):Zdd e' c c':=by
 obtain⟨N1,P1,h1,h2,h3,h4,h5⟩:=h
 exact⟨N1,P1,h1,h2,h3,fun n hn=>Int.le_trans he (h4 n hn),h5⟩
theorem Zdd.pre {e:Int} {c c':DSt} (h:Zdd e c c'):c.N <+: c'.N:=by
 obtain⟨N1,P1,h1,_⟩:=h
 exact⟨N1,h1.symm⟩
theorem Zdd.len {e:Int} {c c':DSt} (h:Zdd e c c') (hl:c.N.length=c.P.length):c'.N.length=c'.P.length:=by
 obtain⟨N1,P1,h1,h2,h3,_⟩:=h
 rw[h1,h2,zaj,zaj,hl,h3]
theorem Zld {d:Nat} {part:List Nat} {N N':List Nod} {P P':List (List Nat)} (hl:N.length=P.length) :
  Ze3 d part (N++N') (P++P')=match Ze3 d part N P with|some i=>some i|none=>(Ze3 d part N' P').map (N.length+·):=by
 have e:List.range (N++N').length=List.range N.length++(List.range N'.length).map (N.length+·):=by rw[zaj];exact List.range_add ..
 have h1:(List.range N.length).find? (ZgB d part (N++N') (P++P'))=(List.range N.length).find? (ZgB d part N P):=by
  have:∀l:List Nat,(∀i∈l,i<N.length)->l.find? (ZgB d part (N++N') (P++P'))=l.find? (ZgB d part N P):=by
   intro l
   induction l with
   | nil=>intro _;rfl
   | cons a l ih =>
    intro h
    have ha:=h a zah
    have hh:ZgB d part (N++N') (P++P') a=ZgB d part N P a:=by
     unfold ZgB
     simp only[zaf]
     rw[zaH ha,zaH (by omega)]
    rw[List.find?_cons,List.find?_cons,hh,ih fun i hi=>h i (zae _ hi)]
  exact this _ fun i hi=>by simpa using hi
 have h2:((List.range N'.length).map (N.length+·)).find? (ZgB d part (N++N') (P++P'))=(Ze3 d part N' P').map (N.length+·):=by
  rw[List.find?_map]
  congr 1
  have hf:(ZgB d part (N++N') (P++P') ∘ (N.length+·))=ZgB d part N' P':=by
   funext i
   simp only[Function.comp_apply,ZgB,zaf]
   rw[zaS (by omega),zaS (by omega),hl,Nat.add_sub_cancel_left]
  rw[hf];rfl
 unfold Ze3 at *
 rw[e,List.find?_append,h1,h2]
 cases (List.range N.length).find? (ZgB d part N P)<;>rfl
theorem fnd_none {d:Nat} {part:List Nat} {N:List Nod} {P:List (List Nat)} (h:∀n∈N,n.dim≠(d:Int)):Ze3 d part N P=none:=by
 unfold Ze3
 rw[zce]
 intro i hi
 have hi:i<N.length:=by simpa using hi
 unfold ZgB
 rw[zaf,zab hi]
 simp[h _ (zal hi)]
theorem Zdd.fnd {e:Int} {c c':DSt} (h:Zdd e c c') (hl:c.N.length=c.P.length) {d:Nat} (hd:(d:Int)<e) (part:List Nat):Ze3 d part c'.N c'.P=Ze3 d part c.N c.P:=by
 obtain⟨N1,P1,h1,h2,h3,h4,_⟩:=h
 rw[h1,h2,Zld hl,fnd_none (N:=N1) (fun n hn=>by have:=h4 n hn;omega)]
 cases Ze3 d part c.N c.P<;>rfl
theorem fnd_one (d d':Nat) (part part':List Nat) (ls:List (List Cel)) (a:Cel):Ze3 d' part' [⟨(d:Int),ls,a⟩] [part]=if d'=d/\part'=part then some 0 else none:=by
 have h:Ze3 d' part' [⟨(d:Int),ls,a⟩] [part]=if ZgB d' part' [⟨(d:Int),ls,a⟩] [part] 0=true then some 0 else none:=by
  unfold Ze3
  rw[show List.range ([(⟨(d:Int),ls,a⟩:Nod)]).length=[0]from rfl,List.find?_cons]
  cases ZgB d' part' [⟨(d:Int),ls,a⟩] [part] 0<;>rfl
 rw[h]
 have:(ZgB d' part' [⟨(d:Int),ls,a⟩] [part] 0=true) ↔ (d'=d/\part'=part):=by
  unfold ZgB
  simp only[List.getD_cons_zero,zaA,decide_eq_true_eq]
  constructor
  ·rintro⟨h1,h2⟩;exact⟨by omega,h2.symm⟩
  ·rintro⟨h1,h2⟩;exact⟨by omega,h2.symm⟩
 by_cases hc:d'=d/\part'=part
 ·rw[if_pos (this.2 hc),if_pos hc]
 ·rw[if_neg (fun h=>hc (this.1 h)),if_neg hc]
theorem Zly {d:Nat} {part:List Nat} {N:List Nod} {P:List (List Nat)} {i:Nat} (h:Ze3 d part N P=some i):i<N.length/\(N.getD i ZdH).dim=(d:Int)/\P.getD i []=part:=by
 unfold Ze3 at h
 have h1:=List.mem_of_find?_eq_some h
 have h2:=List.find?_some h
 unfold ZgB at h2
 simp only[zaA,decide_eq_true_eq]at h2
 exact⟨by simpa using h1,h2⟩
structure Rel (facts:List Fct) (D:Nat) (most:Int) (s:BSt) (c:DSt):Prop where
 len:c.N.length=c.P.length
 ok:s.e=0->s.N=c.N/\c.over=false/\(c.N.length:Int)<=most/\∀d part,d<D->Zbz facts part->Zcz (nmP d part) s.M=(Ze3 d part c.N c.P).map fun i:Nat=>(i:Int)
 bad:s.e≠0->(s.e=12/\c.over=true)\/(s.e=7/\most<c.N.length)
theorem Rel.mono {facts:List Fct} {D:Nat} {most e:Int} {s s':BSt} {c c':DSt} (h:Rel facts D most s c) (he:s.e≠0) (hm:Zdd e c c') (hs:s'.e=s.e\/(s'.e=12/\c'.over=true)):Rel facts D most s' c':=by
 refine⟨hm.len h.len,fun h0=>?_,fun _=>?_⟩
 ·rcases hs with hs|hs
  ·exact absurd (hs.symm.trans h0) he
  ·omega
 ·rcases hs with hs|hs
  ·obtain⟨N1,P1,h1,h2,h3,h4,h5⟩:=hm
   rcases h.bad he with⟨k1,k2⟩|⟨k1,k2⟩
   ·exact .inl ⟨hs.trans k1,h5 k2⟩
   ·refine .inr ⟨hs.trans k1,?_⟩
    rw[h1,zaj]
    omega
  ·exact .inl hs
def LdOk (last:Bool) (d:Nat) (N:List Nod) (c:Cel):Prop:=last=false->0<=c.child/\c.child<N.length/\(N.getD c.child.toNat ⟨0,[],ZcE⟩).dim=(d:Int)+1
theorem LdOk.pre {last:Bool} {d:Nat} {N N':List Nod} {c:Cel} (h:LdOk last d N c) (hp:N <+: N'):LdOk last d N' c:=fun hl=>by
 obtain⟨h1,h2,h3⟩:=h hl
 obtain⟨t,rfl⟩:=hp
 refine⟨h1,by rw[zaj];omega,?_⟩
 rw[zaf,zaH (by omega),<- zaf]
 exact h3
section
variable {x:Shp} {L:List (List (List Int))} {facts:List Fct} {most:Int}
def CelL (x:Shp) (facts:List Fct) (D:Nat) (most:Int) (last:Bool) (d:Nat) (g:BSt->Int->List Nat->BSt×Cel) (h:DSt->Int->List Nat->DSt×Cel):Prop :=
 ∀s c k p,Zbz facts p->Rel facts D most s c->Rel facts D most (g s k p).1 (h c k p).1/\Zdd ((d:Int)+1) c (h c k p).1 /\
  ((g s k p).1.e=0->s.e=0/\(g s k p).2=(h c k p).2/\(h c k p).2.key=k/\ZbQ x d (h c k p).2=true/\LdOk last d (h c k p).1.N (h c k p).2)
theorem ZhB {D d:Nat} {last:Bool} {g:BSt->Int->List Nat->BSt×Cel} {h:DSt->Int->List Nat->DSt×Cel} (hg:CelL x facts D most last d g h):∀(l:List (Int×List Nat)) (s:BSt) (c:DSt),(∀q∈l,Zbz facts q.2)->Rel facts D most s c->Rel facts D most (ZbG g s l).1 (cellsD h c l).1/\Zdd ((d:Int)+1) c (cellsD h c l).1 /\
  ((ZbG g s l).1.e=0->s.e=0/\(ZbG g s l).2=(cellsD h c l).2/\(cellsD h c l).2.map Cel.key=l.map (·.1)/\∀z∈(cellsD h c l).2,ZbQ x d z=true/\LdOk last d (cellsD h c l).1.N z)
 | [],s,c,_,hr=>⟨hr,Zdd.refl _ _,fun h=>⟨h,rfl,rfl,fun z hz=>by cases hz⟩⟩
 | p :: ps,s,c,hp,hr=>by
  obtain⟨h1,h2,h3⟩:=hg s c p.1 p.2 (hp p zah) hr
  obtain⟨k1,k2,k3⟩:=ZhB hg ps _ _ (fun q hq=>hp q (zae _ hq)) h1
  refine⟨k1,h2.trans k2,fun h0=>?_⟩
  obtain⟨m1,m2,m3,m4⟩:=k3 h0
  obtain⟨n1,n2,n3,n4,n5⟩:=h3 m1
  refine⟨n1,?_,?_,?_⟩
  ·show _ :: _=_ :: _
   rw[n2,m2]
  ·show _ :: _=_ :: _
   rw[n3,m3]
  ·intro z hz
   rcases zao.1 (show z∈(h c p.1 p.2).2 :: (cellsD h (h c p.1 p.2).1 ps).2 from hz)with rfl|hz
   ·exact⟨n4,n5.pre k2.pre⟩
   ·exact m4 z hz
theorem Zig {D d:Nat} {last:Bool} {g:BSt->Int->List Nat->BSt×Cel} {h:DSt->Int->List Nat->DSt×Cel} (hg:CelL x facts D most last d g h):∀(l:List (List (Int×List Nat))) (s:BSt) (c:DSt),(∀t∈l,∀q∈t,Zbz facts q.2)->Rel facts D most s c->Rel facts D most (Zbc g s l).1 (ZbW h c l).1/\Zdd ((d:Int)+1) c (ZbW h c l).1 /\
  ((Zbc g s l).1.e=0->s.e=0/\(Zbc g s l).2=(ZbW h c l).2/\(ZbW h c l).2.map (List.map Cel.key)=l.map (List.map (·.1))/\∀t∈(ZbW h c l).2,∀z∈t,ZbQ x d z=true/\LdOk last d (ZbW h c l).1.N z)
 | [],s,c,_,hr=>⟨hr,Zdd.refl _ _,fun h=>⟨h,rfl,rfl,fun z hz=>by cases hz⟩⟩
 | p :: ps,s,c,hp,hr=>by
  obtain⟨h1,h2,h3⟩:=ZhB hg p s c (hp p zah) hr
  obtain⟨k1,k2,k3⟩:=Zig hg ps _ _ (fun q hq=>hp q (zae _ hq)) h1
  refine⟨k1,h2.trans k2,fun h0=>?_⟩
  obtain⟨m1,m2,m3,m4⟩:=k3 h0
  obtain⟨n1,n2,n3,n4⟩:=h3 m1
  refine⟨n1,?_,?_,?_⟩
  ·show _ :: _=_ :: _
   rw[n2,m2]
  ·show _ :: _=_ :: _
   rw[n3,m3]
  ·intro t ht z hz
   rcases zao.1 (show t∈(cellsD h c p).2 :: (ZbW h (cellsD h c p).1 ps).2 from ht)with rfl|ht
   ·exact⟨(n4 z hz).1,(n4 z hz).2.pre k2.pre⟩
   ·exact m4 t ht z hz
theorem ZfP {i:Int} {m n1 n2 s1 s2 l1 l2 h1 h2:Int} (q1:1<=n1) (q2:1<=n2) (a:Zb2 i m n1 s1 l1 h1=true) (b:Zb2 i m n2 s2 l2 h2=true):Zb2 i m (n1+n2) (s1+s2) (if l2<l1 then l2 else l1) (if h2 > h1 then h2 else h1)=true:=by
 unfold Zb2 at *
 by_cases c:m<=i
 ·rw[if_pos c]at *
  simp only[decide_eq_true_eq]at *
  obtain⟨rfl,rfl,rfl⟩:=a
  obtain⟨rfl,rfl,rfl⟩:=b
  simp
 ·rw[if_neg c]at *
  simp only[zaA,decide_eq_true_eq]at *
  have hn:decide (n1+n2=1)=false:=decide_eq_false (by omega)
  rw[hn]
  refine⟨?_,rfl⟩
  have h3:=a.1
  have h4:=b.1
  split<;>split<;>omega
theorem ZlJ {m:Int} {a b c:Ag} (ha:Zbw m a=true) (hb:Zbw m b=true) (h:Zdl a b=some c):Zbw m c=true:=by
 unfold Zbw at ha hb
 simp only[zaA,decide_eq_true_eq]at ha hb
 obtain⟨⟨⟨⟨⟨a1,a2⟩,a3⟩,a4⟩,a5⟩,a6⟩:=ha
 obtain⟨⟨⟨⟨⟨b1,b2⟩,b3⟩,b4⟩,b5⟩,b6⟩:=hb
 unfold Zdl at h
 rw[if_neg (by omega),if_neg (by omega)]at h
 split at h
 ·cases h
 split at h
 ·cases h
 split at h
 ·cases h
 split at h
 ·cases h
 obtain rfl:=zb0 h
 have k0:=ZfP a3 b3 a4 b4
 have k1:=ZfP a3 b3 a5 b5
 have k2:=ZfP a3 b3 a6 b6
 unfold Zbw Zem
 simp only[show(0:Nat)<3 from by decide,show(1:Nat)<3 from by decide,show(2:Nat)<3 from by decide,if_true,zaA,decide_eq_true_eq]
 exact⟨⟨⟨⟨⟨a1,a2⟩,by omega⟩,k0⟩,k1⟩,k2⟩
theorem ZjU {m:Int} (hf:∀f∈facts,Zbw m f.2=true):∀(part:List Nat) (a b:Ag),(∀i∈part,i<facts.length)->(Zbw m a=true\/(a=ag0/\part≠[]))->ZdJ facts a part=some b->Zbw m b=true
 | [],a,b,_,ha,h=>by
  injection h with h
  subst h
  rcases ha with ha|⟨_,ha⟩
  ·exact ha
  ·exact absurd rfl ha
 | i :: r,a,b,hp,ha,h=>by
  have hi:=hp i zah
  have hg:facts.getD i ([],ag0)=facts[i]:=by rw[zaf,zab hi];rfl
  have hm:=hf _ (zal hi)
  unfold ZdJ at h
  rw[hg]at h
  split at h
  ·cases h
  ·rename_i c hc
   refine ZjU hf r c b (fun j hj=>hp j (zae _ hj)) (.inl ?_) h
   rcases ha with ha|⟨rfl,_⟩
   ·exact ZlJ ha hm hc
   ·have:Zdl ag0 facts[i].2=some facts[i].2:=by unfold Zdl;exact if_pos (show ag0.n=0 from rfl)
    rw[this]at hc
    injection hc with hc
    exact hc ▸ hm
theorem ZeS {dim size:Int}:∀{l:List Cel} {p:Option Int},(l.map Cel.key).Pairwise (·<·)->(∀q,p=some q->∀c∈l,q<c.key)->(∀c∈l,0<=c.key/\c.key<size)->(∀c∈l,ZbQ x dim c=true)->ZcA x dim size p l=0
 | [],_,_,_,_,_=>rfl
 | c :: r,p,h1,h2,h3,h4=>by
  obtain⟨k1,k2⟩:=zbs.1 h1
  have hc:=h3 c zah
  rw[ZcA,if_neg (by omega),if_neg ?_,if_neg (by rw[h4 c zah];decide)]
  ·exact ZeS k2 (fun q hq d hd=>by injection hq with hq;subst hq;exact k1 _ (zcz hd)) (fun d hd=>h3 d (zae _ hd)) fun d hd=>h4 d (zae _ hd)
  ·cases p with
   | none=>simp[ZiJ]
   | some q=>have:=h2 q rfl c zah;simp[ZiJ];omega
theorem Zec {dim:Int}:∀{ls:List (List Cel)} {ss:List Int} {p:Option Nat},(∀i (h:i<ls.length) (h':i<ss.length),ZbN x dim ss[i] ls[i]=0)->(∀i (h:i+1<ls.length),ls[i+1].length<=ls[i].length)->(∀q,p=some q->∀h:0<ls.length,ls[0].length<=q)->ZbH x dim p ss ls=0
 | [],ss,p,_,_,_=>ZeZ x dim p ss
 | l :: r,[],p,_,_,_=>by cases p<;>rfl
 | l :: r,s :: ss,p,h1,h2,h3=>by
  have h0:ZbN x dim s l=0:=h1 0 (by simp) (by simp)
  rw[ZbH,if_neg (by rw[h0];decide),if_neg ?_]
  ·refine Zec (fun i h h'=>?_) (fun i h=>?_) fun q hq h=>?_
   ·exact h1 (i+1) (by simpa using h) (by simpa using h')
   ·exact h2 (i+1) (by simpa using h)
   ·injection hq with hq
    subst hq
    exact h2 0 (by simpa using h)
  ·cases p with
   | none=>simp[Zkf]
   | some q=>have:=h3 q rfl (by simp);simp[Zkf]at *;omega
theorem Zep:∀{l m:List Int},l.Nodup->(∀a∈l,a∈m)->l.length<=m.length
 | [],_,_,_=>zaT _
 | a :: l,m,h1,h2=>by
  obtain⟨k1,k2⟩:=zbz.1 h1
  have hm:=h2 a zah
  have:=Zep (m:=m.erase a) k2 fun b hb=>(zca fun(e:b=a)=>k1 (by rw[<- e];exact hb)).2 (h2 b (zae _ hb))
  rw[List.length_erase_of_mem hm]at this
  have:0<m.length:=zck hm
  simp only[List.length_cons]
  omega
def UpOk (L:List (List (List Int))) (facts:List Fct):Prop:=∀d t i j,d<L.length->t+1<(L.getD d []).length->i<facts.length->j<facts.length->Zdm L facts d t i=Zdm L facts d t j->Zdm L facts d (t+1) i=Zdm L facts d (t+1) j
theorem Zl5 {key:Nat->Int} {n:Nat} {part:List Nat} {k:Int} (h:k∈(grs key n part).map (·.1)):(0<=k/\k<n)/\∃i∈part,key i=k:=by
 obtain⟨g,hg,rfl⟩:=zan.1 h
 have h2:=Zfb hg
 unfold grs at hg
 obtain⟨m,hm,h⟩:=zbB.1 hg
 have hm:m<n:=by simpa using hm
 split at h
 ·cases h
 ·injection h with h
  subst h
  obtain⟨i,hi⟩:=zbH _ h2.1
  obtain⟨i1,i2⟩:=zbb.1 hi
  exact⟨⟨by simp,by simp;omega⟩,i,i1,by simpa using i2⟩
theorem Zfg {key:Nat->Int} {n:Nat} {part:List Nat} {i:Nat} (hi:i∈part) (h:0<=key i/\key i<n):key i∈(grs key n part).map (·.1):=by
 refine zan.2 ⟨(key i,part.filter fun j=>decide (key j=key i)),?_,rfl⟩
 unfold grs
 refine zbB.2 ⟨(key i).toNat,by simp;omega,?_⟩
 have e:((key i).toNat:Int)=key i:=by omega
 simp only[e]
 rw[if_neg]
 exact List.ne_nil_of_mem (zbb.2 ⟨hi,by simp⟩)
theorem Zkj {l:List Int} (h:l.Pairwise (·<·)):l.Nodup:=h.imp fun h=>by omega
theorem grs_less {part:List Nat} (hF:ZbI x L facts) (hU:UpOk L facts) (hp:Zbz facts part) {d t:Nat} (hd:d<L.length) (ht:t+1<L[d].length):(grs (Zdm L facts d (t+1)) (Zch x d (t+1)) part).length<=(grs (Zdm L facts d t) (Zch x d t) part).length:=by
 have h1:=(hF.Ziy hp hd (t:=t) (by omega)).2
 have h2:=(hF.Ziy hp hd (t:=t+1) ht).2
 -- each key of the tier above is that of a member below
 have hn:((grs (Zdm L facts d (t+1)) (Zch x d (t+1)) part).map (·.1)).Nodup:=Zkj (zbS.2 (Ze9 _ _ _))
 have key:∀k:Int,∃u:Int,∀i∈part,Zdm L facts d t i=k->Zdm L facts d (t+1) i=u:=fun k=>by
  by_cases c:∃i∈part,Zdm L facts d t i=k
  ·obtain⟨i,hi,he⟩:=c
   exact⟨Zdm L facts d (t+1) i,fun j hj hk=>hU d t j i hd (by simpa [zab hd] using ht) (hp.2.2 j hj) (hp.2.2 i hi) (hk.trans he.symm)⟩
  ·exact⟨0,fun i hi hk=>absurd ⟨i,hi,hk⟩ c⟩
 obtain⟨u,hu⟩:=zbW key
 have:=Zep (m:=((grs (Zdm L facts d t) (Zch x d t) part).map (·.1)).map u) hn fun a ha=>by
  obtain⟨_,i,hi,he⟩:=Zl5 ha
  refine zan.2 ⟨Zdm L facts d t i,Zfg hi (h1 i hi),?_⟩
  rw[<- he]
  exact(hu _ i hi rfl).symm
 simpa using this
def NodL (facts:List Fct) (D:Nat) (most:Int) (d:Nat) (f:BSt->List Nat->BSt×Int) (h:DSt->List Nat->DSt×Int):Prop :=
 ∀s c p,Zbz facts p->Rel facts D most s c->Rel facts D most (f s p).1 (h c p).1/\Zdd d c (h c p).1 /\
  ((f s p).1.e=0->s.e=0/\(f s p).2=(h c p).2/\0<=(h c p).2/\(h c p).2<(h c p).1.N.length/\((h c p).1.N.getD (h c p).2.toNat ⟨0,[],ZcE⟩).dim=(d:Int))
theorem cell_law {D d:Nat} {last:Bool} {f:BSt->List Nat->BSt×Int} {h:DSt->List Nat->DSt×Int} (hm:∀f∈facts,Zbw x.measures f.2=true) (hl:last=lastB x d) (hf:last=false->NodL facts D most (d+1) f h):CelL x facts D most last d (ZbM facts f last) (Zc2 facts h last):=by
 intro s c k p hp hr
 cases last with
 | true =>
  have e1:ZbM facts f true s k p=(sumE s (ZdJ facts ag0 p),⟨k,0,(ZdJ facts ag0 p).getD ag0⟩):=rfl
  have e2:Zc2 facts h true c k p=(⟨c.N,c.P,c.over || (ZdJ facts ag0 p).isNone⟩,⟨k,0,(ZdJ facts ag0 p).getD ag0⟩):=rfl
  rw[e1,e2]
  have hM:Zdd ((d:Int)+1) c ⟨c.N,c.P,c.over || (ZdJ facts ag0 p).isNone⟩:=⟨[],[],by simp,by simp,rfl,by simp,fun h=>by simp[h]⟩
  cases hs:ZdJ facts ag0 p with
  | none =>
   rw[hs]at hM
   refine⟨⟨hr.len,fun h=>absurd (show(12:Int)=0 from h) (by decide),fun _=>.inl ⟨rfl,by simp⟩⟩,hM,fun h=>absurd (show(12:Int)=0 from h) (by decide)⟩
  | some a =>
   rw[hs]at hM
   have ho:(c.over || (some a:Option Ag).isNone)=c.over:=by simp
   rw[ho]at hM ⊢
   refine⟨hr,hM,fun h=>⟨h,rfl,rfl,?_,fun h=>by cases h⟩⟩
   unfold ZbQ
   rw[if_pos hl.symm]
   have:=ZjU hm p ag0 a hp.2.2 (.inr ⟨rfl,hp.1⟩) hs
   simp[this]
 | false =>
  have e1:ZbM facts f false s k p=((f s p).1,⟨k,(f s p).2,ag0⟩):=rfl
  have e2:Zc2 facts h false c k p=((h c p).1,⟨k,(h c p).2,ag0⟩):=rfl
  rw[e1,e2]
  obtain⟨h1,h2,h3⟩:=hf rfl s c p hp hr
  refine⟨h1,by simpa using h2,fun h=>?_⟩
  obtain⟨k1,k2,k3,k4,k5⟩:=h3 h
  refine⟨k1,?_,rfl,?_,fun _=>⟨k3,k4,?_⟩⟩
  ·show(⟨_,_,_⟩:Cel)=⟨_,_,_⟩
   rw[k2]
  ·unfold ZbQ
   rw[if_neg (by rw[<- hl];decide)]
   simp[k3]
  ·rw[k5];simp
theorem ZkV {d:Nat} {part:List Nat} {ls:List (List Cel)} {a:Cel} {N:List Nod} (hF:ZbI x L facts) (hU:UpOk L facts) (hp:Zbz facts part) (hd:d<L.length) (hk:ls.map (List.map Cel.key)=(ZaC x L facts d part).map (List.map (·.1))) (hc:∀t∈ls,∀z∈t,ZbQ x d z=true/\LdOk (lastB x d) d N z) (ha:a.key=0/\ZbQ x d a=true/\LdOk (lastB x d) d N a) :
  Zbf x ⟨(d:Int),ls,a⟩=0/\ZeO x N ⟨(d:Int),ls,a⟩=true:=by
 have hGl:(ZaC x L facts d part).length=L[d].length:=by unfold ZaC;simp[zab hd]
 have hGg:∀k (h:k<(ZaC x L facts d part).length),(ZaC x L facts d part)[k]=grs (Zdm L facts d k) (Zch x d k) part:=fun k h=>by simp[ZaC]
 obtain⟨t1,t2,t3⟩:=hF.tier d hd
 have hll:ls.length=L[d].length:=by have:=congrArg List.length hk;simp only[zaa]at this;omega
 have hlk:∀i (h:i<ls.length),ls[i].map Cel.key=(grs (Zdm L facts d i) (Zch x d i) part).map (·.1):=fun i h=>by
  have e:(ls.map (List.map Cel.key))[i]'(by simpa using h)=((ZaC x L facts d part).map (List.map (·.1)))[i]'(by simp;omega):=by congr 1
  rw[zbp,zbp,hGg i (by omega)]at e
  exact e
 have hln:∀i (h:i<ls.length),ls[i].length=(grs (Zdm L facts d i) (Zch x d i) part).length:=fun i h=>by
  have:=congrArg List.length (hlk i h)
  simpa using this
 have hsz:∀i (h:i<(x.sizes.getD d []).length),(x.sizes.getD d [])[i]=(Zch x d i:Int)\/(x.sizes.getD d [])[i]<0:=fun i h=>by
  unfold Zch
  rw[zaf (l:=x.sizes.getD d []),zab h]
  simp only[Option.getD_some]
  omega
 constructor
 ·unfold Zbf
  rw[if_neg (by simp only;have:=hF.len;omega)]
  simp only[Int.toNat_natCast]
  rw[if_neg (by omega)]
  have hz:ZbH x (d:Int) none (x.sizes.getD d []) ls=0:=by
   refine Zec (fun i h h'=>?_) (fun i h=>?_) (fun q hq=>by cases hq)
   ·obtain⟨i0,hi0⟩:=zbH _ hp.1
    have hr:=(hF.Ziy hp hd (t:=i) (by omega)).2
    have hk0:=Zfg hi0 (hr i0 hi0)
    have hpos:=zck hk0
    rw[zaa]at hpos
    unfold ZbN
    rw[if_neg (by rw[hln i h];omega)]
    refine ZeS ?_ (fun q hq=>by cases hq) (fun c hc'=>?_) fun c hc'=>(hc _ (zal h) c hc').1
    ·rw[hlk i h];exact zbS.2 (Ze9 _ _ _)
    ·have hm:c.key∈(grs (Zdm L facts d i) (Zch x d i) part).map (·.1):=by rw[<- hlk i h];exact zcz hc'
     have hb:=(Zl5 hm).1
     have hb0:=(hr i0 hi0)
     rcases hsz i h' with e|e
     ·rw[e];exact hb
     ·exfalso
      unfold Zch at hb0
      rw[zaf (l:=x.sizes.getD d []),zab h']at hb0
      simp only[Option.getD_some]at hb0
      omega
   ·rw[hln i (by omega),hln (i+1) h]
    exact grs_less hF hU hp hd (by omega)
  rw[hz,if_neg (by decide),if_neg]
  rintro(h|h)
  ·exact h ha.1
  ·rw[ha.2.1]at h;cases h
 ·unfold ZeO
  cases hl:lastB x d with
  | true=>rfl
  | false =>
   rw[hl]at hc ha
   rw[zbL,zaY]
   intro c hcm
   have hco:LdOk false d N c:=by
    unfold each at hcm
    rcases zaC.1 hcm with hcm|hcm
    ·obtain⟨t,ht,hct⟩:=zbi.1 hcm
     exact(hc t ht c hct).2
    ·rw[zat.1 hcm];exact ha.2.2
   obtain⟨c1,c2,c3⟩:=hco rfl
   rw[c3]
   simp[c2]
theorem nmP_inj' {d e:Nat} {p q:List Nat} (hd:d<256) (he:e<256) (hp:∀i∈p,i<65536) (hq:∀i∈q,i<65536) (h:nmP d p=nmP e q):d=e/\p=q:=by
 have b2i:∀{i j:Nat},i<65536->j<65536->b2 i=b2 j->i=j:=fun {i j} hi hj h=>by
  unfold b2 at h
  injection h with h1 h2
  injection h2 with h2 _
  have e1:=congrArg UInt8.toNat h1
  have e2:=congrArg UInt8.toNat h2
  simp only[UInt8.toNat_ofNat']at e1 e2
  omega
 have fli:∀{p q:List Nat},(∀i∈p,i<65536)->(∀i∈q,i<65536)->p.flatMap b2=q.flatMap b2->p=q:=by
  intro p
  induction p with
  | nil =>
   intro q _ _ h
   cases q with
   | nil=>rfl
   | cons a q=>simp[b2]at h
  | cons a p ih =>
   intro q hp hq h
   cases q with
   | nil=>simp[b2]at h
   | cons b q =>
    rw[zbu,zbu]at h
    obtain⟨h1,h2⟩:=List.append_inj h rfl
    rw[b2i (hp a zah) (hq b zah) h1,ih (fun i hi=>hp i (zae _ hi)) (fun i hi=>hq i (zae _ hi)) h2]
 unfold nmP at h
 injection h with h1 h2
 have e1:=congrArg UInt8.toNat h1
 simp only[UInt8.toNat_ofNat']at e1
 exact⟨by omega,fli hp hq h2⟩
theorem Zj0 {d:Nat} {f:BSt->List Nat->BSt×Int} {h:DSt->List Nat->DSt×Int} (hF:ZbI x L facts) (hU:UpOk L facts) (hm:∀f∈facts,Zbw x.measures f.2=true) (hd:d<L.length) (hf:d+1≠L.length->NodL facts L.length most (d+1) f h) :
  NodL facts L.length most d (Zdq x L facts most f d) (ZpU x L facts h d):=by
 intro s c p hp hr
 have hlb:decide (d+1=L.length)=lastB x d:=by
  unfold lastB
  rw[zbc]
  simp only[beq_iff_eq,decide_eq_true_eq]
  have:=hF.len
  omega
 have hcel:=cell_law (f:=f) (h:=h) (D:=L.length) (most:=most) (d:=d) (last:=decide (d+1=L.length)) hm hlb (fun hl=>hf (of_decide_eq_false hl))
 have hgp:∀t∈ZaC x L facts d p,∀q∈t,Zbz facts q.2:=fun t ht q hq=>by
  unfold ZaC at ht
  obtain⟨k,_,rfl⟩:=zan.1 ht
  exact hp.grs hq
 obtain⟨t1,t2,t3⟩:=Zig hcel (ZaC x L facts d p) s c hgp hr
 obtain⟨a1,a2,a3⟩:=hcel (Zbc (ZbM facts f (decide (d+1=L.length))) s (ZaC x L facts d p)).1 (ZbW (Zc2 facts h (decide (d+1=L.length))) c (ZaC x L facts d p)).1 0 p hp t1
 have hck:=fun N=>ZkV (N:=N) (ls:=(ZbW (Zc2 facts h (decide (d+1=L.length))) c (ZaC x L facts d p)).2) (a:=(Zc2 facts h (decide (d+1=L.length)) (ZbW (Zc2 facts h (decide (d+1=L.length))) c (ZaC x L facts d p)).1 0 p).2) hF hU hp hd
 rw[<- hlb]at hck
 unfold Zdq ZpU
 have hdl:=hF.dims
 have hfew:=hF.few
 generalize (Zbc (ZbM facts f (decide (d+1=L.length))) s (ZaC x L facts d p))=T at *
 generalize (ZbW (Zc2 facts h (decide (d+1=L.length))) c (ZaC x L facts d p))=U at *
 generalize (ZbM facts f (decide (d+1=L.length)) T.1 0 p)=A at *
 generalize (Zc2 facts h (decide (d+1=L.length)) U.1 0 p)=B at *
 -- the document's node,once it is made
 have hmk:Zdd d c (Ze8 d p B U.2).1:=by
  have hM:Zdd d c B.1:=(t2.trans a2).weak (by omega)
  exact hM.trans ⟨[⟨d,U.2,B.2⟩],[p],rfl,rfl,rfl,by simp,id⟩
 by_cases he:s.e=0
 ·obtain⟨r1,r2,_,r3⟩:=hr.ok he
  have hg:=r3 d p hd hp
  cases hfn:Ze3 d p c.N c.P with
  | some i =>
   rw[hfn,Option.map_some]at hg
   rw[hg]
   obtain⟨i1,i2,i3⟩:=Zly hfn
   exact⟨hr,Zdd.refl _ _,fun _=>⟨he,rfl,Int.natCast_nonneg i,Int.ofNat_lt.2 i1,i2⟩⟩
  | none =>
   rw[hfn,Option.map_none]at hg
   rw[hg]
   simp only
   rw[if_neg (by simp[he])]
   unfold Zha
   by_cases ha:A.1.e=0
   ·rw[if_neg (by simp[ha])]
    obtain⟨b1,b2,b3,b4,b5⟩:=a3 ha
    obtain⟨u1,u2,u3,u4⟩:=t3 b1
    obtain⟨c1,c2,_,c3⟩:=a1.ok ha
    obtain⟨v1,v2⟩:=hck B.1.N u3 (fun t ht z hz=>⟨(u4 t ht z hz).1,(u4 t ht z hz).2.pre a2.pre⟩) ⟨b3,b4,b5⟩
    rw[c1,u2,b2]
    by_cases hfull:most<=B.1.N.length
    ·have ea:ZbF x most B.1.N ⟨d,U.2,B.2⟩=7:=by
      unfold ZbF
      rw[if_neg (by rw[v1];decide),if_neg (by rw[v2];decide),if_pos hfull]
     rw[ea,if_pos (by decide)]
     refine⟨⟨hmk.len hr.len,fun h=>absurd (show(7:Int)=0 from h) (by decide),fun _=>.inr ⟨rfl,?_⟩⟩,hmk,fun h=>absurd (show(7:Int)=0 from h) (by decide)⟩
     show most<((B.1.N++[(⟨d,U.2,B.2⟩:Nod)]).length:Int)
     rw[zaj,List.length_singleton]
     omega
    ·have ea:ZbF x most B.1.N ⟨d,U.2,B.2⟩=0:=by
      unfold ZbF
      rw[if_neg (by rw[v1];decide),if_neg (by rw[v2];decide),if_neg hfull]
     rw[ea,if_neg (by decide)]
     have hfB:Ze3 d p B.1.N B.1.P=none:=by rw[(t2.trans a2).fnd hr.len (by omega) p];exact hfn
     refine⟨⟨hmk.len hr.len,fun _=>⟨rfl,c2,?_,fun d' p' hd' hp'=>?_⟩,fun h=>absurd rfl h⟩,hmk,fun _=>⟨he,rfl,?_,?_,?_⟩⟩
     ·show((B.1.N++[(⟨d,U.2,B.2⟩:Nod)]).length:Int)<=most
      rw[zaj,List.length_singleton]
      omega
     ·show Zcz (nmP d' p') (ZbU (nmP d p) (B.1.N.length:Int) A.1.M)=Option.map _ (Ze3 d' p' (B.1.N++[(⟨d,U.2,B.2⟩:Nod)]) (B.1.P++[p]))
      rw[Zeg,Zld a1.len,fnd_one]
      by_cases hc:d'=d/\p'=p
      ·obtain⟨rfl,rfl⟩:=hc
       rw[if_pos rfl,hfB,if_pos ⟨rfl,rfl⟩]
       simp
      ·rw[if_neg hc,if_neg]
       ·rw[c3 d' p' hd' hp']
        cases Ze3 d' p' B.1.N B.1.P<;>rfl
       ·intro hn
        exact hc (nmP_inj' (by omega) (by omega) (fun i hi=>by have:=hp'.2.2 i hi;omega) (fun i hi=>by have:=hp.2.2 i hi;omega) hn)
     ·show(0:Int)<=(B.1.N.length:Int);omega
     ·show(B.1.N.length:Int)<((B.1.N++[(⟨d,U.2,B.2⟩:Nod)]).length:Int)
      rw[zaj,List.length_singleton]
      omega
     ·show((B.1.N++[(⟨d,U.2,B.2⟩:Nod)]).getD (B.1.N.length:Int).toNat ⟨0,[],ZcE⟩).dim=(d:Int)
      simp
   ·rw[if_pos ha]
    refine⟨?_,hmk,fun h=>absurd h ha⟩
    exact a1.mono (e:=d) ha ⟨[⟨d,U.2,B.2⟩],[p],rfl,rfl,rfl,by simp,id⟩ (.inl rfl)
 ·have key:∀(r:BSt×Int) (q:DSt×Int),r.1=s->Zdd d c q.1->Rel facts L.length most r.1 q.1/\Zdd d c q.1/\(r.1.e=0->s.e=0/\r.2=q.2/\0<=q.2/\q.2<q.1.N.length/\(q.1.N.getD q.2.toNat ⟨0,[],ZcE⟩).dim=(d:Int)):=fun r q hr1 hq=>by
   rw[hr1]
   exact⟨hr.mono he hq (.inl rfl),hq,fun h=>absurd h he⟩
  refine key _ _ ?_ ?_
  ·split
   ·rfl
   ·rw[if_pos he]
  ·unfold visM
   split
   ·exact Zdd.refl _ _
   ·exact hmk
theorem Zf7 (hF:ZbI x L facts) (hU:UpOk L facts) (hm:∀f∈facts,Zbw x.measures f.2=true):∀(n:Nat),n+1<=L.length->NodL facts L.length most (L.length - (n+1)) (ZcV x L facts most (n+1)) (Zhq x L facts (n+1))
 | 0,h=>Zj0 (d:=L.length - 1) (f:=ZcV x L facts most 0) (h:=Zhq x L facts 0) hF hU hm (by have:1<=L.length:=h;omega) (fun h2=>absurd (show L.length - 1+1=L.length by have:1<=L.length:=h;omega) h2)
 | n+1,h=>by
  refine Zj0 (d:=L.length - (n+1+1)) (f:=ZcV x L facts most (n+1)) (h:=Zhq x L facts (n+1)) hF hU hm (by omega) (fun _=>?_)
  have:=Zf7 hF hU hm n (by omega)
  rw[show L.length - (n+1+1)+1=L.length - (n+1) by omega]
  exact this
end
def Zcn (S:Sc) (facts:List Fct):DSt:=if facts=[] then ⟨[],[],false⟩ else (Zhq (Za3 S) (Zan S) facts (Zan S).length ⟨[],[],false⟩ (List.range facts.length)).1
theorem ZmY {S:Sc} {most:Int} {facts:List Fct} (hF:ZbI (Za3 S) (Zan S) facts) (hU:UpOk (Zan S) facts) (hm:∀f∈facts,Zbw (Za3 S).measures f.2=true) (hL:1<=(Zan S).length) (hne:facts≠[]) (h0m:0<=most) :
  Rel facts (Zan S).length most (Zfa S most facts) (Zcn S facts):=by
 have hpo:Zbz facts (List.range facts.length):=⟨by simp;exact hne,by simp,fun i hi=>by simpa using hi⟩
 have h0:Rel facts (Zan S).length most ⟨[],[],0⟩ ⟨[],[],false⟩:=⟨rfl,fun _=>⟨rfl,rfl,h0m,fun d part _ _=>rfl⟩,fun h=>absurd rfl h⟩
 have:=(Zf7 (most:=most) hF hU hm ((Zan S).length - 1) (by omega) _ _ _ hpo h0).1
 rw[show(Zan S).length - 1+1=(Zan S).length by omega]at this
 unfold Zcn Zfa
 rw[if_neg hne]
 exact this
theorem dim_tier {d:Dm} (h:Zdv d=0) {k:Nat} (hk:k+1<d.tiers.length):d.tiers[k+1].terms.length<=d.tiers[k].terms.length/\ZdD d.tiers[k].up d.tiers[k].terms.length (d.tiers[k+1].terms.length:Int)=true:=by
 obtain⟨h1,h2,h3⟩:=Zce h
 obtain⟨t1,t2,t3⟩:=Zcd (h3 k (by omega))
 obtain⟨u1,u2,u3⟩:=Zcd (h3 (k+1) hk)
 have e:ZbR (d.tiers.drop (k+1))=(d.tiers[k+1].terms.length:Int):=by rw[zav hk];rfl
 rw[e]at t3
 refine⟨?_,t3⟩
 unfold ZdD at t3
 rw[if_neg (by omega)]at t3
 split at t3
 ·cases t3
 ·rename_i h4
  rw[zaA]at t3
  have h5:=t3.2
  have h6:=ZjE d.tiers[k].up
  have h7:((Zg2 d.tiers[k].up).length:Int)=(d.tiers[k+1].terms.length:Int):=by simpa using h5
  have h8:(d.tiers[k].up.length:Int)=(d.tiers[k].terms.length:Int):=zaW.1 h4
  omega
theorem Zil:∀{ss:List Int} {p:Option Int},(∀n∈ss,1<=n/\n<=200)->(∀k (h:k+1<ss.length),ss[k+1]<=ss[k])->(∀q,p=some q->∀h:0<ss.length,ss[0]<=q)->ZcZ p ss=true
 | [],_,_,_,_=>by simp[ZcZ]
 | n :: r,p,h1,h2,h3=>by
  have h0:=h1 n zah
  have hr:=Zil (ss:=r) (p:=some n) (fun m hm=>h1 m (zae _ hm)) (fun k h=>h2 (k+1) (by simpa using h)) (fun q hq h=>by injection hq with hq;subst hq;exact h2 0 (by simpa using h))
  cases p with
  | none=>simp only[ZcZ,hr];simp[h0]
  | some q=>have:=h3 q rfl (by simp);simp at this;simp only[ZcZ,hr];simp[h0,this]
theorem ZiG {S:Sc} (h:scE S=0):ZbS (Za3 S)=true:=by
 obtain⟨h1,h2,h3,h4⟩:=Zb7 h
 have hm:1<=(S.meas.length:Int)/\(S.meas.length:Int)<=3:=by
  unfold Zd8 at h4
  split at h4
  ·omega
  ·omega
 have hs:(Za3 S).sizes.all ZbT=true:=by
  rw[zaY]
  intro s hs
  unfold Za3 at hs
  obtain⟨d,hd,rfl⟩:=zan.1 hs
  obtain⟨d1,d2,d3⟩:=Zce (h3 d hd)
  unfold ZbT
  have hr:ZcZ none (d.tiers.map szT)=true:=by
   refine Zil (fun n hn=>?_) (fun k hk=>?_) (fun q hq=>by cases hq)
   ·obtain⟨t,ht,rfl⟩:=zan.1 hn
    obtain⟨k,hk,rfl⟩:=zaw ht
    obtain⟨t1,t2,_⟩:=Zcd (d3 k hk)
    unfold szT
    omega
   ·have:=(dim_tier (h3 d hd) (k:=k) (by simpa using hk)).1
    simp only[zbp,szT]
    omega
  rw[hr]
  simp[d1,d2]
 unfold ZbS
 rw[hs]
 unfold Za3
 simp only[zaa]
 simp[hm,h1,h2]
theorem Zg0:∀{l:List Tr} {t:Tr} {i:Int},ups (l++[t]) i=if ups l i≥0 then Zdj t (ups l i) else ups l i
 | [],t,i=>by
  show ups [t] i=if i≥0 then Zdj t i else i
  rw[ups];rfl
 | a :: l,t,i=>by
  show(if i≥0 then ups (l++[t]) (Zdj a i) else i)=_
  by_cases c:i≥0
  ·have e:ups (a :: l) i=ups l (Zdj a i):=by rw[ups,if_pos c]
   rw[if_pos c,Zg0,e]
  ·have e:ups (a :: l) i=i:=by rw[ups,if_neg c]
   rw[if_neg c,e,if_neg c]
theorem lift_up {d:Dm} (h:Zdv d=0) {t i j:Nat} (ht:t+1<d.tiers.length) (hi:i<n0 d) (hj:j<n0 d) (he:Zdo d t i=Zdo d t j):Zdo d (t+1) i=Zdo d (t+1) j:=by
 have h1:=ZgR h (to:=t) (by omega) hi
 have h2:=ZgR h (to:=t) (by omega) hj
 have b:∀v:Int,0<=bot v->bot v=v:=fun v hv=>by unfold bot at *;split at hv<;>omega
 unfold Zdo at *
 rw[b _ h1.1,b _ h2.1]at he
 rw[zax (by omega),Zg0,Zg0,he]
theorem Zdk {S:Sc} {facts:List Fct} (hs:scE S=0) (hr:Zd7 (Za3 S) none facts=0) {d t i:Nat} (hd:d<S.dims.length) (ht:t<S.dims[d].tiers.length) (hi:i<facts.length):∃k:Nat,k<n0 S.dims[d]/\(facts.getD i ([],ag0)).1.getD d 0=(k:Int)/\d<(facts.getD i ([],ag0)).1.length/\Zdm (Zan S) facts d t i=Zdo S.dims[d] t k:=by
 obtain⟨k1,k2,k3⟩:=Zcp (Zcu hr _ (zal hi))
 have hx:(Za3 S).sizes.length=S.dims.length:=by unfold Za3;simp
 have hdf:d<facts[i].1.length:=by omega
 have hk:=ZeA k2 d hdf
 have hsz:(Za3 S).sizes.getD d []=S.dims[d].tiers.map szT:=by unfold Za3;simp[hd]
 rw[hsz]at hk
 have hh:(S.dims[d].tiers.map szT).headD 0=(n0 S.dims[d]:Int):=by
  unfold n0
  generalize S.dims[d].tiers=l at *
  cases l with
  | nil=>simp at ht
  | cons a r=>rfl
 rw[hh]at hk
 have hg:facts.getD i ([],ag0)=facts[i]:=by rw[zaf,zab hi];rfl
 rw[hg]
 have e1:facts[i].1.getD d 0=facts[i].1[d]:=by rw[zaf,zab hdf];rfl
 refine⟨facts[i].1[d].toNat,by omega,by rw[e1];omega,hdf,?_⟩
 unfold Zdm
 rw[hg,e1]
 have hL:(Zan S).getD d []=Zct S.dims[d]:=by unfold Zan;simp[hd]
 have hT:(Zct S.dims[d]).getD t []=mapD S.dims[d] t:=by unfold Zct;simp[ht]
 rw[hL,hT]
 unfold mapD
 rw[zaf,zab (by simp;omega)]
 simp
theorem up_ok {S:Sc} {facts:List Fct} (hs:scE S=0) (hr:Zd7 (Za3 S) none facts=0):UpOk (Zan S) facts:=by
 intro d t i j hd ht hi hj he
 have hL:(Zan S).length=S.dims.length:=by unfold Zan;simp
 have hd':d<S.dims.length:=by omega
 have hLd:(Zan S).getD d []=Zct S.dims[d]:=by unfold Zan;simp[hd']
 rw[hLd]at ht
 have ht':t+1<S.dims[d].tiers.length:=by unfold Zct at ht;simpa using ht
 obtain⟨k1,a1,_,_,b1⟩:=Zdk hs hr hd' (t:=t) (by omega) hi
 obtain⟨k2,a2,_,_,b2⟩:=Zdk hs hr hd' (t:=t) (by omega) hj
 obtain⟨k3,a3,c3,_,b3⟩:=Zdk hs hr hd' (t:=t+1) ht' hi
 obtain⟨k4,a4,c4,_,b4⟩:=Zdk hs hr hd' (t:=t+1) ht' hj
 obtain⟨k1',a1',c1,_,b1'⟩:=Zdk hs hr hd' (t:=t) (by omega) hi
 obtain⟨k2',a2',c2,_,b2'⟩:=Zdk hs hr hd' (t:=t) (by omega) hj
 have e1:k1'=k3:=by omega
 have e2:k2'=k4:=by omega
 subst e1 e2
 rw[b3,b4]
 exact lift_up ((Zb7 hs).2.2.1 _ (zal hd')) ht' a1' a2' (by rw[<- b1',<- b2'];exact he)
theorem ZlM {S:Sc} {most:Int} {facts:List Fct} (hs:scE S=0) (hr:Zd7 (Za3 S) none facts=0) (ha:∀f∈facts,Zho f.2) (h0m:0<=most) (hfl:facts.length<=4000) (h:Zet S most facts=0):Zlb (Za3 S) (Ze6 S most facts)=true:=by
 obtain⟨hard,hled⟩:=ZlU h ha
 by_cases h5:facts=[]
 ·have e:Ze6 S most facts=[]:=by unfold Ze6;rw[if_pos h5]
  rw[e];rfl
 ·have e:Ze6 S most facts=(Zfa S most facts).N:=by unfold Ze6;rw[if_neg h5]
  have hF:=ZdS hs hr hfl ha
  have hL1:1<=(Zan S).length:=by have:=(Zby hard.may).1;have:=hF.len;omega
  have hm:∀f∈facts,Zbw (Za3 S).measures f.2=true:=fun f hf=>(Zcp (Zcu hr f hf)).2.2
  have h:(Zfa S most facts).e=0:=by
   unfold Zet at h
   rw[if_neg (by simp[hs]),if_neg (by simp[hr]),if_neg (by omega)]at h
   split at h
   ·omega
   ·exact h
  have hpo:Zbz facts (List.range facts.length):=⟨by simp;exact h5,by simp,fun i hi=>by simpa using hi⟩
  have h0:Rel facts (Zan S).length most ⟨[],[],0⟩ ⟨[],[],false⟩:=⟨rfl,fun _=>⟨rfl,rfl,h0m,fun d part _ _=>rfl⟩,fun h=>absurd rfl h⟩
  obtain⟨q1,q2,q3⟩:=Zf7 (most:=most) hF (up_ok hs hr) hm ((Zan S).length - 1) (by omega) _ _ _ hpo h0
  have hrl:=ZhY (x:=Za3 S) (L:=Zan S) (facts:=facts) (most:=most) ((Zan S).length - 1) ⟨[],[],0⟩ (List.range facts.length) rfl
  rw[show(Zan S).length - 1+1=(Zan S).length by omega]at q1 q3 hrl
  have hrl:=hrl h
  obtain⟨_,e2,e3,e4,e5⟩:=q3 h
  obtain⟨e6,_⟩:=q1.ok h
  have hN:(Zfa S most facts).N=(Zhq (Za3 S) (Zan S) facts (Zan S).length ⟨[],[],false⟩ (List.range facts.length)).1.N:=e6
  rw[<- e6,<- e2]at e5
  rw[<- e6,<- e2]at e4
  rw[<- e2]at e3
  rw[e]at hard hled ⊢
  generalize hNN:(Zfa S most facts).N=N at *
  have hNN':(ZcV (Za3 S) (Zan S) facts most (Zan S).length ⟨[],[],0⟩ (List.range facts.length)).1.N=N:=hNN
  rw[hNN']at hrl e4 e5
  generalize (ZcV (Za3 S) (Zan S) facts most (Zan S).length ⟨[],[],0⟩ (List.range facts.length)).2=top at *
  have hpos:0<N.length:=by omega
  have hdim:(Zdw N ((N.length:Int) - 1)).dim=0:=by
   have ht:top.toNat=N.length - 1:=by omega
   rw[ht,zaf,zab (by omega)]at e5
   unfold Zdw
   rw[if_pos (by omega),show((N.length:Int) - 1).toNat=N.length - 1 by omega,zab (by omega)]
   simpa using e5
  unfold Zlb
  rw[if_neg (by omega),hdim]
  simp only[beq_self_eq_true,zbj,zbR]
  refine Bool.eq_false_iff.2 fun hc=>?_
  rw[zaO]at hc
  obtain⟨j,hj,hje⟩:=zaw hc
  have hj':j<N.length - 1:=by rw[zaZ,ZlV]at hj;omega
  rw[zb3,ZqA (by omega)]at hje
  have hcz:List.count (j:Int) (kids (Za3 S) N)=0:=by omega
  rw[zcC]at hcz
  obtain⟨k,hk,hkd,c,hcm,hcc⟩:=hled j (by omega)
  refine hcz ?_
  unfold kids
  refine zbC.2 ⟨N[k],zal hk,?_⟩
  have hlb:lastB (Za3 S) N[k].dim=false:=by unfold lastB;rw[beq_eq_false_iff_ne];omega
  rw[if_neg (by rw[hlb];decide)]
  exact zan.2 ⟨c,hcm,hcc⟩
def ZsE (S:Sc) (most:Int) (facts:List Fct):Int:=if scE S≠0 then scE S else if Zd7 (Za3 S) none facts≠0 then Zd7 (Za3 S) none facts else if most<0\/most > 131072 then 2 else 0
theorem ZkG {S:Sc} {most:Int} {facts:List Fct} (hfl:facts.length<=4000) (ha:∀f∈facts,Zho f.2) (h:ZsE S most facts=0) :
  ((Zcn S facts).over=true->Zet S most facts=12\/(Zet S most facts=7/\most<(Zcn S facts).N.length))/\((Zcn S facts).over=false->most<(Zcn S facts).N.length->Zet S most facts=7) /\
  ((Zcn S facts).over=false->(Zcn S facts).N.length<=most->Zet S most facts=0/\Ze6 S most facts=(Zcn S facts).N/\Zlb (Za3 S) (Zcn S facts).N=true):=by
 have hall:scE S=0/\Zd7 (Za3 S) none facts=0/\0<=most/\most<=131072:=by
  unfold ZsE at h
  split at h
  ·rename_i h1;exact absurd h h1
  rename_i h1
  split at h
  ·rename_i h2;exact absurd h h2
  rename_i h2
  split at h
  ·omega
  ·exact⟨zaW.1 h1,zaW.1 h2,by omega,by omega⟩
 obtain⟨hs,hr,h3,h4⟩:=hall
 have hn:newE (Za3 S) most=0:=by unfold newE;rw[if_pos ⟨ZiG hs,h3,h4⟩]
 by_cases h5:facts=[]
 ·have e1:Zcn S facts=⟨[],[],false⟩:=by unfold Zcn;rw[if_pos h5]
  have e2:Zet S most facts=0:=by
   unfold Zet
   rw[if_neg (by simp[hs]),if_neg (by simp[hr]),if_neg (by omega),if_neg (by simp[hn]),if_pos h5]
  have e3:Ze6 S most facts=[]:=by unfold Ze6;rw[if_pos h5]
  rw[e1,e2,e3]
  exact⟨fun h=>(by cases h),fun _ h=>(by simp at h;omega),fun _ _=>⟨rfl,rfl,rfl⟩⟩
 ·have hF:=ZdS hs hr hfl ha
  have hm:∀f∈facts,Zbw (Za3 S).measures f.2=true:=fun f hf=>(Zcp (Zcu hr f hf)).2.2
  have hL1:1<=(Zan S).length:=by have:=(Zby (ZiG hs)).1;have:=hF.len;omega
  have hR:=ZmY (most:=most) hF (up_ok hs hr) hm hL1 h5 h3
  have e2:Zet S most facts=(Zfa S most facts).e:=by
   unfold Zet
   rw[if_neg (by simp[hs]),if_neg (by simp[hr]),if_neg (by omega),if_neg (by simp[hn]),if_neg h5]
  have e3:Ze6 S most facts=(Zfa S most facts).N:=by unfold Ze6;rw[if_neg h5]
  have hW:=fun h=>ZlM (most:=most) hs hr ha h3 hfl h
  rw[e2]at hW ⊢
  rw[e3]at hW ⊢
  refine⟨fun ho=>?_,fun ho hl=>?_,fun ho hl=>?_⟩
  ·by_cases he:(Zfa S most facts).e=0
   ·have:=(hR.ok he).2.1
    rw[ho]at this;cases this
   ·rcases hR.bad he with⟨k1,_⟩|k
    ·exact .inl k1
    ·exact .inr k
  ·by_cases he:(Zfa S most facts).e=0
   ·have:=(hR.ok he).2.2.1
    omega
   ·rcases hR.bad he with⟨_,k2⟩|k
    ·rw[ho]at k2;cases k2
    ·exact k.1
  ·by_cases he:(Zfa S most facts).e=0
   ·have e:=(hR.ok he).1
    refine⟨he,e,?_⟩
    rw[<- e];exact hW he
   ·rcases hR.bad he with⟨_,k2⟩|k
    ·rw[ho]at k2;cases k2
    ·omega
theorem Zku {x:Shp} {L:List (List (List Int))} {facts:List Fct} {d:Nat} {part:List Nat} (hp:Zbz facts part):∀t∈ZaC x L facts d part,∀q∈t,Zbz facts q.2:=fun t ht q hq=>by
 unfold ZaC at ht
 obtain⟨k,_,rfl⟩:=zan.1 ht
 exact hp.grs hq
section
variable {i5 i7 i10 i13 i14:Nat} {S:Sc} {d:Nat} {c:DSt} {ts:List (Tok×List Cel)} {H G G':Zaa}
end
section
variable (x:Shp) (L:List (List (List Int))) (facts:List Fct)
def ZiH (c:DSt) (b d:Nat) (p:List Nat) (z:Cel):Prop :=
 if d+1=L.length then z.child=0/\z.agg=(ZdJ facts ag0 p).getD ag0
 else z.agg=ag0/\∃j:Nat,z.child=(j:Int)/\j<b/\j<c.N.length/\(c.N.getD j ZdH).dim=((d+1:Nat):Int)/\c.P.getD j []=p
def NodD (c:DSt) (b d:Nat) (p:List Nat) (n:Nod):Prop :=
 n.dim=(d:Int)/\n.all.key=0/\ZiH L facts c b d p n.all/\ZeK (ZeK fun(z:Cel) (g:Int×List Nat)=>z.key=g.1/\ZiH L facts c b d g.2 z) n.lists (ZaC x L facts d p)
def Zd3 (p:List Nat):Prop:=p≠[]/\p.Sublist (List.range facts.length)
structure ZdW (c:DSt):Prop where
 len:c.N.length=c.P.length
 nod:∀i,i<c.N.length->∃d,d<L.length/\NodD x L facts c i d (c.P.getD i []) (c.N.getD i ZdH)
 uniq:∀i j,i<c.N.length->j<c.N.length->(c.N.getD i ZdH).dim=(c.N.getD j ZdH).dim->c.P.getD i []=c.P.getD j []->i=j
 part:∀i,i<c.N.length->Zd3 facts (c.P.getD i [])
end
section
variable {x:Shp} {L:List (List (List Int))} {facts:List Fct}
theorem Zd3.ok {p:List Nat} (h:Zd3 facts p):Zbz facts p:=⟨h.1,by have:=h.2.length_le;simpa using this,fun i hi=>by have:=h.2.subset hi;simpa using this⟩
theorem Zd3.grs {p:List Nat} (h:Zd3 facts p) {key:Nat->Int} {n:Nat} {g:Int×List Nat} (hg:g∈grs key n p):Zd3 facts g.2:=by
 have h1:=Zfb hg
 unfold Go.Proofs.YtaapiigfmdhobaaGreat.grs at hg
 obtain⟨k,_,hk⟩:=zbB.1 hg
 split at hk
 ·cases hk
 ·injection hk with hk
  subst hk
  exact⟨h1.1,List.filter_sublist.trans h.2⟩
theorem Zd3.groups {p:List Nat} (h:Zd3 facts p) {d:Nat}:∀t∈ZaC x L facts d p,∀q∈t,Zd3 facts q.2:=fun t ht q hq=>by
 unfold ZaC at ht
 obtain⟨k,_,rfl⟩:=zan.1 ht
 exact h.grs hq
theorem ZjP {α:Type} {l m:List α} {i:Nat} {a:α} (h:i<l.length):(l++m).getD i a=l.getD i a:=by
 rw[zaf,zaH h,<- zaf]
theorem Zih {α:Type} {l:List α} {b a:α}:(l++[b]).getD l.length a=b:=by simp
theorem ZiH.mono {c c':DSt} {e:Int} {b b' d:Nat} {p:List Nat} {z:Cel} (h:ZiH L facts c b d p z) (hm:Zdd e c c') (hl:c.N.length=c.P.length) (hb:b<=b'):ZiH L facts c' b' d p z:=by
 obtain⟨N1,P1,h1,h2,h3,h4,_⟩:=hm
 unfold ZiH at *
 split
 ·rename_i hd;rw[if_pos hd]at h;exact h
 ·rename_i hd
  rw[if_neg hd]at h
  obtain⟨k1,j,k2,k3,k4,k5,k6⟩:=h
  refine⟨k1,j,k2,by omega,by rw[h1,zaj];omega,?_,?_⟩
  ·rw[h1,ZjP k4];exact k5
  ·rw[h2,ZjP (by omega)];exact k6
theorem NodD.mono {c c':DSt} {e:Int} {b d:Nat} {p:List Nat} {n:Nod} (h:NodD x L facts c b d p n) (hm:Zdd e c c') (hl:c.N.length=c.P.length):NodD x L facts c' b d p n:=by
 obtain⟨h1,h2,h3,h4⟩:=h
 exact⟨h1,h2,h3.mono hm hl (zai _),h4.imp fun a b h=>h.imp fun z g ⟨k1,k2⟩=>⟨k1,k2.mono hm hl (zai _)⟩⟩
def CelS (x:Shp) (L:List (List (List Int))) (facts:List Fct) (d:Nat) (h:DSt->Int->List Nat->DSt×Cel):Prop :=
 ∀c k p,Zd3 facts p->ZdW x L facts c->ZdW x L facts (h c k p).1/\Zdd ((d:Int)+1) c (h c k p).1/\(h c k p).2.key=k/\ZiH L facts (h c k p).1 (h c k p).1.N.length d p (h c k p).2
def NodS (x:Shp) (L:List (List (List Int))) (facts:List Fct) (d:Nat) (f:DSt->List Nat->DSt×Int):Prop :=
 ∀c p,Zd3 facts p->ZdW x L facts c->ZdW x L facts (f c p).1/\Zdd d c (f c p).1/\∃j:Nat,(f c p).2=(j:Int)/\j<(f c p).1.N.length/\((f c p).1.N.getD j ZdH).dim=(d:Int)/\(f c p).1.P.getD j []=p
theorem Zmp {d:Nat} {h:DSt->Int->List Nat->DSt×Cel} (hh:CelS x L facts d h):∀(l:List (Int×List Nat)) (c:DSt),(∀q∈l,Zd3 facts q.2)->ZdW x L facts c->ZdW x L facts (cellsD h c l).1/\Zdd ((d:Int)+1) c (cellsD h c l).1 /\
  ZeK (fun(z:Cel) (g:Int×List Nat)=>z.key=g.1/\ZiH L facts (cellsD h c l).1 (cellsD h c l).1.N.length d g.2 z) (cellsD h c l).2 l
 | [],c,_,hc=>⟨hc,Zdd.refl _ _,.nil⟩
 | p :: ps,c,hp,hc=>by
  obtain⟨h1,h2,h3,h4⟩:=hh c p.1 p.2 (hp p zah) hc
  obtain⟨k1,k2,k3⟩:=Zmp hh ps _ (fun q hq=>hp q (zae _ hq)) h1
  exact⟨k1,h2.trans k2,.cons ⟨h3,h4.mono k2 h1.len k2.pre.length_le⟩ k3⟩
theorem Zmj {d:Nat} {h:DSt->Int->List Nat->DSt×Cel} (hh:CelS x L facts d h):∀(l:List (List (Int×List Nat))) (c:DSt),(∀t∈l,∀q∈t,Zd3 facts q.2)->ZdW x L facts c->ZdW x L facts (ZbW h c l).1/\Zdd ((d:Int)+1) c (ZbW h c l).1 /\
  ZeK (ZeK fun(z:Cel) (g:Int×List Nat)=>z.key=g.1/\ZiH L facts (ZbW h c l).1 (ZbW h c l).1.N.length d g.2 z) (ZbW h c l).2 l
 | [],c,_,hc=>⟨hc,Zdd.refl _ _,.nil⟩
 | p :: ps,c,hp,hc=>by
  obtain⟨h1,h2,h3⟩:=Zmp hh p c (hp p zah) hc
  obtain⟨k1,k2,k3⟩:=Zmj hh ps _ (fun q hq=>hp q (zae _ hq)) h1
  exact⟨k1,h2.trans k2,.cons (h3.imp fun z g ⟨m1,m2⟩=>⟨m1,m2.mono k2 h1.len k2.pre.length_le⟩) k3⟩
theorem cell_s {d:Nat} {f:DSt->List Nat->DSt×Int} (hf:d+1≠L.length->NodS x L facts (d+1) f):CelS x L facts d (Zc2 facts f (decide (d+1=L.length))):=by
 intro c k p hp hc
 by_cases hl:d+1=L.length
 ·have e:Zc2 facts f (decide (d+1=L.length)) c k p=(⟨c.N,c.P,c.over || (ZdJ facts ag0 p).isNone⟩,⟨k,0,(ZdJ facts ag0 p).getD ag0⟩):=by unfold Zc2;rw[decide_eq_true hl,if_pos rfl]
  rw[e]
  have hM:Zdd ((d:Int)+1) c ⟨c.N,c.P,c.over || (ZdJ facts ag0 p).isNone⟩:=⟨[],[],by simp,by simp,rfl,by simp,fun h=>by simp[h]⟩
  refine⟨⟨hc.len,fun i hi=>?_,hc.uniq,hc.part⟩,hM,rfl,?_⟩
  ·obtain⟨e,he,hn⟩:=hc.nod i hi
   exact⟨e,he,hn.mono hM hc.len⟩
  ·unfold ZiH
   rw[if_pos hl]
   exact⟨rfl,rfl⟩
 ·have e:Zc2 facts f (decide (d+1=L.length)) c k p=((f c p).1,⟨k,(f c p).2,ag0⟩):=by unfold Zc2;rw[decide_eq_false hl,if_neg (by simp)]
  rw[e]
  obtain⟨h1,h2,j,h3,h4,h5,h6⟩:=hf hl c p hp hc
  refine⟨h1,by simpa using h2,rfl,?_⟩
  unfold ZiH
  rw[if_neg hl]
  exact⟨rfl,j,h3,h4,h4,h5,h6⟩
theorem vis_s {d:Nat} {f:DSt->List Nat->DSt×Int} (hd:d<L.length) (hf:d+1≠L.length->NodS x L facts (d+1) f):NodS x L facts d (ZpU x L facts f d):=by
 intro c p hp hc
 have hcel:=cell_s (d:=d) (f:=f) hf
 obtain⟨t1,t2,t3⟩:=Zmj hcel (ZaC x L facts d p) c hp.groups hc
 obtain⟨a1,a2,a3,a4⟩:=hcel (ZbW (Zc2 facts f (decide (d+1=L.length))) c (ZaC x L facts d p)).1 0 p hp t1
 unfold ZpU
 generalize (ZbW (Zc2 facts f (decide (d+1=L.length))) c (ZaC x L facts d p))=U at *
 generalize (Zc2 facts f (decide (d+1=L.length)) U.1 0 p)=B at *
 cases hfn:Ze3 d p c.N c.P with
 | some i =>
  obtain⟨i1,i2,i3⟩:=Zly hfn
  exact⟨hc,Zdd.refl _ _,i,rfl,i1,i2,i3⟩
 | none =>
  have hM:Zdd d c B.1:=(t2.trans a2).weak (by omega)
  have hfB:Ze3 d p B.1.N B.1.P=none:=by rw[(t2.trans a2).fnd hc.len (by omega) p];exact hfn
  have hnew:∀i,i<B.1.N.length->¬((B.1.N.getD i ZdH).dim=(d:Int)/\B.1.P.getD i []=p):=fun i hi=>by
   unfold Ze3 at hfB
   rw[zce]at hfB
   have:=hfB i (by simpa using hi)
   unfold ZgB at this
   simpa using this
  have hM2:Zdd d B.1 (Ze8 d p B U.2).1:=⟨[⟨d,U.2,B.2⟩],[p],rfl,rfl,rfl,by simp,id⟩
  have eN:(Ze8 d p B U.2).1.N=B.1.N++[⟨d,U.2,B.2⟩]:=rfl
  have eP:(Ze8 d p B U.2).1.P=B.1.P++[p]:=rfl
  have oN:∀i,i<B.1.N.length->(Ze8 d p B U.2).1.N.getD i ZdH=B.1.N.getD i ZdH:=fun i hi=>by rw[eN,ZjP hi]
  have oP:∀i,i<B.1.N.length->(Ze8 d p B U.2).1.P.getD i []=B.1.P.getD i []:=fun i hi=>by rw[eP,ZjP (by rw[<- a1.len];exact hi)]
  have nN:(Ze8 d p B U.2).1.N.getD B.1.N.length ZdH=⟨d,U.2,B.2⟩:=by rw[eN,Zih]
  have nP:(Ze8 d p B U.2).1.P.getD B.1.N.length []=p:=by rw[eP,a1.len,Zih]
  have hlen:(Ze8 d p B U.2).1.N.length=B.1.N.length+1:=by rw[eN,zaj];rfl
  have hcase:∀i,i<(Ze8 d p B U.2).1.N.length->i<B.1.N.length\/i=B.1.N.length:=fun i hi=>by omega
  refine⟨⟨hM2.len a1.len,fun i hi=>?_,fun i j hi hj h1 h2=>?_,fun i hi=>?_⟩,hM.trans hM2,B.1.N.length,rfl,by show _<(Ze8 d p B U.2).1.N.length;omega,?_,?_⟩
  ·rcases hcase i hi with hi|rfl
   ·obtain⟨e,he,hn⟩:=a1.nod i hi
    show ∃d',_/\NodD x L facts (Ze8 d p B U.2).1 i d' ((Ze8 d p B U.2).1.P.getD i []) ((Ze8 d p B U.2).1.N.getD i ZdH)
    rw[oN i hi,oP i hi]
    exact⟨e,he,hn.mono hM2 a1.len⟩
   ·show ∃d',_/\NodD x L facts (Ze8 d p B U.2).1 B.1.N.length d' ((Ze8 d p B U.2).1.P.getD B.1.N.length []) ((Ze8 d p B U.2).1.N.getD B.1.N.length ZdH)
    rw[nN,nP]
    refine⟨d,hd,rfl,a3,a4.mono hM2 a1.len (zai _),t3.imp fun l m h=>h.imp fun z g ⟨m1,m2⟩=>⟨m1,?_⟩⟩
    exact(m2.mono a2 t1.len a2.pre.length_le).mono hM2 a1.len (zai _)
  ·have h1:((Ze8 d p B U.2).1.N.getD i ZdH).dim=((Ze8 d p B U.2).1.N.getD j ZdH).dim:=h1
   have h2:(Ze8 d p B U.2).1.P.getD i []=(Ze8 d p B U.2).1.P.getD j []:=h2
   rcases hcase i hi with hi|rfl
   ·rcases hcase j hj with hj|rfl
    ·rw[oN i hi,oN j hj]at h1
     rw[oP i hi,oP j hj]at h2
     exact a1.uniq i j hi hj h1 h2
    ·rw[oN i hi,nN]at h1
     rw[oP i hi,nP]at h2
     exact absurd ⟨h1,h2⟩ (hnew i hi)
   ·rcases hcase j hj with hj|rfl
    ·rw[oN j hj,nN]at h1
     rw[oP j hj,nP]at h2
     exact absurd ⟨h1.symm,h2.symm⟩ (hnew j hj)
    ·rfl
  ·show Zd3 facts ((Ze8 d p B U.2).1.P.getD i [])
   rcases hcase i hi with hi|rfl
   ·rw[oP i hi];exact a1.part i hi
   ·rw[nP];exact hp
  ·show((Ze8 d p B U.2).1.N.getD B.1.N.length ZdH).dim=_
   rw[nN]
  ·exact nP
theorem Zls:∀(n:Nat),n+1<=L.length->NodS x L facts (L.length - (n+1)) (Zhq x L facts (n+1))
 | 0,h=>vis_s (d:=L.length - 1) (f:=Zhq x L facts 0) (by have:1<=L.length:=h;omega) (fun h2=>absurd (show L.length - 1+1=L.length by have:1<=L.length:=h;omega) h2)
 | n+1,h=>vis_s (d:=L.length - (n+1+1)) (f:=Zhq x L facts (n+1)) (by omega) (fun _=>by
  have:=Zls n (by omega)
  rw[show L.length - (n+1+1)+1=L.length - (n+1) by omega]
  exact this)
theorem Zf8:ZdW x L facts ⟨[],[],false⟩:=⟨rfl,fun i hi=>absurd hi (zbQ i),fun i j hi=>absurd hi (zbQ i),fun i hi=>absurd hi (zbQ i)⟩
theorem Zhu (h:facts≠[]):Zd3 facts (List.range facts.length):=⟨by simp;exact h,List.Sublist.refl _⟩
theorem ZjN {α:Type} [DecidableEq α]:∀{l m:List α},l.Nodup->(∀a∈l,a∈m)->l.length<=m.length
 | [],m,_,_=>zaT _
 | a :: l,m,h1,h2=>by
  obtain⟨k1,k2⟩:=zbz.1 h1
  have hm:=h2 a zah
  have:=ZjN (m:=m.erase a) k2 fun b hb=>(zca fun(e:b=a)=>k1 (by rw[<- e];exact hb)).2 (h2 b (zae _ hb))
  rw[List.length_erase_of_mem hm]at this
  have:0<m.length:=zck hm
  simp only[List.length_cons]
  omega
structure WAg (k:Nat) (a:Ag):Prop where
 n0:0<=a.n
 n1:a.n<=(k:Int) * 1000000000
 s0 : -((k:Int) * 1000000000000)<=a.s0/\a.s0<=(k:Int) * 1000000000000
 s1 : -((k:Int) * 1000000000000)<=a.s1/\a.s1<=(k:Int) * 1000000000000
 s2 : -((k:Int) * 1000000000000)<=a.s2/\a.s2<=(k:Int) * 1000000000000
theorem WAg.more {k m:Nat} {a:Ag} (h:WAg k a) (hk:k<=m):WAg m a:=by
 obtain⟨h0,h1,h2,h3,h4⟩:=h
 exact⟨h0,by omega,by omega,by omega,by omega⟩
theorem Zkv {j k:Nat} {a b:Ag} (ha:WAg j a) (hb:WAg k b) (hjk:j+k<=2000):∃c,Zdl a b=some c/\WAg (j+k) c:=by
 obtain⟨a0,a1,a2,a3,a4⟩:=ha
 obtain⟨b0,b1,b2,b3,b4⟩:=hb
 have f:∀v:Int,-9223372036854775808<=v->v<=9223372036854775807->ZeW v=true:=fun v h1 h2=>decide_eq_true (by unfold In64;omega)
 unfold Zdl
 by_cases h1:a.n=0
 ·exact⟨b,if_pos h1,(WAg.mk b0 b1 b2 b3 b4).more (by omega)⟩
 rw[if_neg h1]
 by_cases h2:b.n=0
 ·exact⟨a,if_pos h2,(WAg.mk a0 a1 a2 a3 a4).more (by omega)⟩
 rw[if_neg h2,f _ (by omega) (by omega),f (a.s0+b.s0) (by omega) (by omega),f (a.s1+b.s1) (by omega) (by omega),f (a.s2+b.s2) (by omega) (by omega)]
 refine⟨_,rfl,?_⟩
 unfold Zem
 simp only[show(0:Nat)<3 from by decide,show(1:Nat)<3 from by decide,show(2:Nat)<3 from by decide,if_true]
 exact⟨by simp only;omega,by simp only;omega,by simp only;omega,by simp only;omega,by simp only;omega⟩
theorem wag0:WAg 0 ag0:=⟨by decide,by decide,by decide,by decide,by decide⟩
theorem Zfy (hf:∀f∈facts,WAg 1 f.2):∀(part:List Nat) (a:Ag) (k:Nat),WAg k a->k+part.length<=2000->(∀i∈part,i<facts.length)->∃b,ZdJ facts a part=some b/\WAg (k+part.length) b
 | [],a,k,ha,_,_=>⟨a,rfl,ha⟩
 | i :: r,a,k,ha,hl,hp=>by
  have hi:=hp i zah
  have hg:facts.getD i ([],ag0)=facts[i]:=by rw[zaf,zab hi];rfl
  simp only[List.length_cons]at hl
  obtain⟨c,h1,h2⟩:=Zkv ha (hf _ (zal hi)) (by omega)
  obtain⟨b,h3,h4⟩:=Zfy hf r c (k+1) h2 (by omega) fun j hj=>hp j (zae _ hj)
  refine⟨b,?_,h4.more (by simp only[List.length_cons];omega)⟩
  unfold ZdJ
  rw[hg,h1]
  exact h3
theorem ZfB {h:DSt->Int->List Nat->DSt×Cel} (hh:∀c k p,Zbz facts p->(h c k p).1.over=c.over):∀(l:List (Int×List Nat)) (c:DSt),(∀q∈l,Zbz facts q.2)->(cellsD h c l).1.over=c.over
 | [],_,_=>rfl
 | p :: ps,c,hp=>(ZfB hh ps _ fun q hq=>hp q (zae _ hq)).trans (hh c p.1 p.2 (hp p zah))
theorem Zf2 {h:DSt->Int->List Nat->DSt×Cel} (hh:∀c k p,Zbz facts p->(h c k p).1.over=c.over):∀(l:List (List (Int×List Nat))) (c:DSt),(∀t∈l,∀q∈t,Zbz facts q.2)->(ZbW h c l).1.over=c.over
 | [],_,_=>rfl
 | p :: ps,c,hp=>(Zf2 hh ps _ fun q hq=>hp q (zae _ hq)).trans (ZfB hh p c (hp p zah))
theorem Zit (hs:∀p,Zbz facts p->(ZdJ facts ag0 p).isNone=false):∀(n:Nat) (c:DSt) (p:List Nat),Zbz facts p->(Zhq x L facts n c p).1.over=c.over
 | 0,_,_,_=>rfl
 | n+1,c,p,hp=>by
  have hc:∀c k p,Zbz facts p->(Zc2 facts (Zhq x L facts n) (decide (L.length - (n+1)+1=L.length)) c k p).1.over=c.over:=fun c k p hp=>by
   cases (decide (L.length - (n+1)+1=L.length))with
   | true =>
    show(c.over || (ZdJ facts ag0 p).isNone)=c.over
    rw[hs p hp,Bool.or_false]
   | false=>exact Zit hs n c p hp
  show(ZpU x L facts (Zhq x L facts n) (L.length - (n+1)) c p).1.over=c.over
  unfold ZpU visM
  split
  ·rfl
  ·exact(hc _ 0 p hp).trans (Zf2 hc _ c (Zku hp))
end
theorem ZlB {S:Sc} {facts:List Fct} (hs:scE S=0) (hr:Zd7 (Za3 S) none facts=0) (hl:facts.length<=1000) (hw:∀f∈facts,WAg 1 f.2):ZdW (Za3 S) (Zan S) facts (Zcn S facts)/\(Zcn S facts).over=false:=by
 have hLl:(Zan S).length=S.dims.length:=by unfold Zan;rw[zaa]
 have hs1:=(Zb7 hs).1
 unfold Zcn
 split
 ·exact⟨Zf8,rfl⟩
 ·rename_i hne
  have hp:=Zhu hne
  have h1:=Zls (x:=Za3 S) (L:=Zan S) (facts:=facts) ((Zan S).length - 1) (by omega) ⟨[],[],false⟩ _ hp Zf8
  rw[show(Zan S).length - 1+1=(Zan S).length by omega]at h1
  refine⟨h1.1,Zit (fun p hp=>?_) _ _ _ hp.ok⟩
  obtain⟨b,hb,_⟩:=Zfy hw p ag0 0 wag0 (by have:=hp.2.1;omega) hp.2.2
  rw[hb];rfl
theorem Zst {x:Shp} {L:List (List (List Int))} {facts:List Fct} {f:DSt->List Nat->DSt×Int} {d:Nat} {c:DSt} {p:List Nat} (h:Ze3 d p c.N c.P=none):(ZpU x L facts f d c p).2+1=((ZpU x L facts f d c p).1.N.length:Int):=by
 unfold ZpU visM
 rw[h]
 show(_:Int)+1=((_++[_]).length:Int)
 rw[zaj,List.length_singleton]
 rfl
theorem ZmL {S:Sc} {facts:List Fct} (hs:scE S=0) (hne:facts≠[]):0<(Zcn S facts).N.length/\((Zcn S facts).N.getD ((Zcn S facts).N.length - 1) ZdH).dim=0/\(Zcn S facts).P.getD ((Zcn S facts).N.length - 1) []=List.range facts.length:=by
 have hLl:(Zan S).length=S.dims.length:=by unfold Zan;rw[zaa]
 have hs1:=(Zb7 hs).1
 have hp:=Zhu hne
 have h1:=Zls (x:=Za3 S) (L:=Zan S) (facts:=facts) ((Zan S).length - 1) (by omega) ⟨[],[],false⟩ _ hp Zf8
 have h2:=Zst (x:=Za3 S) (L:=Zan S) (facts:=facts) (f:=Zhq (Za3 S) (Zan S) facts ((Zan S).length - 1)) (d:=(Zan S).length - ((Zan S).length - 1+1)) (c:=⟨[],[],false⟩) (p:=List.range facts.length) rfl
 have h2:(Zhq (Za3 S) (Zan S) facts ((Zan S).length - 1+1) ⟨[],[],false⟩ (List.range facts.length)).2+1=_:=h2
 have h2:(Zhq (Za3 S) (Zan S) facts ((Zan S).length - 1+1) ⟨[],[],false⟩ (List.range facts.length)).2+1=((Zhq (Za3 S) (Zan S) facts ((Zan S).length - 1+1) ⟨[],[],false⟩ (List.range facts.length)).1.N.length:Int):=h2
 rw[show(Zan S).length - 1+1=(Zan S).length by omega]at h1 h2
 rw[zcd]at h1
 obtain⟨_,_,j,e,h3,h4,h5⟩:=h1
 unfold Zcn
 rw[if_neg hne]
 have hj:j=(Zhq (Za3 S) (Zan S) facts (Zan S).length ⟨[],[],false⟩ (List.range facts.length)).1.N.length - 1:=by omega
 rw[<- hj]
 exact⟨by omega,h4,h5⟩
def Za9 (L:List (List (List Int))) (facts:List Fct):Nat->List (Int×Int)->Nat->Bool
 | _,[],_=>true
 | d,q :: w,i=>(decide (q.1<0) || (Zdm L facts d q.1.toNat i == q.2))&&Za9 L facts (d+1) w i
def Zek (n:Nod) (q:Int×Int):Option Cel :=
 if n.lists.length=0\/(n.lists.length:Int)<=q.1 then none else if q.1<0 then some n.all else (n.lists.getD q.1.toNat []).find? fun c=>c.key == q.2
def ZmK:Option Cel->Cel×Int
 | none=>(ZcE,10)
 | some c=>(c,0)
def ZcB (N:List Nod) (at' dim:Int) (q:Int×Int):Cel×Int :=
 if at'<0\/(N.length:Int)<=at' then (ZcE,9) else
 if (N.getD at'.toNat ZdH).dim≠dim\/((N.getD at'.toNat ZdH).lists.length:Int)<=q.1 then (ZcE,15) else ZmK (Zek (N.getD at'.toNat ZdH) q)
def ZfF (x:Shp) (L:List (List (List Int))) (d:Nat) (q:Int×Int):Prop:=(q.1<0/\q.2=0)\/∃t:Nat,q.1=(t:Int)/\t<(L.getD d []).length/\0<=q.2/\q.2<Zch x d t
section
variable {x:Shp} {L:List (List (List Int))} {facts:List Fct}
theorem ZhW {R:Cel->Int×List Nat->Prop} (hR:∀z g,R z g->z.key=g.1) (k:Int):∀{l:List Cel} {m:List (Int×List Nat)},ZeK R l m->(∃z g,(l.find? fun c=>c.key == k)=some z/\(m.find? fun g=>g.1 == k)=some g/\R z g)\/((l.find? fun c=>c.key == k)=none/\(m.find? fun g=>g.1 == k)=none)
 | _,_,.nil=>.inr ⟨rfl,rfl⟩
 | _,_,.cons (a:=a) (b:=b) h t=>by
  have hk:=hR _ _ h
  by_cases c:b.1=k
  ·refine .inl ⟨a,b,?_,?_,h⟩
   ·rw[List.find?_cons,show(a.key == k)=true by simp[hk,c]]
   ·rw[List.find?_cons,show(b.1 == k)=true by simp[c]]
  ·rw[List.find?_cons,List.find?_cons,show(a.key == k)=false by simp[hk,c],show(b.1 == k)=false by simp[c]]
   exact ZhW hR k t
theorem grs_of {key:Nat->Int} {n:Nat} {part:List Nat} {g:Int×List Nat} (hg:g∈grs key n part):g.2=part.filter fun i=>decide (key i=g.1):=by
 unfold grs at hg
 obtain⟨k,_,h⟩:=zbB.1 hg
 split at h
 ·cases h
 ·injection h with h;rw[<- h]
theorem grs_find {key:Nat->Int} {n:Nat} {part:List Nat} {k:Int} (h0:0<=k) (h1:k<n):(grs key n part).find? (fun g=>g.1 == k)=if part.filter (fun i=>decide (key i=k))=[] then none else some (k,part.filter fun i=>decide (key i=k)):=by
 cases hf:(grs key n part).find? (fun g=>g.1 == k)with
 | some g =>
  have hm:=List.mem_of_find?_eq_some hf
  have hk:=List.find?_some hf
  have hk:g.1=k:=by simpa using hk
  have h2:=grs_of hm
  have h3:=(Zfb hm).1
  rw[hk]at h2
  rw[if_neg (by rw[<- h2];exact h3),<- h2,<- hk]
 | none =>
  rw[zce]at hf
  split
  ·rfl
  ·rename_i hne
   exfalso
   obtain⟨i,hi⟩:=zbH _ hne
   obtain⟨i1,i2⟩:=zbb.1 hi
   have i2:key i=k:=by simpa using i2
   have:=Zfg (key:=key) (n:=n) i1 (by rw[i2];exact⟨h0,h1⟩)
   rw[i2]at this
   obtain⟨g,hg,he⟩:=zan.1 this
   exact hf g hg (by simpa using he)
theorem ZgZ {α β:Type} {R:α->β->Prop}:∀{l:List α} {m:List β},ZeK R l m->∀(i:Nat) (h:i<l.length) (h':i<m.length),R l[i] m[i]
 | _,_,.nil,i,h,_=>by simp at h
 | _,_,.cons h t,0,_,_=>h
 | _,_,.cons h t,i+1,h1,h2=>ZgZ t i (by simpa using h1) (by simpa using h2)
def ZeD (L:List (List (List Int))) (facts:List Fct) (d:Nat) (p:List Nat) (q:Int×Int):List Nat:=if q.1<0 then p else p.filter fun i=>decide (Zdm L facts d q.1.toNat i=q.2)
theorem ZjL {c:DSt} (hF:ZbI x L facts) (hc:ZdW x L facts c) {j d:Nat} (hj:j<c.N.length) (hd:(c.N.getD j ZdH).dim=(d:Int)) {q:Int×Int} (hq:ZfF x L d q) :
  (ZeD L facts d (c.P.getD j []) q=[]->ZcB c.N j d q=(ZcE,10))/\(ZeD L facts d (c.P.getD j []) q≠[]->(ZcB c.N j d q).2=0/\ZiH L facts c j d (ZeD L facts d (c.P.getD j []) q) (ZcB c.N j d q).1):=by
 obtain⟨e,he,hn⟩:=hc.nod j hj
 obtain⟨n1,n2,n3,n4⟩:=hn
 obtain rfl:e=d:=by rw[hd]at n1;omega
 have hpart:=hc.part j hj
 have hgl:(ZaC x L facts e (c.P.getD j [])).length=(L.getD e []).length:=by unfold ZaC;simp
 have hll:=n4.length
 have hL:(L.getD e [])=L[e]:=by rw[zaf,zab he];rfl
 obtain⟨t1,t2,t3⟩:=hF.tier e he
 have hgl2:(L.getD e []).length=L[e].length:=by rw[hL]
 have hgg:∀k (h:k<(ZaC x L facts e (c.P.getD j [])).length),(ZaC x L facts e (c.P.getD j []))[k]=grs (Zdm L facts e k) (Zch x e k) (c.P.getD j []):=fun k h=>by simp[ZaC]
 have h0:¬((j:Int)<0\/(c.N.length:Int)<=j):=by omega
 generalize hp:c.P.getD j []=p at *
 have hnz:((c.N.getD ((j:Int)).toNat ZdH))=c.N.getD j ZdH:=by rw[Int.toNat_natCast]
 rcases hq with⟨q1,q2⟩|⟨t,q1,q2,q3,q4⟩
 ·have hs:ZcB c.N j e q=((c.N.getD j ZdH).all,0):=by
   unfold ZcB Zek
   rw[if_neg h0,hnz,if_neg (by rw[hd];omega),if_neg (by omega),if_pos q1];rfl
  have hpq:ZeD L facts e p q=p:=by unfold ZeD;rw[if_pos q1]
  rw[hpq,hs]
  exact⟨fun h=>absurd h hpart.1,fun _=>⟨rfl,n3⟩⟩
 ·have htn:t<(c.N.getD j ZdH).lists.length:=by omega
  have hs:ZcB c.N j e q=ZmK (((c.N.getD j ZdH).lists[t]).find? fun c=>c.key == q.2):=by
   unfold ZcB Zek
   rw[if_neg h0,hnz,if_neg (by rw[hd];omega),if_neg (by omega),if_neg (by omega),q1,Int.toNat_natCast,zaf,zab htn];rfl
  have hpq:ZeD L facts e p q=p.filter fun i=>decide (Zdm L facts e t i=q.2):=by unfold ZeD;rw[if_neg (by omega),q1,Int.toNat_natCast]
  have h4:=ZgZ n4 t htn (by omega)
  rw[hgg t (by omega)]at h4
  have hgf:=grs_find (key:=Zdm L facts e t) (n:=Zch x e t) (part:=p) q3 q4
  rw[hpq,hs]
  rcases ZhW (fun z g h=>h.1) q.2 h4 with⟨z,g,e1,e2,hr⟩|⟨e1,e2⟩
  ·rw[e1]
   rw[e2]at hgf
   split at hgf
   ·cases hgf
   ·rename_i hne
    injection hgf with hgf
    rw[hgf]at hr
    exact⟨fun h=>absurd h hne,fun _=>⟨rfl,hr.2⟩⟩
  ·rw[e1]
   rw[e2]at hgf
   split at hgf
   ·rename_i hem;exact⟨fun _=>rfl,fun h=>absurd hem h⟩
   ·cases hgf
end
theorem ZkF {N:List Nod} {i:Int} (h:0<=i):Zdw N i=N.getD i.toNat ZdH:=by
 unfold Zdw ZdH
 rw[if_pos h,zaf];rfl
@[simp] theorem matchP_nil {L:List (List (List Int))} {facts:List Fct} {d i:Nat}:Za9 L facts d [] i=true:=rfl
theorem ZgG {L:List (List (List Int))} {facts:List Fct} (i:Nat) (q:Int×Int):∀(w:List (Int×Int)) (d:Nat),Za9 L facts d (w++[q]) i=(Za9 L facts d w i&&(decide (q.1<0) || (Zdm L facts (d+w.length) q.1.toNat i == q.2)))
 | [],d=>by simp[Za9]
 | p :: w,d=>by
  have ih:=ZgG (L:=L) (facts:=facts) i q w (d+1)
  show(_&&Za9 L facts (d+1) (w++[q]) i)=_
  rw[ih,Za9,Bool.and_assoc,List.length_cons,show d+(w.length+1)=d+1+w.length by omega]
def ZlW (l:List Fct):Prop:=l.length<=1000/\∀f∈l,f.2.n<=1000000000/\(-1000000000000<=f.2.s0/\f.2.s0<=1000000000000)/\(-1000000000000<=f.2.s1/\f.2.s1<=1000000000000)/\(-1000000000000<=f.2.s2/\f.2.s2<=1000000000000)
theorem ZlW.wag {l:List Fct} (h:ZlW l) {m:Int} (hm:∀f∈l,Zbw m f.2=true):∀f∈l,WAg 1 f.2:=fun f hf=>by
 obtain⟨h1,h2,h3,h4⟩:=h.2 f hf
 have:=hm f hf
 unfold Zbw at this
 simp only[zaA,decide_eq_true_eq]at this
 obtain⟨⟨⟨⟨⟨_,_⟩,a3⟩,_⟩,_⟩,_⟩:=this
 exact⟨by omega,by omega,by omega,by omega,by omega⟩
def WideQ (l:List Fct) (H:Zaa) (r:AV) (H':Zaa):Prop:=HX [] H H'/\∃b,r=.b b/\(b=true->ZlW l)
def prtS (a:Ag):Nat->Int
 | 0=>a.s0
 | 1=>a.s1
 | _=>a.s2
set_option maxHeartbeats 4000000 in
theorem Zkx (t:Tok) (l:List Fct) (H:Zaa) (hl:l.length<=1000000):Zay Tryz.prog 20 [.sl t (rF l)] H (WideQ l H):=by
 refine Zak hE cf20 (zad rfl) fun Q qr qn=>?_
 ((have hd:=tv;repeat' first|(first|apply Zad|apply Zac|apply Zab)<;>intro hd<;>try simp only[hd]|simp(disch:=first|assumption|omega|simp only[nx]<;>omega|fail)only[hd,qr,qn,Zf9,↓YA,YY,sevalprocAttr,zaa])<;>try revert hd;refine ttr ?_)
 refine Zbs [0,6,7] (σ:=Unit) (fun(k:Nat) s=>∀j (h:j<l.length),j<k->l[j].2.n<=1000000000/\∀m,m<3 -> -1000000000000<=prtS l[j].2 m/\prtS l[j].2 m<=1000000000000) (fun k s=>[]) (fun k s=>[]) () (GStep.refl _ _) (by simp only[ZaA,Zav,Fr.put,Fr.get,↓reduceIte,Nat.reduceEqDiff];rfl) (by intro k s;rfl) (by intro k s;rfl) (by rfl) (by unfold maxLen;omega) ?_ (by simp only[ZaF]) (by simp only[ZaJ]) ?_ ?_
 ·exact fun j _ h=>absurd h (zbQ j)
 ·(rintro k s G hk hno hG hn;try simp only[nx]at hn)
  have h0:(0:Int)<=(k:Int):=by omega
  have hrf:=ZjV hk
  obtain⟨j0,j1,j2,j3⟩:=Zbu l[k]
  have en:(ZcI l[k])[1]?=some (.i l[k].2.n):=rfl
  have es:∀m,m<3->(ZcI l[k])[2+m * 3]?=some (.i (prtS l[k].2 m)):=fun m hm=>by
   obtain rfl|rfl|rfl:m=0\/m=1\/m=2:=by omega
   ·rfl
   ·rfl
   ·rfl
  have hnk:∀P:Prop,(l[k].2.n<=1000000000/\∀m,m<3 -> -1000000000000<=prtS l[k].2 m/\prtS l[k].2 m<=1000000000000)->(∀j (h:j<l.length),j<k+1->l[j].2.n<=1000000000/\∀m,m<3 -> -1000000000000<=prtS l[j].2 m/\prtS l[j].2 m<=1000000000000):=fun _ hq j hj hjk=>by
   rcases Nat.lt_or_eq_of_le (Nat.lt_succ_iff.1 hjk)with h|rfl
   ·exact hno j hj h
   ·exact hq
  generalize l[k]=f at *
  have hG1:HX [] H (G.alloc (.cells (ZcI f) 88)):=hG.alloc
  by_cases c1:f.2.n > 1000000000
  ·have d1:decide (f.2.n > 1000000000)=true:=decide_eq_true c1
   ((have hd:=tv;repeat' first|(first|apply Zad|apply Zac|apply Zab)<;>intro hd<;>try simp only[hd]|simp(disch:=first|assumption|omega|simp only[nx]<;>omega|fail)only[hd,qr,qn,Zf9,↓YA,YY,sevalprocAttr,hrf,h0,hk,j0,j3,en,d1])<;>try revert hd;refine ttr ?_)
   exact Zaq ⟨hG1,false,rfl,fun h=>by cases h⟩
  ·have d1:decide (f.2.n > 1000000000)=false:=decide_eq_false c1
   ((have hd:=tv;repeat' first|(first|apply Zad|apply Zac|apply Zab)<;>intro hd<;>try simp only[hd]|simp(disch:=first|assumption|omega|simp only[nx]<;>omega|fail)only[hd,qr,qn,Zf9,↓YA,YY,sevalprocAttr,hrf,h0,hk,j0,j3,en,d1])<;>try revert hd;refine ttr ?_)
   have g4:(G.alloc (.cells (ZcI f) 88)).get G.next=some (.cells (ZcI f) 88):=Zaa.Zae
   have l4:=Zaa.lt g4
   generalize G.alloc (.cells (ZcI f) 88)=G1 at *
   generalize G.next=i4 at *
   refine Zbs (N:=3) [0,4,6,7,8] (σ:=Unit) (fun(k:Nat) s=>∀m,m<k -> -1000000000000<=prtS f.2 m/\prtS f.2 m<=1000000000000) (fun k s=>[]) (fun k s=>[]) () (GStep.refl _ _) (by simp only[ZaA,Zav,Fr.put,Fr.get,↓reduceIte,Nat.reduceEqDiff];rfl) (by intro k s;rfl) (by intro k s;rfl) (by rfl) (by unfold maxLen;omega) ?_ (by simp only[ZaF]) (by simp only[ZaJ]) ?_ ?_
   ·exact fun m h=>absurd h (zbQ m)
   ·(rintro m s2 G2 hm hno2 hG2 hn2;try simp only[nx]at hn2)
    have g4:=(hG2.g _ l4 (by simp)).trans g4
    have hes:=es m hm
    have hm0:(0:Int)<=(m:Int):=by omega
    have hm3:(m:Int)<((3:Nat):Int):=by omega
    have hm3b:(m:Int)<3:=hm3
    generalize hv:prtS f.2 m=v at *
    by_cases c2:v > 1000000000000
    ·have d2:decide (v > 1000000000000)=true:=decide_eq_true c2
     ((have hd:=tv;repeat' first|(first|apply Zad|apply Zac|apply Zab)<;>intro hd<;>try simp only[hd]|simp(disch:=first|assumption|omega|simp only[nx]<;>omega|fail)only[hd,qr,qn,Zf9,↓YA,YY,sevalprocAttr,g4,j0,j3,hes,d2,hm0,hm3,hm3b,hm])<;>try revert hd;refine ttr ?_)
     exact Zaq ⟨hG1.ZeP hG2,false,rfl,fun h=>by cases h⟩
    ·have d2:decide (v > 1000000000000)=false:=decide_eq_false c2
     by_cases c3:v < -1000000000000
     ·have d3:decide (v < -1000000000000)=true:=decide_eq_true c3
      ((have hd:=tv;repeat' first|(first|apply Zad|apply Zac|apply Zab)<;>intro hd<;>try simp only[hd]|simp(disch:=first|assumption|omega|simp only[nx]<;>omega|fail)only[hd,qr,qn,Zf9,↓YA,YY,sevalprocAttr,g4,j0,j3,hes,d2,d3,hm0,hm3,hm3b,hm])<;>try revert hd;refine ttr ?_)
      exact Zaq ⟨hG1.ZeP hG2,false,rfl,fun h=>by cases h⟩
     ·have d3:decide (v < -1000000000000)=false:=decide_eq_false c3
      ((have hd:=tv;repeat' first|(first|apply Zad|apply Zac|apply Zab)<;>intro hd<;>try simp only[hd]|simp(disch:=first|assumption|omega|simp only[nx]<;>omega|fail)only[hd,qr,qn,Zf9,↓YA,YY,sevalprocAttr,g4,j0,j3,hes,d2,d3,hm0,hm3,hm3b,hm])<;>try revert hd;refine ttr ?_)
      exact⟨(),fun q hq=>by
       rcases Nat.lt_or_eq_of_le (Nat.lt_succ_iff.1 hq)with h|rfl
       ·exact hno2 q h
       ·rw[hv];omega,hG2⟩
   ·(rintro s2 G2 hno2 hG2 hn2;try simp only[nx]at hn2)
    ((have hd:=tv;repeat' first|(first|apply Zad|apply Zac|apply Zab)<;>intro hd<;>try simp only[hd]|simp(disch:=first|assumption|omega|simp only[nx]<;>omega|fail)only[hd,qr,qn,Zf9,↓YA,YY,sevalprocAttr])<;>try revert hd;refine ttr ?_)
    exact⟨(),hnk True ⟨by omega,hno2⟩,hG1.ZeP hG2⟩
 ·(rintro s G hno hG hn;try simp only[nx]at hn)
  by_cases c1:l.length<=1000
  ·have d1:decide ((l.length:Int)<=1000)=true:=decide_eq_true (by omega)
   ((have hd:=tv;repeat' first|(first|apply Zad|apply Zac|apply Zab)<;>intro hd<;>try simp only[hd]|simp(disch:=first|assumption|omega|simp only[nx]<;>omega|fail)only[hd,qr,qn,Zf9,↓YA,YY,sevalprocAttr,d1,zaa])<;>try revert hd;refine ttr ?_)
   refine Zap.use (Zfs t l 1000 _ (by omega)) ?_
   rintro r H2 ⟨hx2,b,rfl,hfl⟩
   ((have hd:=tv;repeat' first|(first|apply Zad|apply Zac|apply Zab)<;>intro hd<;>try simp only[hd]|simp(disch:=first|assumption|omega|simp only[nx]<;>omega|fail)only[hd,qr,qn,Zf9,↓YA,YY,sevalprocAttr])<;>try revert hd;refine ttr ?_)
   exact Zaq ⟨hG.ZeP hx2,b,rfl,fun _=>⟨c1,fun f hf=>by
    obtain⟨j,hj,rfl⟩:=zaw hf
    obtain⟨q1,q2⟩:=hno j hj hj
    exact⟨q1,q2 0 (by decide),q2 1 (by decide),q2 2 (by decide)⟩⟩⟩
  ·have d1:decide ((l.length:Int)<=1000)=false:=decide_eq_false (by omega)
   ((have hd:=tv;repeat' first|(first|apply Zad|apply Zac|apply Zab)<;>intro hd<;>try simp only[hd]|simp(disch:=first|assumption|omega|simp only[nx]<;>omega|fail)only[hd,qr,qn,Zf9,↓YA,YY,sevalprocAttr,d1,zaa])<;>try revert hd;refine ttr ?_)
   exact Zaq ⟨hG,false,rfl,fun h=>by cases h⟩
section
variable {rd:FuncId} {first caps:List AV} {N:List Nod} {S:List Nat} {Inv:List Int->Zaa->Prop}
end
end Go.Proofs.YtaapiigfmdhobaaGreat
