/- Texts of the walk. -/
import Derived.Test.YtaapiigfmdhobaaGreatMo
import Derived.Test.YtaapiigfmdhobaaGreatMi
import Derived.Test.YtaapiigfmdhobaaGreatMk
namespace Go.Proofs.YtaapiigfmdhobaaGreat
set_option linter.defProp false
set_option linter.unusedSimpArgs false
set_option linter.unusedVariables false
open Go.RowKit
def newE (x:Shp) (most:Int):Int:=if ZbS x=true/\0<=most/\most<=131072 then 0 else 2
def Zfa (S:Sc) (most:Int) (facts:List Fct):BSt:=(ZcV (Za3 S) (Zan S) facts most (Zan S).length ⟨[],[],0⟩ (List.range facts.length)).1
def Zet (S:Sc) (most:Int) (facts:List Fct):Int :=
 if scE S≠0 then scE S else if Zd7 (Za3 S) none facts≠0 then Zd7 (Za3 S) none facts else if (facts.length:Int) > 4000 then 6 else if newE (Za3 S) most≠0 then 2 else if facts=[] then 0 else (Zfa S most facts).e
def Ze6 (S:Sc) (most:Int) (facts:List Fct):List Nod:=if facts=[] then [] else (Zfa S most facts).N
def ZdZ (S:Sc) (most:Int) (facts:List Fct) (H:Zaa) (r:AV) (H':Zaa):Prop :=
 Zaa.Ext H H'/\((Zet S most facts≠0/\r=.tup [.sc (.pointer none),.i (Zet S most facts)])\/(Zet S most facts=0/\∃id,r=.tup [.ptr id 0,.i 0]/\ArA H' id (Za3 S) (Ze6 S most facts)))
theorem Zgl:∀{l:List Dm} {seen:List Tx},Zd1 seen l=0->∀d∈l,Zdv d=0
 | [],_,_,d,h=>by cases h
 | c :: r,seen,h,d,hd=>by
  unfold Zd1 at h
  split at h
  ·rename_i h1;exact absurd h h1
  ·rename_i h1
   split at h
   ·omega
   ·rcases zal.1 hd with rfl|hd
    ·exact zaQ.1 h1
    ·exact Zgl h d hd
theorem Zb7 {S:Sc} (h:scE S=0):1<=S.dims.length/\S.dims.length<=16/\(∀d∈S.dims,Zdv d=0)/\Zd8 S.meas=0:=by
 unfold scE at h
 split at h
 ·omega
 ·rename_i h1
  split at h
  ·rename_i h2;exact absurd h h2
  ·rename_i h2
   exact⟨by omega,by omega,Zgl (zaQ.1 h2),h⟩
theorem Zh7:∀{l:List Tr} {seen:List Tx},Zkb seen l=0->∀k (h:k<l.length),ZbO l[k] (ZbR (l.drop (k+1)))=0
 | [],_,_,k,h=>by simp at h
 | t :: r,seen,h,k,hk=>by
  unfold Zkb at h
  split at h
  ·rename_i h1;exact absurd h h1
  ·rename_i h1
   split at h
   ·omega
   ·cases k with
    | zero=>simpa using zaQ.1 h1
    | succ k=>simpa using Zh7 h k (by simpa using hk)
theorem Zce {d:Dm} (h:Zdv d=0):1<=d.tiers.length/\d.tiers.length<=4/\∀k (h:k<d.tiers.length),ZbO d.tiers[k] (ZbR (d.tiers.drop (k+1)))=0:=by
 unfold Zdv at h
 split at h
 ·omega
 ·split at h
  ·omega
  ·exact⟨by omega,by omega,Zh7 h⟩
theorem Zcd {t:Tr} {a:Int} (h:ZbO t a=0):1<=t.terms.length/\t.terms.length<=200/\ZdD t.up t.terms.length a=true:=by
 unfold ZbO at h
 split at h
 ·omega
 ·split at h
  ·omega
  ·rename_i h2
   split at h
   ·rename_i h1;exact absurd h h1
   ·split at h
    ·omega
    ·rename_i h3
     exact⟨by omega,by omega,by simpa using h3⟩
theorem Zlg {S:Sc} (h:scE S=0):∀d∈S.dims,d.tiers.length<=1000000/\n0 d<=1000000:=fun d hd=>by
 obtain⟨h1,h2,h3⟩:=Zce ((Zb7 h).2.2.1 d hd)
 refine⟨by omega,?_⟩
 have:=Zcd (h3 0 (by omega))
 unfold n0
 rw[zaa (by omega)]
 simp only[Option.map_some,Option.getD_some]
 omega
set_option maxHeartbeats 4000000 in
theorem ZfY (t:Tok) (S:Sc) (most:Int) (facts:List Fct) (H:Zaa) (hS:Zh1 S) (hl:facts.length<=1000000) (hF:scE S=0->Zd7 (Za3 S) none facts=0->facts.length<=4000->ZbS (Za3 S)=true->ZbI (Za3 S) (Zan S) facts) :
  Zay Tryz.prog 12 [.agg (eSc S),.i most,.sl t (rF facts)] H (ZdZ S most facts H):=by
 obtain⟨f0,f1,f2,f3⟩:=ZbB S
 obtain⟨x0,x1,x2,x3⟩:=Zc6 (Za3 S)
 have xd:(Zc3 (Za3 S)).drop 2=[]:=rfl
 by_cases h1:scE S=0
 ·obtain⟨b1,b2,b3,b4⟩:=Zb7 h1
  have hxl:(Za3 S).sizes.length<=1000000:=by unfold Za3;simp;omega
  have hT:=Zlg h1
  have hshp:∀G,Zay Tryz.prog 49 [.agg (eSc S)] G (Pure G (.agg (Zc3 (Za3 S)))):=fun G=>ZiK S G (by omega) (fun d hd=>(hT d hd).1)
  by_cases h2:Zd7 (Za3 S) none facts=0
  ·by_cases h3:(facts.length:Int) > 4000
   ·have hv:Zet S most facts=6:=by unfold Zet;rw[if_neg (by simp[h1]),if_neg (by simp[h2]),if_pos h3]
    have d3:decide ((facts.length:Int) > 4000)=true:=decide_eq_true h3
    unfold ZdZ
    rw[hv]
    refine Zak hE cf12 (zab rfl) fun Q qr qn=>?_
    have hZ:=an7 f0<|f3;refine Bz1 ?_
    refine qcp (Zc9 S _ hS) fun k1=>?_
    have hZ:=an7 f0<|an7 f3<|h1;refine Bz1 ?_
    refine qcp (hshp _) fun k2=>?_
    have hZ:=an7 x0<|an7 x3<|xd;refine Bz5 ?_
    refine qcp (Zde t (Za3 S) facts _ hl hxl) fun k3=>?_
    have hZ:=an7 h2<|d3;refine Bz3 ?_
    exact Zaq ⟨by exact AXT,by first|exact .inl ⟨by decide,rfl⟩|exact .inl rfl⟩
   ·have d3:decide ((facts.length:Int) > 4000)=false:=decide_eq_false h3
    have hH:∀k1 k2 k3,Zaa.Ext H ((((((H.alloc (.cells (eSc S) 25)).bump k1).bump k2).alloc (.cells (Zc3 (Za3 S)) 37)).bump k3)):=fun k1 k2 k3=>by exact AXT
    by_cases h4:ZbS (Za3 S)=true/\0<=most/\most<=131072
    ·have hn:newE (Za3 S) most=0:=if_pos h4
     by_cases h5:facts=[]
     ·have hv:Zet S most facts=0:=by unfold Zet;rw[if_neg (by simp[h1]),if_neg (by simp[h2]),if_neg h3,if_neg (by simp[hn]),if_pos h5]
      have hw:Ze6 S most facts=[]:=by unfold Ze6;rw[if_pos h5]
      have d5:((facts.length:Int) == 0)=true:=by rw[h5];rfl
      unfold ZdZ
      rw[hv,hw]
      refine Zak hE cf12 (zab rfl) fun Q qr qn=>?_
      have hZ:=an7 f0<|f3;refine Bz1 ?_
      refine qcp (Zc9 S _ hS) fun k1=>?_
      have hZ:=an7 f0<|an7 f3<|h1;refine Bz1 ?_
      refine qcp (hshp _) fun k2=>?_
      have hZ:=an7 x0<|an7 x3<|xd;refine Bz5 ?_
      refine qcp (Zde t (Za3 S) facts _ hl hxl) fun k3=>?_
      have hZ:=an7 h2<|an7 d3<|an7 x0<|x3;refine Bz3 ?_
      refine Zap.use (Zfe (Za3 S) most _) ?_
      rintro r G ⟨hx,hr⟩
      rw[if_pos h4]at hr
      obtain⟨oid,tok,rfl,ho1,ho2⟩:=hr
      have hZ:=d5;refine Bz3 ?_
      exact Zaq ⟨(hH k1 k2 k3).trans hx,.inr ⟨oid,rfl,tok,.full,most,ho2⟩⟩
     ·have d5:((facts.length:Int) == 0)=false:=by
       have:facts.length≠0:=fun h=>h5 (zaJ h)
       simp only[beq_eq_false_iff_ne];omega
      have hv:Zet S most facts=(Zfa S most facts).e:=by unfold Zet;rw[if_neg (by simp[h1]),if_neg (by simp[h2]),if_neg h3,if_neg (by simp[hn]),if_neg h5]
      have hw:Ze6 S most facts=(Zfa S most facts).N:=by unfold Ze6;rw[if_neg h5]
      have hok:=hF h1 h2 (by omega) h4.1
      unfold ZdZ
      rw[hv,hw]
      have hlf:∀G,Zay Tryz.prog 52 [.agg (eSc S)] G (Pure G (.sl .no (rIII (Zan S)))):=fun G=>Zjk S G (by omega) hT
      have hbn:Zfa S most facts=(ZcV (Za3 S) (Zan S) facts most (Zan S).length ⟨[],[],0⟩ (List.range facts.length)).1:=rfl
      have hLl:(Zan S).length=S.dims.length:=by unfold Zan;rw[zaj]
      generalize Zan S=L at *
      have hnode:∀mg oid tk mid tok tf tl,NodK mg oid tk mid (Za3 S) tok tf tl L facts most (ZcV (Za3 S) L facts most L.length) 0:=fun mg oid tk mid tok tf tl=>by
       have:=ZfW (mg:=mg) (oid:=oid) (tk:=tk) (mid:=mid) (tok:=tok) (tf:=tf) (tl:=tl) (most:=most) hok h4.1 (L.length - 1) (by omega)
       rw[show L.length - 1+1=L.length by omega,Nat.sub_self]at this
       exact this
      have hpo:Zbz facts (List.range facts.length):=⟨by simp;exact h5,by simp,fun i hi=>by simpa using hi⟩
      refine Zak hE cf12 (zab rfl) fun Q qr qn=>?_
      have hZ:=an7 f0<|f3;refine Bz1 ?_
      refine qcp (Zc9 S _ hS) fun k1=>?_
      have hZ:=an7 f0<|an7 f3<|h1;refine Bz1 ?_
      refine qcp (hshp _) fun k2=>?_
      have hZ:=an7 x0<|an7 x3<|xd;refine Bz5 ?_
      refine qcp (Zde t (Za3 S) facts _ hl hxl) fun k3=>?_
      have hZ:=an7 h2<|an7 d3<|an7 x0<|x3;refine Bz3 ?_
      refine Zap.use (Zfe (Za3 S) most _) ?_
      rintro r G ⟨hx,hr⟩
      rw[if_pos h4]at hr
      obtain⟨oid,tok,rfl,ho1,ho2⟩:=hr
      have hs3:G.get H.next=some (.cells (eSc S) 25):=hx.get _ _ (by
       rw[Zaa.ZaB,Zaa.Zag (by simp only[nx];omega),Zaa.ZaB,Zaa.ZaB]
       exact Zaa.Zae)
      have hZ:=an7 d5<|an7 hs3<|an7 f0<|f3;refine Bz3 ?_
      refine qcp (hlf _) fun k4=>?_
      have hZ:=an7 d5<|an7 hs3<|an7 f0<|f3;refine Bz3 ?_
      have hgo:=Zaa.lt ho2
      have hHG:=((hH k1 k2 k3).trans hx).next
      refine ZbJ (N:=facts.length) (fun k F S2=>Fr.get F 54=.i (k:Int)/\Fr.get F 53=.i (facts.length:Int)/\Fr.get F 11=.ptr oid 0/\Fr.get F 13=.ptr (G.next+k4+1) 0/\Fr.get F 14=.sl (.own (G.next+k4+1+1+1)) (rP (List.range k)) /\
       Bld (G.next+k4+1) oid (G.next+k4+1+1) (G.next+k4) (Za3 S) tok t .no L facts most ⟨[],[],0⟩ S2/\S2.get (G.next+k4+1+1+1)=some (.tok k 3 1)/\Zaa.Ext H S2) (by unfold maxLen;omega) (fun k F G h=>⟨h.1,h.2.1⟩)
       (((GStep.ZdO oid 2 117 115 14 (cs:=eAr (Za3 S) tok (.sl .full []) most) (by rw[Zaa.Zag (by simp only[nx];omega),Zaa.Zag (by simp only[nx];omega),Zaa.ZaB];exact ho2) rfl).trans (GStep.tok 14 3 1 rfl)).trans (GStep.fr (F':=[(54,.i ((0:Nat):Int)),(53,.i (facts.length:Int)),(11,.ptr oid 0),(13,.ptr (G.next+k4+1) 0),(14,.sl (.own (G.next+k4+1+1+1)) [])]) (by simp[Fr.get,Fr.put,nx]))) ?_ ?_ ?_
      ·refine⟨rfl,rfl,rfl,rfl,rfl,⟨?_,⟨by omega,?_,?_⟩,?_,?_,h4.2.2⟩,Zaa.Zae,?_⟩
       ·rw[Zaa.Zag (by simp only[nx];omega),Zaa.Zag (by simp only[nx];omega),Zaa.Zah (by omega)]
        exact Zaa.Zae (H:=(G.bump k4).alloc _)
       ·rw[Zaa.Zag (by simp only[nx];omega),Zaa.Zag (by simp only[nx];omega),Zaa.Zal (by simp only[nx];omega)]
        rfl
       ·rw[Zaa.Zag (by simp only[nx];omega)]
        exact Zaa.Zae (H:=Zaa.set _ _ _)
       ·rw[Zaa.Zag (by simp only[nx];omega),Zaa.Zag (by simp only[nx];omega),Zaa.Zah (by omega),Zaa.Zag (by simp only[nx];omega)]
        exact Zaa.Zae (H:=G.bump k4)
       ·exact h4.2.1
       ·have hxG:=(hH k1 k2 k3).trans hx
        have hxn:=(hH k1 k2 k3).next
        exact(((((hxG.bump).alloc).alloc).set (by omega)).alloc).alloc
      ·rintro k F S2 hk ⟨f54,f53,f11,f13,f14,hB,ht,hx2⟩
       have lt:=Zaa.lt ht
       have la1:ZaE 1 (rP (List.range k))=true:=ZaU (f:=fun i:Nat=>[AV.i (i:Int)]) (fun _=>rfl) _
       have la2:ZaE 1 [[AV.i (k:Int)]]=true:=rfl
       have lm1:k+1<=maxLen:=by unfold maxLen;omega
       have lm2:(k+1) * 8<=140737488355328:=by omega
       have hrl:(rP (List.range k)).length=k:=by simp
       have hrs:rP (List.range k)++[[AV.i (k:Int)]]=rP (List.range (k+1)):=by rw[List.range_succ];simp
       have hZ:=an7 f54<|an7 f53<|an7 f11<|an7 f13<|an7 f14<|an7 ht<|an7 la1<|an7 la2<|an7 lm1<|an7 lm2<|an7 hrl<|hrs;refine Bz5 ?_
       exact⟨⟨by rw[Zaa.Zah (by omega)];exact hB.o,⟨hB.out.ne,by rw[Zaa.Zah (by omega)];exact hB.out.cell,by rw[Zaa.Zah (by omega)];exact hB.out.row⟩,by rw[Zaa.Zah (by omega)];exact hB.mp,hB.few,hB.most⟩,hx2.set (by omega)⟩
      ·rintro F S2 ⟨f54,f53,f11,f13,f14,hB,ht,hx2⟩
       have hZ:=an7 f54<|an7 f53<|an7 f11<|an7 f13<|f14;refine Bz1 ?_
       refine Zap.use (hnode _ _ _ _ _ _ _ ⟨[],[],0⟩ _ (.own (G.next+k4+1+1+1)) S2 hpo hB) ?_
       rintro r S3 ⟨rfl,hx3,hB3⟩
       rw[<- hbn]at hB3
       have h03:=hB3.o
       have hoid:H.next<=oid:=zaB (hH k1 k2 k3).next ho1
       have hx4:Zaa.Ext H S3:=⟨zaB hx2.next hx3.next,fun i o hi=>hx3.get _ _ (by have:=Zaa.lt hi;simp only[zal,zaE,or_false];omega) (hx2.get _ _ hi)⟩
       by_cases h6:(Zfa S most facts).e=0
       ·have d6:((Zfa S most facts).e != 0)=false:=by simpa using h6
        have hZ:=an7 f54<|an7 f53<|an7 f11<|an7 f13<|an7 f14<|an7 h03<|d6;refine Bz1 ?_
        exact Zaq ⟨hx4,.inr ⟨h6,oid,rfl,hB3.out.ara⟩⟩
       ·have d6:((Zfa S most facts).e != 0)=true:=by simpa using h6
        have hZ:=an7 f54<|an7 f53<|an7 f11<|an7 f13<|an7 f14<|an7 h03<|d6;refine Bz1 ?_
        exact Zaq ⟨hx4,.inl ⟨h6,rfl⟩⟩
    ·have hn:newE (Za3 S) most=2:=if_neg h4
     have hv:Zet S most facts=2:=by unfold Zet;rw[if_neg (by simp[h1]),if_neg (by simp[h2]),if_neg h3,if_pos (by simp[hn])]
     unfold ZdZ
     rw[hv]
     refine Zak hE cf12 (zab rfl) fun Q qr qn=>?_
     have hZ:=an7 f0<|f3;refine Bz1 ?_
     refine qcp (Zc9 S _ hS) fun k1=>?_
     have hZ:=an7 f0<|an7 f3<|h1;refine Bz1 ?_
     refine qcp (hshp _) fun k2=>?_
     have hZ:=an7 x0<|an7 x3<|xd;refine Bz5 ?_
     refine qcp (Zde t (Za3 S) facts _ hl hxl) fun k3=>?_
     have hZ:=an7 h2<|an7 d3<|an7 x0<|x3;refine Bz3 ?_
     refine Zap.use (Zfe (Za3 S) most _) ?_
     rintro r G ⟨hx,hr⟩
     rw[if_neg h4]at hr
     subst hr
     refine Bz0 ?_
     exact Zaq ⟨(hH k1 k2 k3).trans hx,by first|exact .inl ⟨by decide,rfl⟩|exact .inl rfl⟩
  ·have hv:Zet S most facts=Zd7 (Za3 S) none facts:=by unfold Zet;rw[if_neg (by simp[h1]),if_pos h2]
   have d2:(Zd7 (Za3 S) none facts != 0)=true:=by simpa using h2
   unfold ZdZ
   rw[hv]
   refine Zak hE cf12 (zab rfl) fun Q qr qn=>?_
   have hZ:=an7 f0<|f3;refine Bz1 ?_
   refine qcp (Zc9 S _ hS) fun k1=>?_
   have hZ:=an7 f0<|an7 f3<|h1;refine Bz1 ?_
   refine qcp (hshp _) fun k2=>?_
   have hZ:=an7 x0<|an7 x3<|xd;refine Bz5 ?_
   refine qcp (Zde t (Za3 S) facts _ hl hxl) fun k3=>?_
   have hZ:=d2;refine Bz1 ?_
   exact Zaq ⟨by exact AXT,.inl ⟨h2,rfl⟩⟩
 ·have hv:Zet S most facts=scE S:=by unfold Zet;rw[if_pos h1]
  have d1:(scE S != 0)=true:=by simpa using h1
  unfold ZdZ
  rw[hv]
  refine Zak hE cf12 (zab rfl) fun Q qr qn=>?_
  have hZ:=an7 f0<|f3;refine Bz1 ?_
  refine qcp (Zc9 S _ hS) fun k1=>?_
  have hZ:=d1;refine Bz1 ?_
  exact Zaq ⟨by exact AXT,.inl ⟨h1,rfl⟩⟩
theorem treeB_in {t:Tr} {a:Int} (h:ZdD t.up t.terms.length a=true) (ha:1<=a):t.up.length=t.terms.length/\∀n∈t.up,0<=n/\n<a:=by
 unfold ZdD at h
 rw[if_neg (by omega)]at h
 split at h
 ·cases h
 ·rename_i h1
  rw[zax]at h
  refine⟨by omega,fun n hn=>?_⟩
  have:=zaO.1 h.1 n hn
  unfold inU at this
  simp at this
  omega
theorem ups_in:∀{l:List Tr},(∀k (h:k<l.length),ZbO l[k] (ZbR (l.drop (k+1)))=0)->∀(to:Nat) (h:to<l.length) (i:Int),0<=i->i<((l[0]'(by omega)).terms.length:Int)->0<=ups (l.take to) i/\ups (l.take to) i<(l[to].terms.length:Int)
 | [],_,to,h,_,_,_=>by simp at h
 | t :: r,hl,0,h,i,h1,h2=>⟨h1,h2⟩
 | t :: r,hl,to+1,h,i,h1,h2=>by
  have hr:to<r.length:=by simpa using h
  have h0:=hl 0 (by simp)
  obtain⟨_,_,h3⟩:=Zcd h0
  have hab:ZbR ((t :: r).drop (0+1))=((r[0]'(by omega)).terms.length:Int):=by
   cases r with
   | nil=>simp at hr
   | cons u r=>rfl
  have hr0:=Zcd (show ZbO (r[0]'(by omega)) (ZbR (r.drop (0+1)))=0 from hl 1 (by simp;omega))
  have h3':ZdD t.up t.terms.length ((r[0]'(by omega)).terms.length:Int)=true:=by rw[<- hab];exact h3
  obtain⟨h4,h5⟩:=treeB_in h3' (by omega)
  have h2':i<(t.terms.length:Int):=h2
  have hi:i.toNat<t.up.length:=by omega
  have h6:=h5 _ (zaq hi)
  have hov:Zdj t i=t.up[i.toNat]:=by
   unfold Zdj
   rw[if_neg (by omega)]
   simp[hi]
  have e:ups ((t :: r).take (to+1)) i=ups (r.take to) (Zdj t i):=by
   rw[List.take_succ_cons,ups,if_pos (by omega)]
  rw[e,hov]
  exact ups_in (fun k hk=>hl (k+1) (by simpa using hk)) to hr _ h6.1 h6.2
theorem ZgR {d:Dm} (h:Zdv d=0) {to i:Nat} (ht:to<d.tiers.length) (hi:i<n0 d):0<=Zdo d to i/\Zdo d to i<(d.tiers[to].terms.length:Int):=by
 obtain⟨h1,h2,h3⟩:=Zce h
 have hn:n0 d=(d.tiers[0]'(by omega)).terms.length:=by unfold n0;rw[zaa (by omega)];rfl
 have:=ups_in h3 to ht i (by omega) (by omega)
 unfold Zdo bot
 rw[if_neg (by omega)]
 exact this
theorem Zcu {x:Shp}:∀{l:List Fct} {w:Option Fct},Zd7 x w l=0->∀f∈l,Zb8 x f=0
 | [],_,_,f,h=>by cases h
 | c :: r,w,h,f,hf=>by
  rw[Zf5]at h
  split at h
  ·rename_i h1;exact absurd h h1
  ·rename_i h1
   split at h
   ·omega
   ·rcases zal.1 hf with rfl|hf
    ·exact zaQ.1 h1
    ·exact Zcu h f hf
theorem ZeA:∀{ks:List Int} {ss:List (List Int)},Zdr ks ss=0->∀(d:Nat) (h:d<ks.length),0<=ks[d]/\ks[d]<(ss.getD d []).headD 0
 | [],_,_,d,h=>by simp at h
 | _ :: _,[],h,_,_=>by simp[Zdr]at h
 | k :: ks,s :: ss,h,d,hd=>by
  unfold Zdr at h
  split at h
  ·omega
  ·cases d with
   | zero=>simp;simp at *;omega
   | succ d=>simpa using ZeA h d (by simpa using hd)
theorem Zcp {x:Shp} {f:Fct} (h:Zb8 x f=0):f.1.length=x.sizes.length/\Zdr f.1 x.sizes=0/\Zbw x.measures f.2=true:=by
 unfold Zb8 at h
 split at h
 ·omega
 ·rename_i h1
  split at h
  ·rename_i h2;exact absurd h h2
  ·rename_i h2
   split at h
   ·omega
   ·rename_i h3
    exact⟨by omega,zaQ.1 h2,by simpa using h3⟩
theorem ZdS {S:Sc} {facts:List Fct} (hs:scE S=0) (hr:Zd7 (Za3 S) none facts=0) (hf:facts.length<=4000) (ha:∀f∈facts,Zho f.2):ZbI (Za3 S) (Zan S) facts:=by
 obtain⟨s1,s2,s3,_⟩:=Zb7 hs
 have hl:(Zan S).length=S.dims.length:=by unfold Zan;simp
 have hx:(Za3 S).sizes.length=S.dims.length:=by unfold Za3;simp
 have hsz:∀d (h:d<S.dims.length),(Za3 S).sizes.getD d []=S.dims[d].tiers.map szT:=fun d h=>by unfold Za3;simp[h]
 have hL:∀d (h:d<(Zan S).length),(Zan S)[d]=Zct (S.dims[d]'(by omega)):=fun d h=>zbU ..
 have hT:∀d (h:d<(Zan S).length) t (ht:t<(Zan S)[d].length),(Zan S)[d][t]=mapD (S.dims[d]'(by omega)) t:=fun d h t ht=>by simp[hL d h,Zct]
 have hD:∀d (h:d<S.dims.length),Zdv S.dims[d]=0:=fun d h=>s3 _ (zaq h)
 have hTl:∀d (h:d<(Zan S).length),(Zan S)[d].length=(S.dims[d]'(by omega)).tiers.length:=fun d h=>by rw[hL d h];simp[Zct]
 have hN:∀d (h:d<S.dims.length) t (ht:t<S.dims[d].tiers.length),Zch (Za3 S) d t=S.dims[d].tiers[t].terms.length:=fun d h t ht=>by
  unfold Zch
  rw[hsz d h]
  simp[ht,szT]
 refine⟨hf,by omega,by omega,ha,fun f hm=>?_,fun d h=>?_,fun f hm d h t ht=>?_,fun d t=>?_⟩
 ·have:=(Zcp (Zcu hr f hm)).1;omega
 ·have hd:d<S.dims.length:=by omega
  obtain⟨h1,h2,_⟩:=Zce (hD d hd)
  have:=hTl d h
  rw[hsz d hd,zaj]
  omega
 ·have hd:d<S.dims.length:=by omega
  obtain⟨k1,k2,k3⟩:=Zcp (Zcu hr f hm)
  obtain⟨h1,h2,h3⟩:=Zce (hD d hd)
  have hdf:d<f.1.length:=by omega
  have hk:=ZeA k2 d hdf
  rw[hsz d hd]at hk
  have hn:n0 S.dims[d]=(S.dims[d].tiers[0]'(by omega)).terms.length:=by unfold n0;rw[zaa (by omega)];rfl
  have hh:(S.dims[d].tiers.map szT).headD 0=(n0 S.dims[d]:Int):=by
   rw[hn]
   have:∀l:List Tr,∀h:0<l.length,(l.map szT).headD 0=((l[0]).terms.length:Int):=fun l h=>by
    cases l with
    | nil=>simp at h
    | cons a r=>rfl
   exact this _ (by omega)
  rw[hh]at hk
  have ht':t<S.dims[d].tiers.length:=by have:=hTl d h;omega
  have hm1:(mapD S.dims[d] t).length=n0 S.dims[d]:=by unfold mapD;simp
  refine⟨f.1[d].toNat,by simp[hdf];omega,?_⟩
  rw[hN d hd t ht']
  have hlt:f.1[d].toNat<n0 S.dims[d]:=by omega
  refine⟨by rw[hT d h t ht,hm1];exact hlt,?_⟩
  have e:(Zan S)[d][t][f.1[d].toNat]'(by rw[hT d h t ht,hm1];exact hlt)=Zdo S.dims[d] t f.1[d].toNat:=by
   simp only[hT d h t ht]
   simp[mapD]
  rw[e]
  exact ZgR (hD d hd) ht' hlt
 ·by_cases h:d<S.dims.length
  ·by_cases ht:t<S.dims[d].tiers.length
   ·rw[hN d h t ht]
    obtain⟨_,_,h3⟩:=Zce (hD d h)
    exact(Zcd (h3 t ht)).2.1
   ·unfold Zch
    rw[hsz d h]
    simp[Nat.le_of_not_lt ht]
  ·unfold Zch
   have e:(Za3 S).sizes.getD d []=[]:=by rw[zah,za2 (by omega)];rfl
   rw[e]
   simp
structure Ard (x:Shp) (l:List Nod):Prop where
 may:ZbS x=true
 sm:∀n∈l,Zdb n
 len:l.length<=200000
 dim:∀n∈l,0<=n.dim/\n.dim<x.sizes.length
 led:∀(k:Nat) (h:k<l.length),l[k].dim<(x.sizes.length:Int) - 1->∀c∈each l[k],0<=c.child/\c.child<k
theorem HX.quiet {O:List (Nat×Zb3)} {H G G1:Zaa} (h:HX O H G) (k:HX [] G G1):HX O H G1 :=
 ⟨zaB h.n k.n,fun p hp=>(k.g _ (Zaa.lt (h.o p hp)) (by simp)).trans (h.o p hp),fun j hj hne=>(k.g _ (zbf hj h.n) (by simp)).trans (h.g j hj hne)⟩
def cntN (n:Nod):Nat:=n.lists.flatten.length+1
def capT (n:Int):Int:=if 1125899906842624<n then 1125899906842624 else n
def treeF (out:List Int) (n:Nod) (inner:Bool):Int:=if inner=true then (each n).foldl (fun s c=>capT (s+out.getD c.child.toNat 0)) (cntN n) else cntN n
def ZhV (x:Shp) (l:List Nod):List Int:=l.foldl (fun out n=>out++[treeF out n (decide (n.dim<(x.sizes.length:Int) - 1))]) []
@[simp] theorem treesL_nil (x:Shp):ZhV x []=[]:=rfl
theorem treesL_snoc {x:Shp} {l:List Nod} {k:Nat} (h:k<l.length):ZhV x (l.take (k+1))=ZhV x (l.take k)++[treeF (ZhV x (l.take k)) l[k] (decide (l[k].dim<(x.sizes.length:Int) - 1))]:=by
 rw[zar h,ZhV,zcq];rfl
theorem ard_of {x:Shp} {most:Int} {l:List Nod} (hm:ZbS x=true) (hs:∀n∈l,Zdb n) (hl:l.length<=200000) (ha:∀i (hi:i<l.length),ZbF x most (l.take i) l[i]=0):Ard x l:=by
 refine⟨hm,hs,hl,fun n hn=>?_,fun k hk hd c hc=>?_⟩
 ·obtain⟨i,hi,rfl⟩:=zay hn
  have:=Zfw (add_zero' (ha i hi)).1
  exact⟨this.1,this.2.1⟩
 ·have hb:lastB x l[k].dim=false:=by unfold lastB;rw[beq_eq_false_iff_ne];omega
  obtain⟨h1,h2,_⟩:=add_zero' (ha k hk)
  unfold ZeO at h2
  rw[hb,zbP,zaO]at h2
  have h3:=h2 c hc
  simp only[zax,decide_eq_true_eq,za9]at h3
  exact⟨Zfu h1 hb c hc,by omega⟩
def Led (D:Nat) (N:List Nod) (j:Nat):Prop:=∃(k:Nat) (h:k<N.length),N[k].dim<(D:Int) - 1/\∃c∈each N[k],c.child=(j:Int)
theorem Led.pre {D:Nat} {N N':List Nod} {j:Nat} (h:Led D N j) (hp:N <+: N'):Led D N' j:=by
 obtain⟨k,hk,h1,h2⟩:=h
 obtain⟨t,rfl⟩:=hp
 exact⟨k,by simp;omega,by rw[zci hk];exact h1,by rw[zci hk];exact h2⟩
def StR (D:Nat) (last:Bool) (s s':BSt) (cs:List Cel):Prop:=s'.e=0->s.e=0/\s.N <+: s'.N/\∀j,s.N.length<=j->j<s'.N.length->(last=false/\∃c∈cs,c.child=(j:Int))\/Led D s'.N j
theorem StR.refl (D:Nat) (last:Bool) (s:BSt):StR D last s s []:=fun h=>⟨h,zbs _,fun j h1 h2=>by omega⟩
theorem StR.trans {D:Nat} {last:Bool} {s s1 s2:BSt} {cs ds:List Cel} (h:StR D last s s1 cs) (k:StR D last s1 s2 ds):StR D last s s2 (cs++ds):=fun he=>by
 obtain⟨k1,k2,k3⟩:=k he
 obtain⟨h1,h2,h3⟩:=h k1
 refine⟨h1,h2.trans k2,fun j j1 j2=>?_⟩
 by_cases hj:j<s1.N.length
 ·rcases h3 j j1 hj with⟨a,c,hc,e⟩|h3
  ·exact .inl ⟨a,c,zba _ hc,e⟩
  ·exact .inr (h3.pre k2)
 ·rcases k3 j (by omega) j2 with⟨a,c,hc,e⟩|k3
  ·exact .inl ⟨a,c,zbp _ hc,e⟩
  ·exact .inr k3
theorem Zgo {D:Nat} {last:Bool} {g:BSt->Int->List Nat->BSt×Cel} (hg:∀s k p,StR D last s (g s k p).1 [(g s k p).2]):∀(l:List (Int×List Nat)) (s:BSt),StR D last s (ZbG g s l).1 (ZbG g s l).2
 | [],s=>show StR D last s s []from StR.refl D last s
 | p :: ps,s=>(hg s p.1 p.2).trans (Zgo hg ps _)
theorem Zgw {D:Nat} {last:Bool} {g:BSt->Int->List Nat->BSt×Cel} (hg:∀s k p,StR D last s (g s k p).1 [(g s k p).2]):∀(l:List (List (Int×List Nat))) (s:BSt),StR D last s (Zbc g s l).1 (Zbc g s l).2.flatten
 | [],s=>show StR D last s s []from StR.refl D last s
 | p :: ps,s=>(Zgo hg p s).trans (Zgw hg ps _)
def NdR (D:Nat) (s s':BSt) (i:Int):Prop:=s'.e=0->s.e=0/\s.N <+: s'.N/\∀j,s.N.length<=j->j<s'.N.length->(j:Int)=i\/Led D s'.N j
theorem ZlF {D:Nat} {facts:List Fct} {f:BSt->List Nat->BSt×Int} {last:Bool} (hf:last=false->∀s p,NdR D s (f s p).1 (f s p).2) (s:BSt) (k:Int) (p:List Nat):StR D last s (ZbM facts f last s k p).1 [(ZbM facts f last s k p).2]:=by
 cases last with
 | true =>
  have e:ZbM facts f true s k p=(sumE s (ZdJ facts ag0 p),⟨k,0,(ZdJ facts ag0 p).getD ag0⟩):=rfl
  rw[e]
  cases ZdJ facts ag0 p with
  | none=>exact fun h=>absurd (show(12:Int)=0 from h) (by decide)
  | some a=>exact fun h=>⟨h,zbs _,fun j h1 h2=>absurd (show j<s.N.length from h2) (by omega)⟩
 | false =>
  have e:ZbM facts f false s k p=((f s p).1,⟨k,(f s p).2,ag0⟩):=rfl
  rw[e]
  intro h
  obtain⟨h1,h2,h3⟩:=hf rfl s p h
  exact⟨h1,h2,fun j j1 j2=>(h3 j j1 j2).elim (fun e=>.inl ⟨rfl,_,zam.2 rfl,e.symm⟩) .inr⟩
theorem Zh6 {x:Shp} {L:List (List (List Int))} {facts:List Fct} {most:Int} {f:BSt->List Nat->BSt×Int} {d:Nat} (hd:d<L.length) (hf:decide (d+1=L.length)=false->∀s p,NdR L.length s (f s p).1 (f s p).2) (s:BSt) (p:List Nat):NdR L.length s (Zdq x L facts most f d s p).1 (Zdq x L facts most f d s p).2:=by
 have hg:=ZlF (facts:=facts) hf
 have ht:=(Zgw hg (ZaC x L facts d p) s).trans (hg (Zbc (ZbM facts f (decide (d+1=L.length))) s (ZaC x L facts d p)).1 0 p)
 unfold Zdq
 split
 ·exact fun h=>⟨h,zbs _,fun j h1 h2=>absurd (show j<s.N.length from h2) (by omega)⟩
 ·split
  ·exact fun h=>⟨h,zbs _,fun j h1 h2=>absurd (show j<s.N.length from h2) (by omega)⟩
  ·generalize (ZbM facts f (decide (d+1=L.length)) (Zbc (ZbM facts f (decide (d+1=L.length))) s (ZaC x L facts d p)).1 0 p)=a at *
   generalize (Zbc (ZbM facts f (decide (d+1=L.length))) s (ZaC x L facts d p)).2=ls at *
   unfold Zha
   split
   ·rename_i h1;exact fun h=>absurd h h1
   ·rename_i h1
    split
    ·rename_i h2;exact fun h=>absurd h h2
    ·intro _
     obtain⟨t1,t2,t3⟩:=ht (zaQ.1 h1)
     refine⟨t1,t2.trans (zcj _ _),fun j j1 j2=>?_⟩
     simp only[zai,List.length_cons,List.length_nil]at j2
     by_cases hj:j<a.1.N.length
     ·rcases t3 j j1 hj with⟨hl,c,hc,e⟩|h3
      ·refine .inr ⟨a.1.N.length,by simp,?_,c,?_,e⟩
       ·have hdl:=of_decide_eq_false hl
        simp only[zcb]
        omega
       ·simp only[zcb]
        exact hc
      ·exact .inr (h3.pre (zcj _ _))
     ·exact .inl (by simp only;omega)
theorem Zhy {x:Shp} {L:List (List (List Int))} {facts:List Fct} {most:Int}:∀(n:Nat),n+1<=L.length->∀s p,NdR L.length s (ZcV x L facts most (n+1) s p).1 (ZcV x L facts most (n+1) s p).2
 | 0,h=>fun s p=>by
  have h3:1<=L.length:=h
  have e:L.length - 1+1=L.length:=by omega
  exact Zh6 (d:=L.length - 1) (by omega) (fun h2=>absurd e (of_decide_eq_false h2)) s p
 | n+1,h=>fun s p=>Zh6 (d:=L.length - (n+1+1)) (by omega) (fun _=>Zhy n (by omega)) s p
theorem ZhY {x:Shp} {L:List (List (List Int))} {facts:List Fct} {most:Int} (n:Nat) (s:BSt) (p:List Nat) (hM:s.M=[]):(ZcV x L facts most (n+1) s p).1.e=0->(ZcV x L facts most (n+1) s p).2+1=((ZcV x L facts most (n+1) s p).1.N.length:Int):=by
 show(Zdq x L facts most (ZcV x L facts most n) (L.length - (n+1)) s p).1.e=0->(Zdq x L facts most (ZcV x L facts most n) (L.length - (n+1)) s p).2+1=((Zdq x L facts most (ZcV x L facts most n) (L.length - (n+1)) s p).1.N.length:Int)
 unfold Zdq
 rw[hM]
 simp only[Zcz]
 split
 ·rename_i h1;exact fun h=>absurd h h1
 ·generalize (ZbM facts (ZcV x L facts most n) (decide (L.length - (n+1)+1=L.length)) (Zbc (ZbM facts (ZcV x L facts most n) (decide (L.length - (n+1)+1=L.length))) s (ZaC x L facts (L.length - (n+1)) p)).1 0 p)=a
  generalize (Zbc (ZbM facts (ZcV x L facts most n) (decide (L.length - (n+1)+1=L.length))) s (ZaC x L facts (L.length - (n+1)) p)).2=ls
  unfold Zha
  split
  ·rename_i h1;exact fun h=>absurd h h1
  ·split
   ·rename_i h2;exact fun h=>absurd h h2
   ·intro _
    simp
def Grown (x:Shp) (most:Int) (N:List Nod):Prop:=(∀i (hi:i<N.length),ZbF x most (N.take i) N[i]=0)/\∀n∈N,Zdb n
theorem Grown.snoc {x:Shp} {most:Int} {N:List Nod} {n:Nod} (h:Grown x most N) (ha:ZbF x most N n=0) (hs:Zdb n):Grown x most (N++[n]):=by
 refine⟨fun i hi=>?_,fun m hm=>?_⟩
 ·by_cases hj:i<N.length
  ·rw[zci hj,zb1 (by omega)];exact h.1 i hj
  ·simp only[zai,List.length_cons,List.length_nil]at hi
   obtain rfl:i=N.length:=by omega
   rw[zcb rfl,zb1 (zaf _),zaK]
   exact ha
 ·rcases zav.1 hm with hm|hm
  ·exact h.2 m hm
  ·rw[zam.1 hm];exact hs
theorem ZeQ {x:Shp} {most:Int} {g:BSt->Int->List Nat->BSt×Cel} (hg:∀s k p,Grown x most s.N->Grown x most (g s k p).1.N):∀(l:List (Int×List Nat)) (s:BSt),Grown x most s.N->Grown x most (ZbG g s l).1.N
 | [],s,h=>h
 | p :: ps,s,h=>ZeQ hg ps _ (hg s p.1 p.2 h)
theorem ZeU {x:Shp} {most:Int} {g:BSt->Int->List Nat->BSt×Cel} (hg:∀s k p,Grown x most s.N->Grown x most (g s k p).1.N):∀(l:List (List (Int×List Nat))) (s:BSt),Grown x most s.N->Grown x most (Zbc g s l).1.N
 | [],s,h=>h
 | p :: ps,s,h=>ZeU hg ps _ (ZeQ hg p s h)
theorem ZiB {x:Shp} {L:List (List (List Int))} {facts:List Fct} {most:Int} {f:BSt->List Nat->BSt×Int} {d:Nat} (hF:ZbI x L facts) (hd:d<L.length) (hf:∀s p,Grown x most s.N->Grown x most (f s p).1.N) (s:BSt) (p:List Nat) (h:Grown x most s.N):Grown x most (Zdq x L facts most f d s p).1.N:=by
 have hg:∀s k p,Grown x most s.N->Grown x most (ZbM facts f (decide (d+1=L.length)) s k p).1.N:=fun s k p h=>by
  unfold ZbM
  split
  ·unfold sumE
   split<;>exact h
  ·exact hf s p h
 have ht:=hg _ 0 p (ZeU hg (ZaC x L facts d p) s h)
 have hGl:(ZaC x L facts d p).length=L[d].length:=by unfold ZaC;simp[zaa hd]
 have hll:=Zgn (ZbM facts f (decide (d+1=L.length))) (ZaC x L facts d p) s
 have hlm:=ZeC (g:=ZbM facts f (decide (d+1=L.length))) (m:=200) (ZaC x L facts d p) s (fun t ht=>by
  unfold ZaC at ht
  obtain⟨k,_,rfl⟩:=zat.1 ht
  exact zaB (Zhh _ _ _) (hF.size d k))
 obtain⟨t1,t2,t3⟩:=hF.tier d hd
 unfold Zdq
 split
 ·exact h
 ·split
  ·exact h
  ·generalize (ZbM facts f (decide (d+1=L.length)) (Zbc (ZbM facts f (decide (d+1=L.length))) s (ZaC x L facts d p)).1 0 p)=a at *
   generalize (Zbc (ZbM facts f (decide (d+1=L.length))) s (ZaC x L facts d p)).2=ls at *
   unfold Zha
   split
   ·exact ht
   ·split
    ·exact ht
    ·rename_i h2
     have:=Zh3 hlm
     exact ht.snoc (zaQ.1 h2) ⟨by simp only;omega,by simp only;rw[hll,hGl]at this;omega,fun l hl=>by have:=hlm l hl;omega⟩
theorem Zfj {x:Shp} {L:List (List (List Int))} {facts:List Fct} {most:Int} (hF:ZbI x L facts):∀(n:Nat),n<=L.length->∀s p,Grown x most s.N->Grown x most (ZcV x L facts most n s p).1.N
 | 0,_,s,p,h=>h
 | n+1,hn,s,p,h=>ZiB (d:=L.length - (n+1)) hF (by omega) (fun s p h=>Zfj hF n (by omega) s p h) s p h
structure Zvb (c:Cel):Prop where
 key:In64 c.key
 child:In64 c.child
 agg:Zho c.agg
def Zt7 (n:Nod):Prop:=(∀l∈n.lists,∀c∈l,Zvb c)/\Zvb n.all
section
variable {w:World} {F:Nat->Prop}
theorem Zg7 {n:Int} (h:(Lit.int .i64 n).wf=true):In64 n:=by
 simp only[Lit.wf,zax,decide_eq_true_eq]at h
 exact h
theorem Zgi {s:Sh} {α:Type} {f:α->List AV} {p:α->Prop} (he:∀cs x,s.Is w F cs x->∃a,s.enc x=f a/\p a) {cs:List Value} {x:(Sh.slice s).D} (h:(Sh.slice s).Is w F cs x):∃l:List α,l.length<=maxLen/\(Sh.slice s).enc x=[.sl .no (l.map f)]/\∀a∈l,p a:=by
 obtain⟨A,c,css,rfl,h1,h2,h3,h4,h5⟩:=h
 have:∀(y:List s.D),(∀z∈y,∃a,s.enc z=f a/\p a)->∃m:List α,m.length=y.length/\y.map s.enc=m.map f/\∀a∈m,p a:=by
  intro y
  induction y with
  | nil=>intro _;exact⟨[],rfl,rfl,by simp⟩
  | cons z y ih =>
   intro hz
   obtain⟨a,ha,hp⟩:=hz z zae
   obtain⟨m,hm,e,hq⟩:=ih fun u hu=>hz u (zad _ hu)
   exact⟨a :: m,by simp[hm],by simp[ha,e],fun b hb=>by
    rcases zal.1 hb with rfl|hb
    ·exact hp
    ·exact hq b hb⟩
 obtain⟨m,hm,e,hq⟩:=this x fun y hy=>by
  obtain⟨i,hi,rfl⟩:=zay hy
  have hi2:i<css.length:=by rw[h3];exact hi
  exact he css[i] _ (h5 i _ _ (zaa hi2) (zaa hi))
 refine⟨m,by rw[hm];exact zaB h1 h2,?_,hq⟩
 show[AV.sl .no (List.map s.enc x)]=_
 rw[e]
theorem Zje {cs:List Value} {x:Zio.D} (h:Zio.Is w F cs x):In64 x.1/\In64 x.2.1/\In64 x.2.2.1:=by
 obtain⟨_,_,_,⟨_,h1⟩,_,_,_,⟨_,h2⟩,_,_,_,⟨_,h3⟩,_⟩:=h
 exact⟨Zg7 h1,Zg7 h2,Zg7 h3⟩
theorem ZvE {cs:List Value} {x:ZsI.D} (h:ZsI.Is w F cs x):∃a:Ag,ZsI.enc x=eAg a/\Zho a:=by
 obtain⟨n,ps,u⟩:=x
 obtain⟨c1,c2,_,⟨_,hn⟩,c3,c4,_,⟨css,_,hcl,hl,_,hel⟩,_⟩:=h
 match ps,hl,hel with
 | [(s0,l0,h0,_),(s1,l1,h1,_),(s2,l2,h2,_)],_,hel =>
  have hg:∀i,i<3->∃r,css[i]?=some r:=fun i hi=>⟨css[i]'(by omega),zaa _⟩
  obtain⟨r0,e0⟩:=hg 0 (by omega)
  obtain⟨r1,e1⟩:=hg 1 (by omega)
  obtain⟨r2,e2⟩:=hg 2 (by omega)
  obtain⟨a0,a1,a2⟩:=Zje (hel 0 _ _ e0 rfl)
  obtain⟨b0,b1,b2⟩:=Zje (hel 1 _ _ e1 rfl)
  obtain⟨d0,d1,d2⟩:=Zje (hel 2 _ _ e2 rfl)
  exact⟨⟨n,s0,l0,h0,s1,l1,h1,s2,l2,h2⟩,rfl,⟨Zg7 hn,a0,b0,d0⟩⟩
end
section
variable {W:World}
end
def FewFQ (most:Nat) (l:List Fct) (H:Zaa) (r:AV) (H':Zaa):Prop:=HX [] H H'/\∃b,r=.b b/\(b=true->l.length<=most)
set_option maxHeartbeats 1000000 in
theorem Zfs (t:Tok) (l:List Fct) (most:Nat) (H:Zaa) (hm:most<=1000):Zay Tryz.prog 28 [.sl t (rF l),.i (most:Int)] H (FewFQ most l H):=by
 refine Zak hE cf28 (zab rfl) fun Q qr qn=>?_
 refine Bz0 ?_
 refine Zcw [0,1] (σ:=Nat×Nat) (fun s=>s.1<=l.length/\s.1<=most+1/\s.2<=s.1 * 1000) (fun s=>l.length - s.1) (fun s=>[(5,.i (s.2:Int)),(6,.i (s.1:Int))]) (fun s=>[]) (0,0) (GStep.refl _ _) (by simp only[ZaA,Zav,Fr.put,Fr.get,↓reduceIte,Nat.reduceEqDiff];rfl) ?_ (by simp only[ZaF,ZaX,Fr.put,Fr.get,↓reduceIte,Nat.reduceEqDiff,and_self]<;>simp) (by simp only[ZaJ]) ?_
 ·exact⟨by simp,by simp,by simp⟩
 ·(rintro⟨i,n⟩ G ⟨h1,h2,h3⟩ hG hn;try simp only[nx]at hn)
  simp only at h1 h2 h3
  by_cases c1:i<l.length
  ·have d1:decide ((i:Int)<(l.length:Int))=true:=by simp;omega
   by_cases c2:i<=most
   ·have d2:decide ((i:Int)<=(most:Int))=true:=by simp;omega
    have e0:(ZcI l[i])[0]?=some (.sl .no (rI l[i].1)):=rfl
    have h0:(0:Int)<=(i:Int):=by omega
    have e1:(ZcI l[i]).length=11:=rfl
    have hmin:(if (1000:Int)<(l[i].1.length:Int) then (1000:Int) else (l[i].1.length:Int))=((min l[i].1.length 1000:Nat):Int):=by split<;>omega
    have hZ:=an7 d1<|an7 d2<|an7 e0<|an7 e1<|an7 h0<|an7 c1<|hmin;refine Bz3 ?_
    refine⟨(i+1,n+min l[i].1.length 1000),⟨by simp only;omega,by simp only;omega,by simp only;omega⟩,by simp only;omega,⟨AV_i (by push_cast;rfl),AV_i (by push_cast;rfl)⟩,by exact HXT⟩
   ·have d2:decide ((i:Int)<=(most:Int))=false:=by simp;omega
    ((have hd:=tv;repeat' first|(first|apply Zad|apply Zac|apply Zab)<;>intro hd<;>try simp only[hd]|simp(disch:=first|assumption|omega|simp only[nx]<;>omega|fail)only[hd,qr,qn,Zl6,↓YA,YY,sevalprocAttr,d1,d2,zaj])<;>try revert hd;refine ttr ?_)
    ·exact Zaq ⟨hG,_,rfl,fun e=>by simp at hd;omega⟩
    ·exact Zaq ⟨hG,_,rfl,fun e=>by cases e⟩
  ·have d1:decide ((i:Int)<(l.length:Int))=false:=by simp;omega
   ((have hd:=tv;repeat' first|(first|apply Zad|apply Zac|apply Zab)<;>intro hd<;>try simp only[hd]|simp(disch:=first|assumption|omega|simp only[nx]<;>omega|fail)only[hd,qr,qn,Zl6,↓YA,YY,sevalprocAttr,d1,zaj])<;>try revert hd;refine ttr ?_)
   ·exact Zaq ⟨hG,_,rfl,fun e=>by simp at hd;omega⟩
   ·exact Zaq ⟨hG,_,rfl,fun e=>by cases e⟩
def FewT (t:Tr):Prop:=t.terms.length<=220/\t.up.length<=220
def FewTQ (t:Tr) (H:Zaa) (r:AV) (H':Zaa):Prop:=HX [] H H'/\∃b,r=.b b/\(b=true->FewT t)
set_option maxHeartbeats 1000000 in
theorem Zi5 (t:Tr) (H:Zaa):Zay Tryz.prog 111 [.agg (eTr t)] H (FewTQ t H):=by
 obtain⟨f0,f1,f2,f3,f4⟩:=Zba t
 have hmin:(if (5000:Int)<(t.name.length:Int) then (5000:Int) else (t.name.length:Int))=((min t.name.length 5000:Nat):Int):=by split<;>omega
 have hmin:∀q:List UInt8,(if (5000:Int)<(q.length:Int) then (5000:Int) else (q.length:Int))=((min q.length 5000:Nat):Int):=fun q=>by split<;>omega
 have g1:(H.alloc (.cells (eTr t) 107)).get H.next=some (.cells (eTr t) 107):=Zaa.Zae
 have l1:H.next<(H.alloc (.cells (eTr t) 107)).next:=by simp
 have hx0:HX [] H (H.alloc (.cells (eTr t) 107)):=(HX.ini (by simp[Zc5])).alloc
 refine Zak hE cf111 (zab rfl) fun Q qr qn=>?_
 have hZ:=an7 f0<|an7 f1<|an7 f4<|hmin;refine Bz1 ?_
 generalize H.alloc (.cells (eTr t) 107)=G0 at *
 refine Zcw [1] (σ:=Nat×Nat) (fun s=>s.1<=t.terms.length/\s.1<=221/\s.2<=(s.1+1) * 5000) (fun s=>t.terms.length - s.1) (fun s=>[(3,.i (s.2:Int)),(4,.i (s.1:Int))]) (fun s=>[]) (0,min t.name.length 5000) (GStep.refl _ _) (by simp only[ZaA,Zav,Fr.put,Fr.get,↓reduceIte,Nat.reduceEqDiff];rfl) ?_ (by simp only[ZaF,ZaX,Fr.put,Fr.get,↓reduceIte,Nat.reduceEqDiff,and_self]<;>simp) (by simp only[ZaJ]) ?_
 ·exact⟨by simp,by simp,by simp only;omega⟩
 ·(rintro⟨i,n⟩ G ⟨h1,h2,h3⟩ hG hn;try simp only[nx]at hn)
  simp only at h1 h2 h3
  have hc1:=(hG.g _ l1 (by simp)).trans g1
  have lc1:=Zaa.lt hc1
  by_cases c1:i<t.terms.length
  ·have d1:decide ((i:Int)<(t.terms.length:Int))=true:=by simp;omega
   by_cases c2:i<=220
   ·have d2:decide ((i:Int)<=220)=true:=by simp;omega
    have h0:(0:Int)<=(i:Int):=by omega
    have hr:(rS t.terms)[i]?=some [eS t.terms[i]]:=by simp[c1]
    have hw1:IntKind.i64.wrap ((n:Int)+((min t.terms[i].length 5000:Nat):Int))=((n+min t.terms[i].length 5000:Nat):Int):=by rw[Zaw (by omega) (by omega)];omega
    have hw2:IntKind.i64.wrap ((i:Int)+1)=((i+1:Nat):Int):=by rw[Zaw (by omega) (by omega)];omega
    have hZ:=an7 d1<|an7 d2<|an7 f0<|an7 f2<|an7 hc1<|an7 h0<|an7 c1<|an7 hr<|an7 hmin<|an7 hw1<|hw2;refine Bz3 ?_
    exact⟨(i+1,n+min t.terms[i].length 5000),⟨by simp only;omega,by simp only;omega,by simp only;omega⟩,by simp only;omega,⟨rfl,rfl⟩,hG⟩
   ·have d2:decide ((i:Int)<=220)=false:=by simp;omega
    have d3:decide ((t.terms.length:Int)<=220)=false:=by simp;omega
    have hZ:=an7 d1<|an7 d2<|an7 d3<|an7 hc1<|an7 f2<|f3;refine Bz3 ?_
    exact Zaq ⟨hx0.quiet hG,_,rfl,fun e=>by cases e⟩
  ·have d1:decide ((i:Int)<(t.terms.length:Int))=false:=by simp;omega
   by_cases c3:t.terms.length<=220/\t.up.length<=220
   ·have d3:decide ((t.terms.length:Int)<=220)=true:=by simp;omega
    have d4:decide ((t.up.length:Int)<=220)=true:=by simp;omega
    have hZ:=an7 d1<|an7 d3<|an7 d4<|an7 hc1<|an7 f2<|f3;refine Bz3 ?_
    exact Zaq ⟨hx0.quiet hG,_,rfl,fun _=>c3⟩
   ·by_cases c4:t.terms.length<=220
    ·have d3:decide ((t.terms.length:Int)<=220)=true:=by simp;omega
     have d4:decide ((t.up.length:Int)<=220)=false:=by simp;omega
     have hZ:=an7 d1<|an7 d3<|an7 d4<|an7 hc1<|an7 f2<|f3;refine Bz3 ?_
     exact Zaq ⟨hx0.quiet hG,_,rfl,fun e=>by cases e⟩
    ·have d3:decide ((t.terms.length:Int)<=220)=false:=by simp;omega
     have hZ:=an7 d1<|an7 d3<|an7 hc1<|an7 f2<|f3;refine Bz3 ?_
     exact Zaq ⟨hx0.quiet hG,_,rfl,fun e=>by cases e⟩
def FewD (d:Dm):Prop:=d.tiers.length<=6/\∀t∈d.tiers,FewT t
def FewDQ (d:Dm) (H:Zaa) (r:AV) (H':Zaa):Prop:=HX [] H H'/\∃b,r=.b b/\(b=true->FewD d)
set_option maxHeartbeats 1000000 in
theorem Zjv (d:Dm) (H:Zaa):Zay Tryz.prog 72 [.agg (eDm d)] H (FewDQ d H):=by
 obtain⟨f0,f1,f2,f3⟩:=Za7 d
 have g1:(H.alloc (.cells (eDm d) 102)).get H.next=some (.cells (eDm d) 102):=Zaa.Zae
 have l1:H.next<(H.alloc (.cells (eDm d) 102)).next:=by simp
 have hx0:HX [] H (H.alloc (.cells (eDm d) 102)):=(HX.ini (by simp[Zc5])).alloc
 refine Zak hE cf72 (zab rfl) fun Q qr qn=>?_
 refine Bz0 ?_
 generalize H.alloc (.cells (eDm d) 102)=G0 at *
 refine Zcw [1] (σ:=Nat) (fun s=>s<=d.tiers.length/\s<=7/\∀t∈d.tiers.take s,FewT t) (fun s=>d.tiers.length - s) (fun s=>[(3,.i (s:Int))]) (fun s=>[]) 0 (GStep.refl _ _) (by simp only[ZaA,Zav,Fr.put,Fr.get,↓reduceIte,Nat.reduceEqDiff];rfl) ?_ (by simp only[ZaF,ZaX,Fr.put,Fr.get,↓reduceIte,Nat.reduceEqDiff,and_self]<;>simp) (by simp only[ZaJ]) ?_
 ·exact⟨by simp,by simp,by simp⟩
 ·(rintro i G ⟨h1,h2,h3⟩ hG hn;try simp only[nx]at hn)
  have hc1:=(hG.g _ l1 (by simp)).trans g1
  have lc1:=Zaa.lt hc1
  by_cases c1:i<d.tiers.length
  ·have d1:decide ((i:Int)<(d.tiers.length:Int))=true:=by simp;omega
   by_cases c2:i<=6
   ·have d2:decide ((i:Int)<=6)=true:=by simp;omega
    have h0:(0:Int)<=(i:Int):=by omega
    have hr:=Zdh c1
    obtain⟨t0,t1,t2,t3,t4⟩:=Zba d.tiers[i]
    have hw2:IntKind.i64.wrap ((i:Int)+1)=((i+1:Nat):Int):=by rw[Zaw (by omega) (by omega)];omega
    have hZ:=an7 d1<|an7 d2<|an7 f2<|an7 hc1<|an7 h0<|an7 c1<|an7 hr<|an7 t0<|an7 t4<|hw2;refine Bz3 ?_
    refine Zap.use (Zi5 d.tiers[i] _) ?_
    rintro r G2 ⟨hx2,b,rfl,hb⟩
    cases b with
    | false =>
     refine Bz0 ?_
     exact Zaq ⟨(hx0.quiet hG).quiet hx2,_,rfl,fun e=>by cases e⟩
    | true =>
     have hZ:=hw2;refine Bz1 ?_
     refine⟨i+1,⟨by omega,by omega,fun t ht=>?_⟩,by omega,rfl,hG.quiet hx2⟩
     rw[zar c1]at ht
     rcases zav.1 ht with ht|ht
     ·exact h3 t ht
     ·rw[zam.1 ht];exact hb rfl
   ·have d2:decide ((i:Int)<=6)=false:=by simp;omega
    have d3:decide ((d.tiers.length:Int)<=6)=false:=by simp;omega
    have hZ:=an7 d1<|an7 d2<|an7 d3<|an7 hc1<|f2;refine Bz3 ?_
    exact Zaq ⟨hx0.quiet hG,_,rfl,fun e=>by cases e⟩
  ·have d1:decide ((i:Int)<(d.tiers.length:Int))=false:=by simp;omega
   by_cases c3:d.tiers.length<=6
   ·have d3:decide ((d.tiers.length:Int)<=6)=true:=by simp;omega
    have hZ:=an7 d1<|an7 d3<|an7 hc1<|an7 f1<|f2;refine Bz3 ?_
    exact Zaq ⟨hx0.quiet hG,_,rfl,fun _=>⟨c3,by rw[zaG (by omega)]at h3;exact h3⟩⟩
   ·have d3:decide ((d.tiers.length:Int)<=6)=false:=by simp;omega
    have hZ:=an7 d1<|an7 d3<|an7 hc1<|f2;refine Bz3 ?_
    exact Zaq ⟨hx0.quiet hG,_,rfl,fun e=>by cases e⟩
def FewS (S:Sc):Prop:=S.dims.length<=20/\∀d∈S.dims,FewD d
def FewSQ (S:Sc) (H:Zaa) (r:AV) (H':Zaa):Prop:=HX [] H H'/\∃b,r=.b b/\(b=true->FewS S)
set_option maxHeartbeats 2000000 in
theorem ZiT (S:Sc) (H:Zaa):Zay Tryz.prog 27 [.agg (eSc S)] H (FewSQ S H):=by
 obtain⟨f0,f1,f2,f3⟩:=ZbB S
 have g1:(H.alloc (.cells (eSc S) 25)).get H.next=some (.cells (eSc S) 25):=Zaa.Zae
 have l1:H.next<(H.alloc (.cells (eSc S) 25)).next:=by simp
 have hx0:HX [] H (H.alloc (.cells (eSc S) 25)):=(HX.ini (by simp[Zc5])).alloc
 refine Zak hE cf27 (zab rfl) fun Q qr qn=>?_
 refine Bz0 ?_
 generalize H.alloc (.cells (eSc S) 25)=G0 at *
 refine Zcw [1] (σ:=Nat×Nat) (fun s=>s.1<=S.dims.length/\s.1<=21/\s.2<=s.1 * 1320/\∀d∈S.dims.take s.1,FewD d) (fun s=>S.dims.length - s.1) (fun s=>[(3,.i (s.2:Int)),(4,.i (s.1:Int))]) (fun s=>[]) (0,0) (GStep.refl _ _) (by simp only[ZaA,Zav,Fr.put,Fr.get,↓reduceIte,Nat.reduceEqDiff];rfl) ?_ (by simp only[ZaF,ZaX,Fr.put,Fr.get,↓reduceIte,Nat.reduceEqDiff,and_self]<;>simp) (by simp only[ZaJ]) ?_
 ·exact⟨by simp,by simp,by simp,by simp⟩
 ·(rintro⟨i,n⟩ G ⟨h1,h2,h3,h4⟩ hG hn;try simp only[nx]at hn)
  simp only at h1 h2 h3 h4
  have hc1:=(hG.g _ l1 (by simp)).trans g1
  have lc1:=Zaa.lt hc1
  by_cases c1:i<S.dims.length
  ·have d1:decide ((i:Int)<(S.dims.length:Int))=true:=by simp;omega
   by_cases c2:i<=20
   ·have d2:decide ((i:Int)<=20)=true:=by simp;omega
    have h0:(0:Int)<=(i:Int):=by omega
    have hr:=ZjQ c1
    obtain⟨q0,q1,q2,q3⟩:=Za7 S.dims[i]
    have hZ:=an7 d1<|an7 d2<|an7 f1<|an7 hc1<|an7 h0<|an7 c1<|an7 hr<|an7 q0<|q3;refine Bz3 ?_
    refine Zap.use (Zjv S.dims[i] _) ?_
    rintro r G2 ⟨hx2,b,rfl,hb⟩
    cases b with
    | false =>
     refine Bz0 ?_
     exact Zaq ⟨(hx0.quiet hG).quiet hx2,_,rfl,fun e=>by cases e⟩
    | true =>
     have hb:=hb rfl
     have hc2:=(hx2.g _ lc1 (by simp)).trans hc1
     have lc2:=Zaa.lt hc2
     have hn2:=hx2.n
     generalize hdd:S.dims[i]=d at *
     obtain⟨w1,w2⟩:=hb
     have hZ:=an7 hc2<|an7 f1<|an7 c1<|an7 hr<|an7 q0<|an7 q2<|h0;refine Bz3 ?_
     refine Zbs [1,4,32,33] (σ:=Nat) (fun(k:Nat) s=>s<=n+k * 220) (fun k s=>[(3,.i (s:Int))]) (fun k s=>[]) n (GStep.refl _ _) (by simp only[ZaA,Zav,Fr.put,Fr.get,↓reduceIte,Nat.reduceEqDiff];rfl) (by intro k s;rfl) (by intro k s;rfl) (by rfl) (by unfold maxLen;omega) ?_ (by simp only[ZaF,ZaX,Fr.put,Fr.get,↓reduceIte,Nat.reduceEqDiff,and_self]<;>simp) (by simp only[ZaJ]) ?_ ?_
     ·simp
     ·(rintro k m G3 hk hm hG3 hn3;try simp only[nx]at hn3)
      have hrt:=Zdh hk
      obtain⟨t0,t1,t2,t3,t4⟩:=Zba d.tiers[k]
      have ht:=(w2 _ (zaq hk)).1
      have td:(eTr d.tiers[k]).drop 3=[]:=rfl
      generalize d.tiers[k]=t at *
      have hw1:IntKind.i64.wrap ((m:Int)+(t.terms.length:Int))=((m+t.terms.length:Nat):Int):=by rw[Zaw (by omega) (by omega)];omega
      have hZ:=an7 hrt<|an7 t0<|an7 t2<|an7 t4<|an7 td<|hw1;refine Bz5 ?_
      exact⟨m+t.terms.length,by omega,rfl,hG3.alloc⟩
     ·(rintro m G3 hm hG3 hn3;try simp only[nx]at hn3)
      have hw2:IntKind.i64.wrap ((i:Int)+1)=((i+1:Nat):Int):=by rw[Zaw (by omega) (by omega)];omega
      have hZ:=hw2;refine Bz1 ?_
      refine⟨(i+1,m),⟨by simp only;omega,by simp only;omega,by simp only;omega,fun e he=>?_⟩,by simp only;omega,⟨rfl,rfl⟩,(hG.quiet hx2).quiet hG3⟩
      rw[zar c1]at he
      rcases zav.1 he with he|he
      ·exact h4 e he
      ·rw[zam.1 he,hdd];exact⟨w1,w2⟩
   ·have d2:decide ((i:Int)<=20)=false:=by simp;omega
    have hfew:S.dims.length<=20->FewS S:=fun h=>by omega
    have hZ:=an7 d1<|an7 d2<|an7 hc1<|f1;refine Bz3 ?_
    refine Zcw [1,3] (σ:=Nat×Nat) (fun s=>s.1<=S.meas.length/\s.1<=6/\s.2<=s.1 * 1000) (fun s=>S.meas.length - s.1) (fun s=>[(7,.i (s.2:Int)),(8,.i (s.1:Int))]) (fun s=>[]) (0,0) (GStep.refl _ _) (by simp only[ZaA,Zav,Fr.put,Fr.get,↓reduceIte,Nat.reduceEqDiff];rfl) ?_ (by simp only[ZaF,ZaX,Fr.put,Fr.get,↓reduceIte,Nat.reduceEqDiff,and_self]<;>simp) (by simp only[ZaJ]) ?_
    ·exact⟨by simp,by simp,by simp⟩
    ·(rintro⟨j,m⟩ G2 ⟨k1,k2,k3⟩ hG2 hn2;try simp only[nx]at hn2)
     simp only at k1 k2 k3
     have hc2:=(hG2.g _ lc1 (by simp)).trans hc1
     have lc2:=Zaa.lt hc2
     have hxx:=(hx0.quiet hG).quiet hG2
     by_cases e1:j<S.meas.length
     ·have g1:decide ((j:Int)<(S.meas.length:Int))=true:=by simp;omega
      by_cases e2:j<=5
      ·have g2:decide ((j:Int)<=5)=true:=by simp;omega
       have h0:(0:Int)<=(j:Int):=by omega
       have hr:(rS S.meas)[j]?=some [eS S.meas[j]]:=by simp[e1]
       have hmin:(if (1000:Int)<(S.meas[j].length:Int) then (1000:Int) else (S.meas[j].length:Int))=((min S.meas[j].length 1000:Nat):Int):=by split<;>omega
       have hw1:IntKind.i64.wrap ((m:Int)+((min S.meas[j].length 1000:Nat):Int))=((m+min S.meas[j].length 1000:Nat):Int):=by rw[Zaw (by omega) (by omega)];omega
       have hw2:IntKind.i64.wrap ((j:Int)+1)=((j+1:Nat):Int):=by rw[Zaw (by omega) (by omega)];omega
       have hZ:=an7 g1<|an7 g2<|an7 f2<|an7 hc2<|an7 h0<|an7 e1<|an7 hr<|an7 hmin<|an7 hw1<|hw2;refine Bz3 ?_
       exact⟨(j+1,m+min S.meas[j].length 1000),⟨by simp only;omega,by simp only;omega,by simp only;omega⟩,by simp only;omega,⟨rfl,rfl⟩,hG2⟩
      ·have g2:decide ((j:Int)<=5)=false:=by simp;omega
       have g4:decide ((S.meas.length:Int)<=5)=false:=by simp;omega
       by_cases c5:S.dims.length<=20
       ·have d5:decide ((S.dims.length:Int)<=20)=true:=by simp;omega
        have hZ:=an7 g1<|an7 g2<|an7 g4<|an7 d5<|an7 hc2<|an7 f1<|f2;refine Bz3 ?_
        exact Zaq ⟨hxx,_,rfl,fun e=>by cases e⟩
       ·have d5:decide ((S.dims.length:Int)<=20)=false:=by simp;omega
        have hZ:=an7 g1<|an7 g2<|an7 d5<|an7 hc2<|an7 f1<|f2;refine Bz3 ?_
        exact Zaq ⟨hxx,_,rfl,fun e=>by cases e⟩
     ·have g1:decide ((j:Int)<(S.meas.length:Int))=false:=by simp;omega
      by_cases c5:S.dims.length<=20
      ·have d5:decide ((S.dims.length:Int)<=20)=true:=by simp;omega
       ((have hd:=tv;repeat' first|(first|apply Zad|apply Zac|apply Zab)<;>intro hd<;>try simp only[hd]|simp(disch:=first|assumption|omega|simp only[nx]<;>omega|fail)only[hd,qr,qn,Zdp,↓YA,YY,sevalprocAttr,g1,d5,hc2,f1,f2,zaj])<;>try revert hd;refine ttr ?_)
       all_goals exact Zaq ⟨hxx,_,rfl,fun _=>hfew c5⟩
      ·have d5:decide ((S.dims.length:Int)<=20)=false:=by simp;omega
       have hZ:=an7 g1<|an7 d5<|an7 hc2<|an7 f1<|f2;refine Bz3 ?_
       exact Zaq ⟨hxx,_,rfl,fun e=>by cases e⟩
  ·have d1:decide ((i:Int)<(S.dims.length:Int))=false:=by simp;omega
   have hfew:S.dims.length<=20->FewS S:=fun h=>⟨h,by rw[zaG (by omega)]at h4;exact h4⟩
   have hZ:=an7 d1<|an7 hc1<|f1;refine Bz3 ?_
   refine Zcw [1,3] (σ:=Nat×Nat) (fun s=>s.1<=S.meas.length/\s.1<=6/\s.2<=s.1 * 1000) (fun s=>S.meas.length - s.1) (fun s=>[(7,.i (s.2:Int)),(8,.i (s.1:Int))]) (fun s=>[]) (0,0) (GStep.refl _ _) (by simp only[ZaA,Zav,Fr.put,Fr.get,↓reduceIte,Nat.reduceEqDiff];rfl) ?_ (by simp only[ZaF,ZaX,Fr.put,Fr.get,↓reduceIte,Nat.reduceEqDiff,and_self]<;>simp) (by simp only[ZaJ]) ?_
   ·exact⟨by simp,by simp,by simp⟩
   ·(rintro⟨j,m⟩ G2 ⟨k1,k2,k3⟩ hG2 hn2;try simp only[nx]at hn2)
    simp only at k1 k2 k3
    have hc2:=(hG2.g _ lc1 (by simp)).trans hc1
    have lc2:=Zaa.lt hc2
    have hxx:=(hx0.quiet hG).quiet hG2
    by_cases e1:j<S.meas.length
    ·have g1:decide ((j:Int)<(S.meas.length:Int))=true:=by simp;omega
     by_cases e2:j<=5
     ·have g2:decide ((j:Int)<=5)=true:=by simp;omega
      have h0:(0:Int)<=(j:Int):=by omega
      have hr:(rS S.meas)[j]?=some [eS S.meas[j]]:=by simp[e1]
      have hmin:(if (1000:Int)<(S.meas[j].length:Int) then (1000:Int) else (S.meas[j].length:Int))=((min S.meas[j].length 1000:Nat):Int):=by split<;>omega
      have hw1:IntKind.i64.wrap ((m:Int)+((min S.meas[j].length 1000:Nat):Int))=((m+min S.meas[j].length 1000:Nat):Int):=by rw[Zaw (by omega) (by omega)];omega
      have hw2:IntKind.i64.wrap ((j:Int)+1)=((j+1:Nat):Int):=by rw[Zaw (by omega) (by omega)];omega
      have hZ:=an7 g1<|an7 g2<|an7 f2<|an7 hc2<|an7 h0<|an7 e1<|an7 hr<|an7 hmin<|an7 hw1<|hw2;refine Bz3 ?_
      exact⟨(j+1,m+min S.meas[j].length 1000),⟨by simp only;omega,by simp only;omega,by simp only;omega⟩,by simp only;omega,⟨rfl,rfl⟩,hG2⟩
     ·have g2:decide ((j:Int)<=5)=false:=by simp;omega
      have g4:decide ((S.meas.length:Int)<=5)=false:=by simp;omega
      by_cases c5:S.dims.length<=20
      ·have d5:decide ((S.dims.length:Int)<=20)=true:=by simp;omega
       have hZ:=an7 g1<|an7 g2<|an7 g4<|an7 d5<|an7 hc2<|an7 f1<|f2;refine Bz3 ?_
       exact Zaq ⟨hxx,_,rfl,fun e=>by cases e⟩
      ·have d5:decide ((S.dims.length:Int)<=20)=false:=by simp;omega
       have hZ:=an7 g1<|an7 g2<|an7 d5<|an7 hc2<|an7 f1<|f2;refine Bz3 ?_
       exact Zaq ⟨hxx,_,rfl,fun e=>by cases e⟩
    ·have g1:decide ((j:Int)<(S.meas.length:Int))=false:=by simp;omega
     by_cases c5:S.dims.length<=20
     ·have d5:decide ((S.dims.length:Int)<=20)=true:=by simp;omega
      ((have hd:=tv;repeat' first|(first|apply Zad|apply Zac|apply Zab)<;>intro hd<;>try simp only[hd]|simp(disch:=first|assumption|omega|simp only[nx]<;>omega|fail)only[hd,qr,qn,Zdp,↓YA,YY,sevalprocAttr,g1,d5,hc2,f1,f2,zaj])<;>try revert hd;refine ttr ?_)
      all_goals exact Zaq ⟨hxx,_,rfl,fun _=>hfew c5⟩
     ·have d5:decide ((S.dims.length:Int)<=20)=false:=by simp;omega
      have hZ:=an7 g1<|an7 d5<|an7 hc2<|an7 f1<|f2;refine Bz3 ?_
      exact Zaq ⟨hxx,_,rfl,fun e=>by cases e⟩
theorem ZlU {S:Sc} {most:Int} {facts:List Fct} (h:Zet S most facts=0) (ha:∀f∈facts,Zho f.2):Ard (Za3 S) (Ze6 S most facts)/\∀j,j+1<(Ze6 S most facts).length->Led (Za3 S).sizes.length (Ze6 S most facts) j:=by
 unfold Zet at h
 split at h
 ·rename_i h1;exact absurd h h1
 rename_i h1
 split at h
 ·rename_i h2;exact absurd h h2
 rename_i h2
 split at h
 ·omega
 rename_i h3
 split at h
 ·omega
 rename_i h4
 have h4:newE (Za3 S) most=0:=zaQ.1 h4
 have hm:ZbS (Za3 S)=true/\0<=most/\most<=131072:=by
  unfold newE at h4
  split at h4
  ·assumption
  ·omega
 split at h
 ·rename_i h5
  have e:Ze6 S most facts=[]:=by unfold Ze6;rw[if_pos h5]
  rw[e]
  exact⟨ard_of (most:=most) hm.1 (by simp) (by simp) (fun i hi=>by simp at hi),fun j hj=>by simp at hj⟩
 ·rename_i h5
  have e:Ze6 S most facts=(Zfa S most facts).N:=by unfold Ze6;rw[if_neg h5]
  rw[e]
  have hF:=ZdS (zaQ.1 h1) (zaQ.1 h2) (by omega) ha
  have hG:Grown (Za3 S) most (Zfa S most facts).N:=Zfj hF _ (zaf _) _ _ ⟨fun i hi=>by simp at hi,fun n hn=>by simp at hn⟩
  have hlen:(Zfa S most facts).N.length<=131072:=by
   refine zaA fun hc=>?_
   have:=(add_zero' (hG.1 131072 (by omega))).2.2
   rw[za9]at this
   omega
  refine⟨ard_of hm.1 hG.2 (by omega) hG.1,fun j hj=>?_⟩
  have hLl:(Zan S).length=(Za3 S).sizes.length:=hF.len
  have hL1:1<=(Zan S).length:=by have:=(Zby hm.1).1;omega
  have hst:=Zhy (x:=Za3 S) (L:=Zan S) (facts:=facts) (most:=most) ((Zan S).length - 1) (by omega) ⟨[],[],0⟩ (List.range facts.length)
  rw[show(Zan S).length - 1+1=(Zan S).length by omega]at hst
  obtain⟨_,_,h6⟩:=hst h
  have hjl:j<(Zfa S most facts).N.length:=by omega
  rcases h6 j (zaD _) hjl with h7|h7
  ·have h8:=ZhY (x:=Za3 S) (L:=Zan S) (facts:=facts) (most:=most) ((Zan S).length - 1) ⟨[],[],0⟩ (List.range facts.length) rfl
   rw[show(Zan S).length - 1+1=(Zan S).length by omega]at h8
   have h8:=h8 h
   rw[<- h7]at h8
   have:(j:Int)+1=((Zfa S most facts).N.length:Int):=h8
   omega
  ·rw[<- hLl];exact h7
def Zik:Sh:=.pair (.slice Zd9) (.pair ZsI .unit)
def Zqf:Sh:=.pair .str (.pair (.slice .str) (.pair (.slice Zd9) .unit))
def Zo7:Sh:=.pair .str (.pair (.slice Zqf) .unit)
def ZqP:Sh:=.pair (.slice Zo7) (.pair (.slice .str) .unit)
theorem Zid:(Sh.slice .str).Fits Tryz.prog (.inl 23):=⟨9,Tryz.underlying23,by kernel_rfl,by decide,Tryz.underlying9⟩
theorem fits_fct:Zik.Fits Tryz.prog (.inl 88) :=
 ⟨_,_,Tryz.underlying88,by kernel_rfl,rfl,by kernel_rfl,Zis,_,_,rfl,rfl,by kernel_rfl,ZsX,rfl⟩
theorem Zyv:(Sh.slice Zik).Fits Tryz.prog (.inl 26):=⟨88,Tryz.underlying26,by kernel_rfl,by decide,fits_fct⟩
theorem fits_tr:Zqf.Fits Tryz.prog (.inl 107) :=
 ⟨_,_,Tryz.underlying107,by kernel_rfl,rfl,by kernel_rfl,Tryz.underlying9,_,_,rfl,rfl,by kernel_rfl,Zid,_,_,rfl,rfl,by kernel_rfl,Zis,rfl⟩
theorem fits_trs:(Sh.slice Zqf).Fits Tryz.prog (.inl 100):=⟨107,Tryz.underlying100,by kernel_rfl,by decide,fits_tr⟩
theorem fits_dm:Zo7.Fits Tryz.prog (.inl 102) :=
 ⟨_,_,Tryz.underlying102,by kernel_rfl,rfl,by kernel_rfl,Tryz.underlying9,_,_,rfl,rfl,by kernel_rfl,fits_trs,rfl⟩
theorem fits_dms:(Sh.slice Zo7).Fits Tryz.prog (.inl 22):=⟨102,Tryz.underlying22,by kernel_rfl,by decide,fits_dm⟩
theorem fits_sc:ZqP.Fits Tryz.prog (.inl 25) :=
 ⟨_,_,Tryz.underlying25,by kernel_rfl,rfl,by kernel_rfl,fits_dms,_,_,rfl,rfl,by kernel_rfl,Zid,rfl⟩
theorem eS_of (s:ByteArray):eS s.data.toList=.sc (.string s):=by cases s;rfl
def FctIn (f:Fct):Prop:=Zho f.2
section
variable {w:World} {F:Nat->Prop}
theorem Ziq {cs:List Value} {x:(Sh.slice Zd9).D} (h:(Sh.slice Zd9).Is w F cs x):∃l:List Int,(Sh.slice Zd9).enc x=[.sl .no (rI l)]:=by
 obtain⟨l,_,e,_⟩:=Zgi (s:=Zd9) (f:=fun n=>[AV.i n]) (p:=fun _=>True) (fun cs x hx=>⟨x,rfl,trivial⟩) h
 exact⟨l,e⟩
theorem enc_fct {cs:List Value} {x:Zik.D} (h:Zik.Is w F cs x):∃f:Fct,Zik.enc x=ZcI f/\FctIn f:=by
 obtain⟨ks,g,u⟩:=x
 obtain⟨_,_,_,hk,_,_,_,hg,_⟩:=h
 obtain⟨l,el⟩:=Ziq hk
 obtain⟨a,ea,ia⟩:=ZvE hg
 refine⟨(l,a),?_,ia⟩
 show(Sh.slice Zd9).enc ks++(ZsI.enc g++[])=_
 rw[el,ea];rfl
theorem ZjA (y:(Sh.slice .str).D):∃l:List Tx,(Sh.slice .str).enc y=[.sl .no (rS l)]:=by
 refine⟨(show List ByteArray from y).map fun s=>s.data.toList,?_⟩
 show[AV.sl .no ((show List ByteArray from y).map fun s=>[.sc (.string s)])]=_
 congr 2
 rw[rS,zbt]
 refine List.map_congr_left fun s _=>?_
 show _=[eS s.data.toList]
 rw[eS_of]
theorem enc_tr {cs:List Value} {x:Zqf.D} (h:Zqf.Is w F cs x):∃t:Tr,Zqf.enc x=eTr t:=by
 obtain⟨n,ts,us,u⟩:=x
 obtain⟨_,_,_,_,_,_,_,_,_,_,_,hu,_⟩:=h
 obtain⟨l,el⟩:=Ziq hu
 obtain⟨m,em⟩:=ZjA ts
 refine⟨⟨(show ByteArray from n).data.toList,m,l⟩,?_⟩
 show[AV.sc (.string n)]++((Sh.slice .str).enc ts++((Sh.slice Zd9).enc us++[]))=_
 rw[el,em]
 exact congrArg (fun a=>[a,AV.sl .no (rS m),AV.sl .no (rI l)]) (eS_of (show ByteArray from n)).symm
theorem enc_dm {cs:List Value} {x:Zo7.D} (h:Zo7.Is w F cs x):∃d:Dm,Zo7.enc x=eDm d:=by
 obtain⟨n,ts,u⟩:=x
 obtain⟨_,_,_,_,_,_,_,ht,_⟩:=h
 obtain⟨l,_,el⟩:=Zhx (f:=eTr) (fun cs x hx=>enc_tr hx) ht
 refine⟨⟨(show ByteArray from n).data.toList,l⟩,?_⟩
 show[AV.sc (.string n)]++((Sh.slice Zqf).enc ts++[])=_
 rw[el]
 exact congrArg (fun a=>[a,AV.sl .no (l.map eTr)]) (eS_of (show ByteArray from n)).symm
theorem enc_sc {cs:List Value} {x:ZqP.D} (h:ZqP.Is w F cs x):∃s:Sc,ZqP.enc x=eSc s:=by
 obtain⟨ds,ms,u⟩:=x
 obtain⟨_,_,_,hd,_⟩:=h
 obtain⟨l,_,el⟩:=Zhx (f:=eDm) (fun cs x hx=>enc_dm hx) hd
 obtain⟨m,em⟩:=ZjA ms
 refine⟨⟨l,m⟩,?_⟩
 show(Sh.slice Zo7).enc ds++((Sh.slice .str).enc ms++[])=_
 rw[el,em];rfl
end
section
variable {W:World}
end
theorem Zqq:Tryz.prog.bytesOf 102=40:=by kernel_rfl
theorem Zqg:Tryz.prog.bytesOf 107=64:=by kernel_rfl
theorem ZqW {α β γ:Type} {f:α->γ} {g:β->γ} {l:List α} {m:List β} (h:l.map f=m.map g):l.length=m.length/\∀b∈m,∃a∈l,f a=g b:=by
 refine⟨by have:=congrArg List.length h;rwa [zaj,zaj]at this,fun b hb=>?_⟩
 have:g b∈l.map f:=h ▸ zcf hb
 obtain⟨a,ha,e⟩:=zat.1 this
 exact⟨a,ha,e⟩
theorem dm_bound {x:Zo7.D} {d:Dm} (e:Zo7.enc x=eDm d) (hw:Zo7.Wt Tryz.prog reachBytes (.inl 102) x):d.tiers.length<=4000000000000:=by
 obtain⟨n,ts,u2⟩:=x
 have h3:=(((hw _ _ Tryz.underlying102).2) _ _ rfl).1 107 Tryz.underlying100
 rw[Zqg]at h3
 have h4:(show List Zqf.D from ts).length * 64<=reachBytes:=h3.1
 have e4:[AV.sc (.string n)]++([AV.sl .no ((show List Zqf.D from ts).map Zqf.enc)]++[])=eDm d:=e
 have e5:(show List Zqf.D from ts).map Zqf.enc=d.tiers.map eTr:=by
  have:=(List.cons.inj (List.cons.inj e4).2).1
  injection this
 rw[(ZqW e5).1,show reachBytes=140737488351232 from rfl]at h4
 omega
theorem ZqV {y:ZqP.D} {s:Sc} (e:ZqP.enc y=eSc s) (hw:ZqP.Wt Tryz.prog reachBytes (.inl 25) y):s.dims.length<=4000000000000/\∀d∈s.dims,d.tiers.length<=4000000000000:=by
 obtain⟨ds,ms,u⟩:=y
 have e1:[AV.sl .no ((show List Zo7.D from ds).map Zo7.enc)]++((Sh.slice .str).enc ms++[])=eSc s:=e
 have e2:(show List Zo7.D from ds).map Zo7.enc=s.dims.map eDm:=by
  have:=(List.cons.inj e1).1
  injection this
 have h1:=(hw _ _ Tryz.underlying25).1 102 Tryz.underlying22
 rw[Zqq]at h1
 have h2:(show List Zo7.D from ds).length * 40<=reachBytes:=h1.1
 have h3:∀x∈(show List Zo7.D from ds),Zo7.Wt Tryz.prog reachBytes (.inl 102) x:=h1.2
 obtain⟨k1,k2⟩:=ZqW e2
 rw[k1,show reachBytes=140737488351232 from rfl]at h2
 refine⟨by omega,fun d hd=>?_⟩
 obtain⟨x,hx,ex⟩:=k2 d hd
 exact dm_bound ex (h3 x hx)
theorem arg_scW {W:World} {cs:Array Value} {y:ZqP.D} (h:ZqP.Is W (·<W.heap.size) cs.toList y) (hw:ZqP.Wt Tryz.prog reachBytes (.inl 25) y) :
  ∃s:Sc,VR (Gh.ro (Zjd W)) W (.agg (eSc s)) (.agg cs)/\s.dims.length<=4000000000000/\∀d∈s.dims,d.tiers.length<=4000000000000:=by
 obtain⟨s,e⟩:=enc_sc h
 exact⟨s,e ▸ arg_agg (by simp[ZqP,Zo7,Zqf,Zd9,Sh.pos,Sh.size]) h,ZqV e hw⟩
end Go.Proofs.YtaapiigfmdhobaaGreat
