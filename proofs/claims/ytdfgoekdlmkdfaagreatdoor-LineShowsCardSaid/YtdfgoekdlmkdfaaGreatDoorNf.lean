/- Texts of the walk. -/
import Derived.Test.YtdfgoekdlmkdfaaGreatDoorNe
import Derived.Test.YtdfgoekdlmkdfaaGreatDoorNb
namespace Go.Proofs.YtdfgoekdlmkdfaaGreatDoor
set_option linter.defProp false
set_option maxHeartbeats 64000000
set_option linter.unusedSimpArgs false
set_option linter.unusedVariables false
open Go.RowKit Go.Lib
theorem nan_no (x:Tx):(!decide (x=x))=false:=Xc
theorem ZKv {P:Prg} (hP:P.p=Tryz.prog) (x:Tx) (H:Zaa):Zay P 208 [eS x] H (Pure H (.b false)):=by
 obtain⟨p,pan⟩:=P
 have hP:p=Tryz.prog:=hP
 subst hP
 have d:=nan_no x
 refine fnQ cf208 fun Q qr qn=>?_
 refine Bz1 (X1 d) ?_
 refine ZbC Xc
theorem ZKx (x:Tx) (H:Zaa):Zay Tryz.prog 197 [eS x] H (Pure H (.b false)):=by
 have d:=nan_no x
 refine fnQ cf197 fun Q qr qn=>?_
 refine Bz1 (X1 d) ?_
 refine ZbC Xc
theorem ZJQ (x y:Tx) (H:Zaa):Zay Tryz.prog 196 [eS x,eS y] H (Pure H (.b (decide (x<y)))):=by
 refine fnQ cf196 fun Q qr qn=>?_
 refine Bz0 ?_
 refine qcp (ZKv rfl x _) fun k1=>?_
 refine Bz1 (X1 bytesLess_eq) ?_
 refine ZbC (by rfl)
theorem ZLr {l:List Tx} (h:Zgt none l=0):∀b (hb:b<l.length) a (ha:a<b),l[a]'Xa<l[b]:=by
 intro b
 induction b with
 | zero=>intro _ a ha;omega
 | succ b ih =>
  intro hb a ha
  have h1:=(ZG0 h hb).2
  rw[ZBz Xa]at h1
  by_cases e:a=b
  ·subst e;exact h1
  ·exact zbG (ih Xa a Xa) h1
def FndQ (l:List Tx) (q:Tx) (H:Zaa) (r:AV) (H':Zaa):Prop:=∃p:Nat,p<=l.length/\Pure H (.tup [.i (p:Nat),.b (decide (q∈l))]) r H'
theorem ZJE (t:Tok) (l:List Tx) (q:Tx) (H:Zaa) (hl:l.length<=1000000) (hs:Zgt none l=0):Zay Tryz.prog 170 [.sl t (rS l),eS q] H (FndQ l q H):=by
 have hmono:=ZLr hs
 have hx0:Zaa.Ext H H:=.refl _
 refine fnQ cf170 fun Q qr qn=>?_
 refine Bz2 ?_
 refine ZBA (fun m F G=>∃i j:Nat,m=j - i/\i<=j/\j<=l.length/\(∀k (h:k<l.length),k<i->l[k]<q)/\(∀k (h:k<l.length),j<=k->¬l[k]<q)/\Fr.get F 7=.i (i:Nat)/\Fr.get F 8=.i (j:Nat)/\Fr.get F 6=.i (l.length:Nat)/\Fr.get F 0=.sl t (rS l)/\Fr.get F 1=eS q/\Zaa.Ext H G) l.length (GStep.refl _ _) ⟨0,l.length,Xa,Xa,Xa,fun k _ h=>by omega,fun k h1 h2=>by omega,rfl,rfl,rfl,rfl,rfl,hx0⟩ ?_
 rintro m F G ⟨i,j,hm,hij,hj,h3,h4,f7,f8,f6,f0,f1,hx⟩
 by_cases c:i<j
 ·have d1:decide ((i:Int)<(j:Int))=true:=by simp;omega
  have w1:IntKind.i64.wrap ((i:Int)+(j:Int))=((i+j:Nat):Int):=by rw[Zaw Xa Xa];omega
  have hh:(i+j) / 2<l.length:=Xa
  have hr:=ZIQ hh
  have w2:IntKind.i64.wrap ((IntKind.u64.wrap ((i+j:Nat):Int)).fdiv (2 ^ min 1 IntKind.u64.bits))=(((i+j) / 2:Nat):Int):=by
   have hu:IntKind.u64.wrap ((i+j:Nat):Int)=((i+j:Nat):Int):=by rw[IntKind.wrap_u64];omega
   rw[hu]
   have hb:(2:Int) ^ min 1 IntKind.u64.bits=2:=Xb
   rw[hb,zbE _ Xb,Zaw Xa Xa];omega
  have n1:¬((1:Int)<0):=Xb
  have t1:(1:Int).toNat=1:=rfl
  have w3:IntKind.i64.wrap ((((i+j) / 2:Nat):Int)+1)=(((i+j) / 2+1:Nat):Int):=by rw[Zaw Xa Xa];omega
  have h0:(0:Int)<=(((i+j) / 2:Nat):Int):=Xa
  generalize hmm:(i+j) / 2=mm at *
  have hC:=fun G=>ZJQ l[mm] q G
  by_cases hc:l[mm]<q
  ·have d2:decide (l[mm]<q)=true:=decide_eq_true hc
   skip
   refine Bz1 (X12 f7 f8 f6 f0 f1 d1 w1 w2 n1 t1 h0 hr) ?_
   refine qcp (hC _) fun k1=>?_
   refine Bz1 (X7 f7 f8 f6 f0 f1 d2 w3) ?_
   exact⟨j - (mm+1),Xa,mm+1,j,rfl,Xa,hj,fun k hk hlt=>by
    rcases Nat.lt_or_eq_of_le (Nat.lt_succ_iff.1 hlt)with h|rfl
    ·exact zbG (hmono mm hh k h) hc
    ·exact hc,h4,rfl,rfl,hx.bump⟩
  ·have d2:decide (l[mm]<q)=false:=decide_eq_false hc
   skip
   refine Bz1 (X12 f7 f8 f6 f0 f1 d1 w1 w2 n1 t1 h0 hr) ?_
   refine qcp (hC _) fun k1=>?_
   refine Bz1 (X7 f7 f8 f6 f0 f1 d2 w3) ?_
   exact⟨mm - i,Xa,i,mm,rfl,Xa,Xa,h3,fun k hk hle=>by
    rcases Nat.lt_or_eq_of_le hle with h|rfl
    ·exact fun h2=>hc (zbG (hmono k hk mm h) h2)
    ·exact hc,rfl,rfl,hx.bump⟩
 ·obtain rfl:i=j:=Xa
  have d1:decide ((i:Int)<(i:Int))=false:=Xc
  have hfin:∀{G:Zaa} {r:Bool},Zaa.Ext H G->r=decide (q∈l)->∃r2 H2,Zb6 (.tup [.i (i:Nat),.b r]) G r2 H2/\FndQ l q H r2 H2:=fun hx e=>by
   subst e
   obtain⟨r2,H2,k1,k2⟩:=Zc1 (.refl _) hx
   exact⟨r2,H2,k1,i,hj,k2⟩
  by_cases hi:i<l.length
  ·have d2:decide ((i:Int)<(l.length:Int))=true:=by simp;omega
   have hr:=ZIQ hi
   have h0:(0:Int)<=(i:Int):=Xa
   have hmem:decide (l[i]=q)=decide (q∈l):=by
    by_cases e:l[i]=q
    ·rw[decide_eq_true e,decide_eq_true (by rw[<- e];exact zah hi)]
    ·rw[decide_eq_false e,decide_eq_false]
     intro hm2
     obtain⟨k,hk,rfl⟩:=zar hm2
     rcases Nat.lt_trichotomy k i with h|h|h
     ·exact zbl _ (h3 k hk h)
     ·subst h;exact e rfl
     ·exact h4 i hi (zad _) (hmono k hk i h)
   have hn1:=fun G=>ZKx l[i] G
   generalize l[i]=x at *
   by_cases e:x=q
   ·have d3:decide (x=q)=true:=decide_eq_true e
    skip
    refine Bz1 (X10 f7 f8 f6 f0 f1 d1 d2 d3 hr h0) ?_
    exact hfin hx (by rw[<- hmem,d3])
   ·have d3:decide (x=q)=false:=decide_eq_false e
    skip
    refine Bz1 (X10 f7 f8 f6 f0 f1 d1 d2 d3 hr h0) ?_
    refine qcp (hn1 _) fun k1=>?_
    refine Bz1 (X5 f7 f8 f6 f0 f1) ?_
    exact hfin hx.bump (by rw[<- hmem,d3])
  ·have d2:decide ((i:Int)<(l.length:Int))=false:=by simp;omega
   have hmem:decide (q∈l)=false:=decide_eq_false fun hm2=>by
    obtain⟨k,hk,rfl⟩:=zar hm2
    exact zbl _ (h3 k hk Xa)
   skip
   refine Bz1 (X7 f7 f8 f6 f0 f1 d1 d2) ?_
   exact hfin hx hmem.symm
theorem ZII (t:Tok) (l:List Tx) (q:Tx) (H:Zaa) (hl:l.length<=1000000) (hs:Zgt none l=0):Zay Tryz.prog 132 [.sl t (rS l),eS q] H (FndQ l q H):=by
 refine fnQ cf132 fun Q qr qn=>?_
 refine Bz0 ?_
 refine Zap.use (ZJE t l q _ hl hs) ?_
 rintro _ _ ⟨p,hp,rfl,k1,rfl⟩
 refine Bz0 ?_
 obtain⟨r2,H2,q1,q2⟩:=ZaW (r:=.tup [.i (p:Nat),.b (decide (q∈l))]) (H0:=H) (H:=H.bump k1) xX rfl
 exact⟨r2,H2,q1,p,hp,q2⟩
open Go.RowKit Go.Lib
theorem ZKw (s:Sc) (x:Rw) (H:Zaa) (he:scE s=0) (h1:x.terms.length=s.dims.length) (h2:x.vals.length=s.meas.length):Zay Tryz.prog 89 [.agg (eSc s),.agg (eRw x)] H (fun v G=>∃ps,Pure H (.tup [.sl .no (rI ps),.i (ZHC s x)]) v G):=by
 obtain⟨e0,e1,e2,e3⟩:=ZbB s
 obtain⟨a0,a1,a2,a3⟩:=ZHD x
 obtain⟨hl1,_,hl2,_⟩:=ZCV he
 have d1:(((s.dims.length:Nat):Int) != ((s.dims.length:Nat):Int))=false:=Xc
 have d2:(((s.meas.length:Nat):Int) != ((s.meas.length:Nat):Int))=false:=Xc
 have hx0:Zaa.Ext H H:=.refl _
 have fin:∀{ps:List Int} {tok:Tok} {G:Zaa} {e:Int},Zaa.Ext H G->e=ZHC s x->∃r2 H2,Zb6 (.tup [.sl tok (rI ps),.i e]) G r2 H2/\∃ps,Pure H (.tup [.sl .no (rI ps),.i (ZHC s x)]) r2 H2:=by
  intro ps tok G e hx he
  subst he
  have hw:Wkn (.tup [.sl tok (rI ps),.i (ZHC s x)]) (.tup [.sl .no (rI ps),.i (ZHC s x)]):=.tup _ _ rfl fun i x y hx hy=>by
   match i with
   | 0=>simp at hx hy;subst hx hy;exact Zfm _ _
   | 1=>simp at hx hy;subst hx hy;exact .refl _
   | i+2=>simp at hx
  obtain⟨r2,H2,k1,k2⟩:=Zc1 hw hx
  exact⟨r2,H2,k1,ps,k2⟩
 have fin0:∀{G:Zaa} {e:Int},Zaa.Ext H G->e=ZHC s x->∃r2 H2,Zb6 (.tup [.sl .full [],.i e]) G r2 H2/\∃ps,Pure H (.tup [.sl .no (rI ps),.i (ZHC s x)]) r2 H2:=fun hx he=>fin (ps:=[]) (tok:=.full) hx he
 have hsp:=fun k=>ZHQ s.dims x.terms k Xa
 refine fnQ cf89 fun Q qr qn=>?_
 refine Bz3 (X12 e0 e1 e2 e3 a0 a1 a2 a3 h1 h2 d1 d2) ?_
 refine ZbJ (N:=s.dims.length) (fun k F G=>Fr.get F 30=.i (k:Int)/\Fr.get F 29=.i (s.dims.length:Nat)/\Fr.get F 28=.sl .no (rS x.terms)/\Fr.get F 2=.ptr H.next 0/\Fr.get F 3=.ptr (H.next+1) 0/\ZHw (s.dims.take k) (x.terms.take k)=true/\Zaa.Ext H G/\G.get H.next=some (.cells (eSc s) 25)/\G.get (H.next+1)=some (.cells (eRw x) 53)/\∃ps tok,ps.length=k/\Fr.get F 6=.sl tok (rI ps)/\ZCe (H.next+2) G 3 1 k tok) Xd (fun k F G h=>⟨h.1,h.2.1⟩) (GStep.refl _ _) ⟨rfl,rfl,rfl,rfl,rfl,rfl,xX,by rw[Zaa.Zag Xe];exact Zaa.Zae,Zaa.Zat xN,[],.full,rfl,rfl,.inl rfl⟩ ?_ ?_
 ·rintro k F G hk ⟨f30,f29,f28,f2,f3,hm,hx,g2,g3,ps,tok,hpl,f6,hT⟩
  have hkt:k<x.terms.length:=Xa
  have hz:(0:Int)<=(k:Int):=Xa
  have hr:=ZjQ hk
  have hrt:=ZIQ hkt
  obtain⟨t0,tl,q1,q2,q3,q4,q5⟩:=ZJt he (zah hk)
  have hspk:=hsp k
  rw[ZH6 hk hkt,q2]at hspk
  have hsp1:=ZHQ (s.dims.take (k+1)) (x.terms.take (k+1)) k Xf
  have htk:ZHw (s.dims.take (k+1)) (x.terms.take (k+1))=decide (x.terms[k]∈t0.terms):=by
   rw[hsp1,zb2,zb2,zbg Xa,hm,za3]
   rw[ZH6 Xf Xf,zbx,zbx,q2,zbf Xf]
   simp[ZHw]
  obtain⟨b0,b1,b2,b3⟩:=Za7 s.dims[k]
  rw[q1]at b2
  obtain⟨c0,c1,c2,c3,c4⟩:=Zba t0
  have hat:=fun H=>ZII .no t0.terms x.terms[k] H Xa q3
  have dl:((((t0 :: tl).length:Nat):Int) == 0)=false:=by simp only[beq_eq_false_iff_ne,List.length_cons];omega
  have dl2:((((tl.length+1:Nat)):Int) == 0)=false:=by simp only[beq_eq_false_iff_ne];omega
  have hw:=ZCE (s:=k) Xa
  have hrl:(rI ps).length=k:=by simp[hpl]
  have hall:ZaE 1 (rI ps)=true:=ZaU (f:=fun n:Int=>[AV.i n]) (sz:=1) (fun _=>rfl) _
  have hm1:k+1<=maxLen:=ZAp Xa
  have hm2:(k+1) * 8<=140737488355328:=Xa
  generalize hd:s.dims[k]=d at *
  generalize ht:x.terms[k]=t at *
  have hz0:(0:Int)<=0:=zbv _
  have h0:(rT (t0 :: tl))[0]?=some (eTr t0):=rfl
  have l2:=Zaa.lt g2
  have l3:=Zaa.lt g3
  skip
  refine Bz3 (X12 f30 f29 f28 f2 f3 f6 g2 g3 e0 e1 e2 (X12 e3 a0 a1 a2 a3 hz hr hrt b0 b1 b2 (X10 b3 dl dl2 c0 c1 c2 c3 c4 hz0 h0))) ?_
  refine Zap.use (hat _) ?_
  rintro _ _ ⟨ap,hap,rfl,k1,rfl⟩
  have hsn:rI ps++[[AV.i (ap:Nat)]]=rI (ps++[(ap:Int)]):=Xc
  generalize hR1:rI (ps++[(ap:Int)])=R1 at *
  generalize hR0:rI ps=R0 at *
  have hal2:ZaE 1 [[AV.i (ap:Nat)]]=true:=rfl
  by_cases hin:t∈t0.terms
  ·have hneg:decide (t∈t0.terms)=true:=decide_eq_true hin
   rcases hT with rfl|⟨t',ht',rfl,hgt⟩
   ·refine Bz1 (X12 f30 f29 f28 f2 f3 f6 hneg hrl hall hal2 hm1 (X3 hm2 hsn hw)) ?_
    exact⟨by rw[htk];exact decide_eq_true hin,xX,g2,g3,ps++[(ap:Int)],_,by simp[hpl],by rw[hR1]<;>rfl,.inr ⟨_,Xe,rfl,Zaa.Zat rfl⟩⟩
   ·have lt':=Zaa.lt hgt
    refine Bz1 (X12 f30 f29 f28 f2 f3 f6 hneg hgt hrl hall hal2 (X4 hm1 hm2 hsn hw)) ?_
    exact⟨by rw[htk];exact decide_eq_true hin,xX,g2,g3,ps++[(ap:Int)],_,by simp[hpl],by rw[hR1]<;>rfl,.inr ⟨_,Xa,rfl,Zaa.Zal Xe⟩⟩
  ·have hneg:decide (t∈t0.terms)=false:=decide_eq_false hin
   rw[hneg]at hspk
   have hv:(13:Int)=ZHC s x:=by unfold ZHC;rw[hspk,zb1,Bool.and_false];rfl
   refine Bz1 (X7 f30 f29 f28 f2 f3 f6 hneg) ?_
   exact fin0 xX hv
 ·rintro F G ⟨f30,f29,f28,f2,f3,hm,hx,g2,g3,ps,tok,hpl,f6,hT⟩
  rw[zaq,<- h1,zaq]at hm
  have hv:(0:Int)=ZHC s x:=by unfold ZHC;rw[hm];rfl
  skip
  refine Bz1 (X1 f6) ?_
  exact fin xX hv
theorem ZJd (s:Sc) (l:List Rw) (H:Zaa) (he:scE s=0) (hl:l.length<=300) (hw:∀x∈l,x.terms.length=s.dims.length/\x.vals.length=s.meas.length) (hsm:Zh1 s):Zay Tryz.prog 44 [.agg (eSc s),.sl .no (rR l)] H (Pure H (.i (ZHy s l))):=by
 obtain⟨e0,e1,e2,e3⟩:=ZbB s
 have hsc:=fun H=>Zc9 s H hsm
 rw[he]at hsc
 have d0:((0:Int) != 0)=false:=rfl
 have d3:decide (((l.length:Nat):Int) > 300)=false:=by rw[decide_eq_false_iff_not];omega
 have hx0:Zaa.Ext H H:=.refl _
 refine fnQ cf44 fun Q qr qn=>?_
 refine Bz1 (X2 e0 e3) ?_
 refine qcp (hsc _) fun k1=>?_
 refine Bz3 (X2 d0 d3) ?_
 refine ZbJ (N:=l.length) (fun k F G=>Fr.get F 20=.i (k:Int)/\Fr.get F 19=.i (l.length:Nat)/\Fr.get F 18=.sl .no (rR l)/\Fr.get F 2=.ptr H.next 0/\(l.take k).all (fun x=>ZHw s.dims x.terms)=true/\Zaa.Ext H G/\G.get H.next=some (.cells (eSc s) 25)) Xd (fun k F G h=>⟨h.1,h.2.1⟩) (GStep.refl _ _) ⟨rfl,rfl,rfl,rfl,rfl,xX,by rw[Zaa.ZaB];exact Zaa.Zae⟩ ?_ ?_
 ·rintro k F G hk ⟨f20,f19,f18,f2,hal,hx,g2⟩
  have hz:(0:Int)<=(k:Int):=Xa
  have hr:=ZKb hk
  have htk:(l.take (k+1)).all (fun x=>ZHw s.dims x.terms)=ZHw s.dims l[k].terms:=by
   rw[zae hk,zbt,hal];simp
  have hlk:l.all (fun x=>ZHw s.dims x.terms)=true->ZHw s.dims l[k].terms=true:=fun h=>zaA.1 h _ (zah hk)
  obtain⟨h1,h2⟩:=hw _ (zah hk)
  generalize l[k]=x at *
  obtain⟨a0,a1,a2,a3⟩:=ZHD x
  have hrow:=fun H=>ZKw s x H he h1 h2
  have hw1:=ZCE (s:=k) Xa
  have l2:=Zaa.lt g2
  skip
  refine Bz1 (X11 f20 f19 f18 f2 g2 hz hr e0 e3 a0 a3) ?_
  refine Zap.use (hrow _) ?_
  rintro _ _ ⟨ps,rfl,k1,rfl⟩
  by_cases hok:ZHw s.dims x.terms=true
  ·have he0:ZHC s x=0:=by unfold ZHC;rw[if_pos hok]
   refine Bz1 (X7 f20 f19 f18 f2 he0 d0 hw1) ?_
   exact⟨by rw[htk];exact hok,xX,g2⟩
  ·have he0:ZHC s x=13:=by unfold ZHC;rw[if_neg hok]
   have hv:ZHy s l=13:=by unfold ZHy;rw[if_neg fun h=>hok (hlk h)]
   have d13:((13:Int) != 0)=true:=rfl
   rw[hv]at qr qn
   refine Bz1 (X6 f20 f19 f18 f2 he0 d13) ?_
   exact ZaW xX rfl
 ·rintro F G ⟨f20,f19,f18,f2,hal,hx,g2⟩
  rw[zaq]at hal
  have hv:ZHy s l=0:=by unfold ZHy;rw[if_pos hal]
  rw[hv]at qr qn
  skip
  refine Bz0 ?_
  exact ZaW xX rfl
open Go.RowKit Go.Lib
abbrev zW:List AV:=[.sl .full [],.sl .full []]
theorem wkn_rwa (ts:List Tx) (vs:List Int) (t1 t2:Tok):Wkn (.agg [.sl t1 (rS ts),.sl t2 (rI vs)]) (.agg (eRw ⟨ts,vs⟩)):=.agg _ _ rfl (wkn_rw ts vs t1 t2)
theorem ZKo {E:Zaa} {id:Nat} {S:Tx} {k:Nat} {b:Tx} {H:Zaa} {B:Prop} (s:Sc) (hnd:s.dims.length<=1000) (hnm:s.meas.length<=1000) (h:RdS E id S k b H) (hB:gRw s.dims.length s.meas.length b=none->B):Zay (RP E id S B) 43 [.ptr id 0,.agg (eSc s)] H (RdQ E id S H (gRw s.dims.length s.meas.length b) fun x=>.agg (eRw x)):=by
 have hid:=Zaa.lt h.g
 obtain⟨e0,e1,e2,e3⟩:=ZbB s
 unfold gRw at hB ⊢
 have fin:∀{G':Zaa} {ts:List Tx} {vs:List Int} {t1 t2:Tok} {r:Tx} {o:Option (Rw×Tx)},o=some (⟨ts,vs⟩,r)->RdX E id S r H G'->∃r2 H2,Zb6 (.agg [.sl t1 (rS ts),.sl t2 (rI vs)]) G' r2 H2/\RdQ E id S H o (fun x=>.agg (eRw x)) r2 H2:=fun ho hX=>ZIp ho (wkn_rwa _ _ _ _) hX
 have hX:=RdX.alloc (o:=.cells zW 53) hid (RdX.alloc (o:=.cells zW 53) hid (RdX.alloc (o:=.cells (eSc s) 25) hid (ZIj h)))
 have g3:(((H.alloc (.cells (eSc s) 25)).alloc (.cells zW 53)).alloc (.cells zW 53)).get H.next=some (.cells (eSc s) 25):=by rw[Zaa.Zag Xe,Zaa.Zag Xe];exact Zaa.Zae
 have g4:(((H.alloc (.cells (eSc s) 25)).alloc (.cells zW 53)).alloc (.cells zW 53)).get (H.next+1)=some (.cells zW 53):=by rw[Zaa.Zag Xe];exact Zaa.Zat xN
 have g5:(((H.alloc (.cells (eSc s) 25)).alloc (.cells zW 53)).alloc (.cells zW 53)).get (H.next+2)=some (.cells zW 53):=Zaa.Zat xN
 generalize hoo:ZHu (fun _=>gMem) s.dims.length [] b=oo at *
 have hB0:=hB
 have hB:oo=none->B:=fun e=>hB0 (by rw[e])
 refine fnQ cf43 fun Q qr qn=>?_
 refine Bz3 (X4 e0 e1 e2 e3) ?_
 refine ZbJ (N:=s.dims.length) (fun i F G'=>Fr.get F 10=.i (i:Int)/\Fr.get F 9=.i (s.dims.length:Nat)/\Fr.get F 0=.ptr id 0/\Fr.get F 3=.ptr H.next 0/\Fr.get F 4=.ptr (H.next+1) 0/\Fr.get F 5=.ptr (H.next+2) 0/\∃acc tok r,acc.length=i/\ZHu (fun _=>gMem) (s.dims.length - i) acc r=oo/\G'.get H.next=some (.cells (eSc s) 25)/\G'.get (H.next+1)=some (.cells zW 53)/\G'.get (H.next+2)=some (.cells [.sl tok (rS acc),.sl .full []] 53)/\ZCe (H.next+3) G' 9 1 i tok/\RdX E id S r H G') Xd (fun k F G h=>⟨h.1,h.2.1⟩) (GStep.refl _ _) ⟨rfl,rfl,rfl,rfl,rfl,rfl,[],.full,b,rfl,hoo,g3,g4,g5,.inl rfl,hX⟩ ?_ ?_
 ·rintro i F G' hi ⟨fi,fN,f0,f3,f4,f5,acc,tok,r,hal,hro,q3,q4,q5,hT,hX⟩
  rw[show s.dims.length - i=(s.dims.length - (i+1))+1 by omega,ZHE]at hro
  have hXc:=hX
  obtain⟨⟨k1,h1⟩,hnx1,hold1⟩:=hXc
  have hw:=ZCE (s:=i) Xa
  skip
  refine Bz1 (X6 fi fN f0 f3 f4 f5) ?_
  refine Zap.use (ZHB 16 Xa h1 fun e=>hB (by rw[<- hro];unfold gMem;rw[e])) ?_
  rintro _ G5 ⟨x,r2,hx,rfl,hX5⟩
  have hmx:gMem r=if isT x=true then some (x,r2) else none:=by unfold gMem;rw[hx]
  rw[hmx]at hro
  have hX'0:=hX.trans hX5
  have hXc:=hX5
  obtain⟨⟨k5,h5⟩,hnx5,hold5⟩:=hXc
  have dE:((0:Int) == 0)=true:=rfl
  have d2:((2:Int) == 0)=false:=rfl
  have hck:=fun H=>(Zhs x H).up (pan:=(RP E id S B).pan)
  rcases bfb (isT x)with hit|hit
  ·rw[hit]at hck hro
   have hck:∀H,Zay (RP E id S B) 87 [eS x] H (Pure H (.i 2)):=hck
   have hro:none=oo:=hro
   refine Bz1 (X6 fi fN f0 f3 f4 f5) ?_
   refine qcp (hck _) fun k6=>?_
   refine Bz1 (X7 fi fN f0 f3 f4 f5 d2) ?_
   exact Zap.use (ZHV 3 (h5.bump k6) (hB hro.symm)) fun _ _ h=>h.elim
  rw[hit]at hck hro
  have hck:∀H,Zay (RP E id S B) 87 [eS x] H (Pure H (.i 0)):=hck
  have hro:ZHu (fun _=>gMem) (s.dims.length - (i+1)) (acc++[x]) r2=oo:=hro
  refine Bz1 (X6 fi fN f0 f3 f4 f5) ?_
  refine qcp (hck _) fun k6=>?_
  refine Bz1 (X7 fi fN f0 f3 f4 f5 dE) ?_
  refine qcp (ZHM 3 (h5.bump k6)) fun k7=>?_
  have hX':=(hX'0.post (n:=k6)).post (n:=k7)
  have hold5:∀j o,j≠id->G'.get j=some o->((G5.bump k6).bump k7).get j=some o:=fun j o hj hg=>by rw[Zaa.ZaB,Zaa.ZaB];exact hold5 j o hj hg
  generalize (G5.bump k6).bump k7=G6 at *
  have hrl:(rS acc).length=i:=by simp[hal]
  have hall:ZaE 1 (rS acc)=true:=ZaU (f:=fun x:Tx=>[eS x]) (sz:=1) (fun _=>rfl) _
  have hm1:i+1<=maxLen:=ZAp Xa
  have hm2:(i+1) * 16<=140737488355328:=Xa
  have hsn:rS acc++[[eS x]]=rS (acc++[x]):=Xc
  generalize hR1:rS (acc++[x])=R1 at *
  generalize hR0:rS acc=R0 at *
  have hal2:ZaE 1 [[eS x]]=true:=rfl
  have p3:=hold5 _ _ Xa q3
  have p4:=hold5 _ _ Xa q4
  have p5:=hold5 _ _ Xa q5
  have l3:=Zaa.lt p3
  have l4:=Zaa.lt p4
  have l5:=Zaa.lt p5
  have hnx5:=hX'.2.1
  rcases hT with rfl|⟨t',ht',rfl,hgt⟩
  ·refine Bz1 (X12 fi fN f0 f3 f4 f5 p5 hrl hall hal2 hm1 (X3 hm2 hsn hw)) ?_
   exact⟨acc++[x],.own G6.next,r2,by simp[hal],hro,by first|exact p3|(rw[Zaa.Zah Xa,Zaa.Zag Xa];exact p3),by first|exact p4|(rw[Zaa.Zah Xa,Zaa.Zag Xa];exact p4),by rw[hR1],.inr ⟨G6.next,Xa,rfl,by rw[Zaa.Zah Xa];exact Zaa.Zae⟩,RdX.set hid Xa (RdX.alloc hid hX')⟩
  ·have hgt5:=hold5 t' _ Xa hgt
   have nt5:t'≠H.next+2:=Xa
   have lt5:=Zaa.lt hgt5
   refine Bz1 (X12 fi fN f0 f3 f4 f5 p5 hgt5 hrl hall hal2 (X4 hm1 hm2 hsn hw)) ?_
   exact⟨acc++[x],.own t',r2,by simp[hal],hro,by first|exact p3|(rw[Zaa.Zah Xa,Zaa.Zah Xa];exact p3),by first|exact p4|(rw[Zaa.Zah Xa,Zaa.Zah Xa];exact p4),by rw[hR1],.inr ⟨t',ht',rfl,by rw[Zaa.Zah Xa];exact Zaa.Zal lt5⟩,RdX.set hid Xa (RdX.set hid Xa hX')⟩
 ·rintro F G2 ⟨fi,fN,f0,f3,f4,f5,ts,td,r2,hdl,hro,q3,q4,q5,hTd,hX⟩
  rw[zaY,ZHu]at hro
  subst hro
  simp only at hB0 qr qn
  clear hB
  generalize hoo2:ZHu (fun _=>gInt) s.meas.length [] r2=oo at *
  have hB:oo=none->B:=fun e=>hB0 (by rw[e])
  skip
  refine Bz3 (X9 f0 f3 f4 f5 q3 e0 e1 e2 e3) ?_
  refine ZbJ (N:=s.meas.length) (fun i F G'=>Fr.get F 29=.i (i:Int)/\Fr.get F 28=.i (s.meas.length:Nat)/\Fr.get F 0=.ptr id 0/\Fr.get F 3=.ptr H.next 0/\Fr.get F 4=.ptr (H.next+1) 0/\Fr.get F 5=.ptr (H.next+2) 0/\∃acc tok r,acc.length=i/\ZHu (fun _=>gInt) (s.meas.length - i) acc r=oo/\G'.get H.next=some (.cells (eSc s) 25)/\G'.get (H.next+1)=some (.cells zW 53)/\G'.get (H.next+2)=some (.cells [.sl td (rS ts),.sl tok (rI acc)] 53)/\ZCe (H.next+3) G' 2 1 i tok/\RdX E id S r H G') Xd (fun k F G h=>⟨h.1,h.2.1⟩) (GStep.refl _ _) ⟨rfl,rfl,by simpa [Fr.get] using f0,by simpa [Fr.get] using f3,by simpa [Fr.get] using f4,by simpa [Fr.get] using f5,[],.full,r2,rfl,hoo2,q3,q4,q5,.inl rfl,hX⟩ ?_ ?_
  ·rintro i F G' hi ⟨fi,fN,f0,f3,f4,f5,acc,tok,r,hal,hro,q3,q4,q5,hT,hX⟩
   rw[show s.meas.length - i=(s.meas.length - (i+1))+1 by omega,ZHE]at hro
   have hXc:=hX
   obtain⟨⟨k1,h1⟩,hnx1,hold1⟩:=hXc
   have hw:=ZCE (s:=i) Xa
   skip
   refine Bz1 (X7 fi fN f0 f3 f4 f5 q5) ?_
   refine Zap.use (ZJC h1 fun e=>hB (by rw[<- hro,e])) ?_
   rintro _ G6 ⟨x,r2,hx,rfl,hX5⟩
   rw[hx]at hro
   simp only at hro
   have hX':=hX.trans hX5
   have hold5:=hX5.2.2
   have hrl:(rI acc).length=i:=by simp[hal]
   have hall:ZaE 1 (rI acc)=true:=ZaU (f:=fun x:Int=>[AV.i x]) (sz:=1) (fun _=>rfl) _
   have hm1:i+1<=maxLen:=ZAp Xa
   have hm2:(i+1) * 8<=140737488355328:=Xa
   have hsn:rI acc++[[AV.i x]]=rI (acc++[x]):=Xc
   generalize hR1:rI (acc++[x])=R1 at *
   generalize hR0:rI acc=R0 at *
   have hal2:ZaE 1 [[AV.i x]]=true:=rfl
   have p3:=hold5 _ _ Xa q3
   have p4:=hold5 _ _ Xa q4
   have p5:=hold5 _ _ Xa q5
   have l3:=Zaa.lt p3
   have l4:=Zaa.lt p4
   have l5:=Zaa.lt p5
   have hnx5:=hX'.2.1
   rcases hT with rfl|⟨t',ht',rfl,hgt⟩
   ·refine Bz1 (X12 fi fN f0 f3 f4 f5 p5 hrl hall hal2 hm1 (X3 hm2 hsn hw)) ?_
    exact⟨acc++[x],.own G6.next,r2,by simp[hal],hro,by first|exact p3|(rw[Zaa.Zah Xa,Zaa.Zag Xa];exact p3),by first|exact p4|(rw[Zaa.Zah Xa,Zaa.Zag Xa];exact p4),by rw[hR1],.inr ⟨G6.next,Xa,rfl,by rw[Zaa.Zah Xa];exact Zaa.Zae⟩,RdX.set hid Xa (RdX.alloc hid hX')⟩
   ·have hgt5:=hold5 t' _ Xa hgt
    have nt5:t'≠H.next+2:=Xa
    have lt5:=Zaa.lt hgt5
    refine Bz1 (X12 fi fN f0 f3 f4 f5 p5 hgt5 hrl hall hal2 (X4 hm1 hm2 hsn hw)) ?_
    exact⟨acc++[x],.own t',r2,by simp[hal],hro,by first|exact p3|(rw[Zaa.Zah Xa,Zaa.Zah Xa];exact p3),by first|exact p4|(rw[Zaa.Zah Xa,Zaa.Zah Xa];exact p4),by rw[hR1],.inr ⟨t',ht',rfl,by rw[Zaa.Zah Xa];exact Zaa.Zal lt5⟩,RdX.set hid Xa (RdX.set hid Xa hX')⟩
  ·rintro F G4 ⟨fi,fN,f0,f3,f4,f5,vs,tm,r4,hml,hro,q3,q4,q5,hTm,hX⟩
   rw[zaY,ZHu]at hro
   subst hro
   have l4:=Zaa.lt q4
   simp only at qr qn
   skip
   refine Bz1 (X6 f0 f3 f4 f5 q4 q5) ?_
   exact fin rfl (RdX.set hid Xa hX)
open Go.RowKit Go.Lib
theorem RdS.set {E:Zaa} {id k j:Nat} {S b:Tx} {H:Zaa} {o:Zb3} (h:RdS E id S k b H) (hj:j≠id) (he:E.next<=j):RdS E id S k b (H.set j o) :=
 ⟨h.kl,h.bd,by rw[Zaa.Zah (Ne.symm hj)];exact h.g,h.l,h.x.set he,h.lo⟩
def RwsN (E:Zaa) (i7:Nat) (s:Sc) (b:Tx) (at':Int) (H2:Zaa):Prop:=∃l r tok,gRws s.dims.length s.meas.length b=some (l,r)/\r.length<=b.length/\(∃k:Nat,at'=(k:Int)/\k=b.length - r.length)/\H2.get i7=some (.cells [.sl tok (rR l)] 47)/\Zaa.Ext E H2
theorem btk_in (s:Sc) (b:Tx) (E H:Zaa) (i2 i7:Nat) (hl:b.length<=100000) (hnd:s.dims.length<=1000) (hnm:s.meas.length<=1000) (hEx:Zaa.Ext E H) (h7:E.next<=i7) (g2:E.get i2=some (.cells (eSc s) 25)) (g7:H.get i7=some (.cells [.sl .full []] 47)) :
  Zay (RP E H.next b (gRws s.dims.length s.meas.length b=none)) 41 [.ptr H.next 0,.ptr i7 0,.ptr i2 0] (H.alloc (rdO ⟨b.toArray⟩ 0 true)) fun _ H2=>rdRet H.next ⟨b.toArray⟩ (RwsN E i7 s b) H2:=by
 have hS:=RdS.start (S:=b) hEx hl
 obtain⟨e0,e1,e2,e3⟩:=ZbB s
 have l7:=Zaa.lt g7
 have l2:=Zaa.lt g2
 have hne:=hEx.next
 have g7:(H.alloc (rdO ⟨b.toArray⟩ 0 true)).get i7=some (.cells [.sl .full []] 47):=by rw[Zaa.Zag Xa];exact g7
 generalize hBB:(gRws s.dims.length s.meas.length b=none)=B at *
 have hB:gRws s.dims.length s.meas.length b=none->B:=fun h=>by rw[<- hBB];exact h
 have hU:gRws s.dims.length s.meas.length b=match gNum 300 b with
  | some (n,r)=>ZHu (fun _=>gRw s.dims.length s.meas.length) n [] r
  | none=>none:=by unfold gRws;rfl
 unfold RwsN
 generalize gRws s.dims.length s.meas.length b=og at *
 clear hBB
 have hid:H.next<(H.alloc (rdO ⟨b.toArray⟩ 0 true)).next:=by simp only[nx];omega
 generalize H.alloc (rdO ⟨b.toArray⟩ 0 true)=H1 at *
 refine fnQ cf41 fun Q qr qn=>?_
 refine Bz0 ?_
 refine Zap.use (ZHq 300 Xa hS fun e=>hB (by rw[hU,e])) ?_
 rintro _ G ⟨n,r0,hn,rfl,hX⟩
 have hn3:=(ZHr hn).1
 rw[hn]at hU
 have hU:og=ZHu (fun _=>gRw s.dims.length s.meas.length) n [] r0:=hU
 have g7:=hX.2.2 _ _ Xa g7
 obtain⟨⟨k0,h0⟩,hnx0,_⟩:=hX
 refine Bz0 ?_
 refine ZbJ (N:=n) (fun i F G'=>Fr.get F 6=.i (i:Int)/\Fr.get F 5=.i (n:Nat)/\Fr.get F 0=.ptr H.next 0/\Fr.get F 1=.ptr i7 0/\Fr.get F 2=.ptr i2 0/\∃acc tok r k,acc.length=i/\ZHu (fun _=>gRw s.dims.length s.meas.length) (n - i) acc r=og/\G'.get i7=some (.cells [.sl tok (rR acc)] 47)/\ZCe (H.next+1) G' 53 2 i tok/\H.next+1<=G'.next/\RdS E H.next b k r G') Xd (fun k F G h=>⟨h.1,h.2.1⟩) (GStep.refl _ _) ⟨rfl,rfl,rfl,rfl,rfl,[],.full,r0,k0,rfl,hU.symm,g7,.inl rfl,Xa,h0⟩ ?_ ?_
 ·rintro i F G' hi ⟨f6,f5,f0,f1,f2,acc,tok,r,k,hal,hro,q7,hT,hnx,hR⟩
  rw[show n - i=(n - (i+1))+1 by omega,ZHE]at hro
  have q2:=hR.x.get _ _ g2
  have hw:=ZCE (s:=i) Xa
  have lq2:=Zaa.lt q2
  have lq7:=Zaa.lt q7
  skip
  refine Bz1 (X9 f6 f5 f0 f1 f2 q2 q7 e0 e3) ?_
  refine Zap.use (ZKo s hnd hnm hR fun e=>hB (by rw[<- hro,e])) ?_
  rintro _ G5 ⟨x,r2,hx,rfl,hX5⟩
  rw[hx]at hro
  simp only at hro
  have p7:=hX5.2.2 _ _ Xa q7
  have p2:=hX5.2.2 _ _ Xa q2
  obtain⟨⟨k5,h5⟩,hnx5,hold5⟩:=hX5
  have hrl:(rR acc).length=i:=by simp[hal]
  have hall:ZaE 2 (rR acc)=true:=ZaU (f:=eRw) (sz:=2) (fun _=>rfl) _
  have hm1:i+1<=maxLen:=ZAp Xa
  have hm2:(i+1) * 48<=140737488355328:=Xa
  have hsn:rR acc++[eRw x]=rR (acc++[x]):=Xc
  generalize hR1:rR (acc++[x])=R1 at *
  generalize hR0:rR acc=R0 at *
  have hal2:ZaE 2 [eRw x]=true:=rfl
  obtain⟨a0,a1,a2,a3⟩:=ZHD x
  have l7:=Zaa.lt p7
  rcases hT with rfl|⟨t',ht',rfl,hgt⟩
  ·refine Bz1 (X12 f6 f5 f0 f1 f2 p7 p2 a0 a1 a2 a3 (X7 hrl hall hal2 hm1 hm2 hsn hw)) ?_
   exact⟨acc++[x],.own G5.next,r2,k5,by simp[hal],hro,by rw[hR1],.inr ⟨G5.next,Xa,rfl,by rw[Zaa.Zah Xa];exact Zaa.Zae⟩,Xa,RdS.set (RdS.alloc h5 _) Xa h7⟩
  ·have hgt5:=hold5 t' _ Xa hgt
   have nt5:t'≠i7:=Xa
   have lt5:=Zaa.lt hgt5
   refine Bz1 (X12 f6 f5 f0 f1 f2 p7 p2 hgt5 a0 a1 a2 (X8 a3 hrl hall hal2 hm1 hm2 hsn hw)) ?_
   exact⟨acc++[x],.own t',r2,k5,by simp[hal],hro,by rw[hR1],.inr ⟨t',ht',rfl,by rw[Zaa.Zah Xa];exact Zaa.Zal lt5⟩,Xa,RdS.set (RdS.set h5 Xa Xa) Xa h7⟩
 ·rintro F G' ⟨f6,f5,f0,f1,f2,acc,tok,r,k,hal,hro,q7,hT,hnx,hR⟩
  rw[zaY,ZHu]at hro
  have hlen:=hR.len
  skip
  refine Bz0 ?_
  exact Zaq (ZKP hR rfl fun hk=>⟨acc,r,tok,hro.symm,Xa,⟨k,rfl,hk⟩,q7,hR.x⟩)
theorem ZLj (s:Sc) (b:Tx) (H:Zaa) (hl:b.length<=100000) (hsm:Zh1 s):Zay Tryz.prog 14 [.agg (eSc s),eS b] H (ZJj (rowsR s b) H):=by
 obtain⟨e0,e1,e2,e3⟩:=ZbB s
 have hsc:=fun H=>Zc9 s H hsm
 have hx0:Zaa.Ext H H:=.refl _
 by_cases he:scE s=0
 ·rw[he]at hsc
  have d0:((0:Int) != 0)=false:=rfl
  have dE:((0:Int) == 0)=true:=rfl
  obtain⟨hl1,_,hl2,_⟩:=ZCV he
  refine fnQ cf14 fun Q qr qn=>?_
  refine Bz1 (X2 e0 e3) ?_
  refine qcp (hsc _) fun k1=>?_
  refine Bz1 (X1 d0) ?_
  obtain⟨E,hEx⟩:∃E,E=(H.alloc (.cells (eSc s) 25)).bump k1:=⟨_,rfl⟩
  have g2:E.get H.next=some (.cells (eSc s) 25):=by rw[hEx,Zaa.ZaB];exact Zaa.Zae
  have hxE:Zaa.Ext H E:=by rw[hEx];exact hx0.alloc.bump
  have hEn:E.next=H.next+1+k1:=by rw[hEx];simp only[nx]
  rw[<- hEx]
  have hin:=btk_in s b E (E.alloc (.cells [.sl .full []] 47)) H.next E.next hl Xa Xa (Zaa.Ext.refl E).alloc (zad _) g2 Zaa.Zae
  have hall:=Zw3 ⟨b.toArray⟩ (by show b.toArray.size<=maxLen;rw[zaP];unfold maxLen;omega) 41 [] [.ptr E.next 0,.ptr H.next 0] (E.alloc (.cells [.sl .full []] 47)) (RwsN E E.next s b) (fun ev H2=>ev≠0/\gRws s.dims.length s.meas.length b=none/\Zaa.Ext E H2) hin
  rw[<- hEn]
  refine Zap.use hall ?_
  rintro v G ⟨H2,at',hg,rfl,hc⟩
  simp only[nx]at hg ⊢
  rcases hc with⟨⟨l,r,tok,hs,hrl,⟨k,rfl,hk⟩,p7,hx2⟩,rfl⟩|⟨ev,⟨hev,hno,hx2⟩,rfl⟩
  ·rw[ZJP hrl hk]
   have p2:=hx2.get _ _ g2
   have hxH:=hxE.trans hx2
   by_cases hr:r=[]
   ·subst hr
    obtain⟨hll,_,hrws⟩:=ZKN hs
    have hck:=fun H=>ZJd s l H he hll (fun x hx=>⟨(hrws x hx).ts,(hrws x hx).vs⟩) hsm
    rw[ZIJ he hs]at qr qn
    unfold ZHy at hck
    rw[if_pos rfl]
    refine Bz1 (X5 dE p2 p7 e0 e3) ?_
    by_cases hok:l.all (fun x=>ZHw s.dims x.terms)=true
    ·rw[if_pos hok]at qr qn
     have hck:∀H,Zay Tryz.prog 44 [.agg (eSc s),.sl .no (rR l)] H (Pure H (.i 0)):=fun H=>by have:=hck H;rw[if_pos hok]at this;exact this
     refine qcp (ZHW (Zfm _ _) (hck _)) fun k4=>?_
     refine Bz1 (X2 d0 p7) ?_
     exact ZJ8 rfl (R0:=rR l) ⟨rfl,fun i r r' h1 h2=>by rw[h1]at h2;injection h2 with h2;subst h2;exact⟨rfl,fun j x y h3 h4=>by rw[h3]at h4;injection h4 with h4;subst h4;exact .refl _⟩⟩ xX
    ·rw[if_neg hok]at qr qn
     have hck:∀H,Zay Tryz.prog 44 [.agg (eSc s),.sl .no (rR l)] H (Pure H (.i 13)):=fun H=>by have:=hck H;rw[if_neg hok]at this;exact this
     have d13:((13:Int) != 0)=true:=rfl
     refine qcp (ZHW (Zfm _ _) (hck _)) fun k4=>?_
     refine Bz1 (X1 d13) ?_
     exact ZH8 rfl Xb xX
   ·have d3:((3:Int) != 0)=true:=rfl
    have d4:((3:Int) == 0)=false:=rfl
    rw[ZHU (.inr fun l' h=>by rw[hs]at h;injection h with h;injection h with h1 h2;exact hr h2)]at qr qn
    rw[if_neg hr]
    refine Bz1 (X2 d3 d4) ?_
    exact ZH8 rfl Xb xX
  ·obtain⟨d1,d2⟩:=ZHs hev
   have hxH:=hxE.trans hx2
   rw[ZHU (.inr fun l' h=>by rw[hno]at h;cases h)]at qr qn
   refine Bz1 (X2 d1 d2) ?_
   exact ZH8 rfl hev xX
 ·obtain⟨d1,_⟩:=ZHs he
  rw[ZHU (.inl he)]
  refine fnQ cf14 fun Q qr qn=>?_
  refine Bz1 (X2 e0 e3) ?_
  refine qcp (hsc _) fun k1=>?_
  refine Bz1 (X1 d1) ?_
  exact ZH8 rfl he xX
end Go.Proofs.YtdfgoekdlmkdfaaGreatDoor
