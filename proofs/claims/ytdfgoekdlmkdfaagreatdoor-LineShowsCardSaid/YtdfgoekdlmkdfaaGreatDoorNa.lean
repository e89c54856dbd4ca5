/- Texts of the walk. -/
import Derived.Test.YtdfgoekdlmkdfaaGreatDoorMz
namespace Go.Proofs.YtdfgoekdlmkdfaaGreatDoor
set_option linter.defProp false
set_option maxHeartbeats 64000000
set_option linter.unusedSimpArgs false
set_option linter.unusedVariables false
open Go.RowKit Go.Lib
theorem Zap.gen {P:Prg} {f:FuncId} {args:List AV} {H:Zaa} {K:AV->Zaa->Prop} {v:AV} (h:Zay P f args H (Pure H v)) (p:Zaa->Prop) (hp:∀k,p (H.bump k)) (k:∀G,p G->K v G):@Zap P f args H ⟨K⟩:=Zap.use h fun _ _ ⟨e,k1,eH⟩=>by
 subst e eH;exact k _ (hp k1)
theorem sTrm_eq {S:Tx} {acc:List Tx} {c:Sn} {w:Tx} {k:Nat} {q:Sn} {s t:Tx} (hw:ZGI [] acc=w) (h1:sNum S w.length c=(q,k)) {q2:Sn} (h2:sTxt S 16 q=(q2,s)) (ht:w.take k++s=t):sTrm S acc c=(ZHG q2 (tOk w t k) 3,t):=by
 unfold sTrm sTrm2
 rw[hw,h1,h2,ht]
theorem rows_any {Q:AEx->Fr->Zaa->Prop} {F:Fr} {H G:Zaa} {S:Tx} {c0:Sn} {r0 r1 n:Nat} {R:Sn×List Tx} (hS:S.length<=1000000) (hn:n<=1000) (hk0:c0.k<=S.length) (hR:ZHz (sTrm S) n c0 []=R)
  (h0:r0=H.next) (h1:r1=H.next+1) (hn0:H.next+2<=G.next) (hx0:Zaa.Ext H G) (hg0:G.get r0=some (.cells (eSn S c0) 109)) (hg1:G.get r1=some (.cells [eS [],.i 0,.i 0] 109))
  (f2:Fr.get F 2=.ptr r0 0) (f4:Fr.get F 4=.ptr r1 0) (f6:Fr.get F 6=.i (n:Int)) (f7:Fr.get F 7=.sl .full []) (f8:Fr.get F 8=eS []) (f9:Fr.get F 9=.i 0)
  (hQ:∀F' G' tok,Zaa.Ext H G'->G'.get r0=some (.cells (eSn S R.1) 109)->G'.get r1=some (.cells [eS [],.i 0,.i 0] 109)->Fr.get F' 2=.ptr r0 0->Fr.get F' 4=.ptr r1 0->Fr.get F' 7=.sl tok (rS R.2)->Q .normal F' G'):AW Tryz.prog c71_1 Q F G:=by
 have qr:=trivial
 have qn:=trivial
 refine ZBA (fun m F G=>∃i c acc tok,m+i=n/\acc.length=i/\(ZGI [] acc).length<=16 * i/\ZHz (sTrm S) m c acc=R/\c.k<=S.length/\Fr.get F 9=.i (i:Int)/\Fr.get F 6=.i (n:Int)/\Fr.get F 2=.ptr r0 0/\Fr.get F 4=.ptr r1 0/\Fr.get F 8=eS (ZGI [] acc)/\Fr.get F 7=.sl tok (rS acc)/\ZCe (H.next+2) G 9 1 i tok/\H.next+2<=G.next/\Zaa.Ext H G/\G.get r0=some (.cells (eSn S c) 109)/\G.get r1=some (.cells [eS [],.i 0,.i 0] 109)) n (GStep.refl _ _) ⟨0,c0,[],.full,rfl,rfl,by simp[ZGI],hR,hk0,f9,f6,f2,f4,f8,f7,.inl rfl,hn0,hx0,hg0,hg1⟩ ?_
 rintro m F G ⟨i,c,acc,tok,hm,hal,hwl,hRr,hck,f9,f6,f2,f4,f8,f7,hT,hnx,hx,hg0,hg1⟩
 obtain⟨k,e⟩:=c
 cases m with
 | zero =>
  have d1:decide ((i:Int)<(n:Int))=false:=by simp;omega
  rw[ZHz]at hRr
  subst hRr
  skip
  refine Bz1 (X4 f9 f6 f7 d1) ?_
  exact hQ _ _ tok hx hg0 hg1 (by simpa [Fr.get] using f2) (by simpa [Fr.get] using f4) (by simpa [Fr.get] using f7)
 | succ m =>
  have d1:decide ((i:Int)<(n:Int))=true:=by simp;omega
  by_cases he:e=0
  ·subst he
   have dE:((0:Int) == 0)=true:=rfl
   rw[ZHz,if_pos rfl]at hRr
   have hw:=ZCE (s:=i) Xa
   have hsn:∀t,rS acc++[[eS t]]=rS (acc++[t]):=fun t=>by simp
   have hrl:(rS acc).length=i:=by simp[hal]
   have hall:ZaE 1 (rS acc)=true:=ZaU (f:=fun s:Tx=>[eS s]) (sz:=1) (fun _=>rfl) _
   have hls:∀t,ZGI [] (acc++[t])=t:=fun t=>ZEL acc [] t
   have hm1:i+1<=maxLen:=ZAp Xa
   have hm2:(i+1) * 16<=140737488355328:=Xa
   generalize hW:ZGI [] acc=w at *
   obtain⟨q,a,h1⟩:∃q a,sNum S w.length ⟨k,0⟩=(q,a):=⟨_,_,rfl⟩
   obtain⟨q2,s,h2⟩:∃q2 s,sTxt S 16 q=(q2,s):=⟨_,_,rfl⟩
   obtain⟨t,ht⟩:∃t,w.take a++s=t:=⟨_,rfl⟩
   have hnum:=fun H=>ZHL S w.length ⟨k,0⟩ H hS hck Xa
   have hqk:=(ZHp S w.length ⟨k,0⟩).le hck
   have hcl:=ZHK S w.length ⟨k,0⟩
   rw[h1]at hnum hqk hcl
   have htx:=fun H=>ZH1 S 16 q H hS hqk Xa
   have hq2k:=(ZHx S 16 q).le hqk
   have hsl:=sTxt_len S 16 q
   rw[h2]at htx hq2k hsl
   have hqk:q.k<=S.length:=hqk
   have hcl:a<=w.length:=hcl
   have hsl:s.length<=16:=hsl
   rw[sTrm_eq hW h1 h2 ht]at hRr
   have hcz:(0:Int)<=(a:Int):=Xa
   have hctn:((a:Int)).toNat=a:=Xa
   have hc0:0<=a:=zas _
   have e1:=ZCa w a
   have htl:(w.take a).length<=w.length:=by rw[zau];omega
   have hml:(w.take a).length+s.length<=maxLen:=ZAp Xa
   have hap:=Zz9 (w.take a) s
   rw[ht]at hap
   have htl2:t.length<=16 * (i+1):=by rw[<- ht,zaa];omega
   have hra:=Zlh t
   have hak:=fun H=>Zpz w t H Xa Xa
   have hq3k:=ZI5 (is:=tOk w t a) (e:=3) hq2k
   generalize w.take a=wc at *
   have hsn:=hsn t
   have hls:=hls t
   generalize hR1:rS (acc++[t])=R1 at *
   generalize hR0:rS acc=R0 at *
   have hX:Zaa.Ext G G:=.refl _
   have hwt:∀b,b=tOk w t a->∀H,Zay Tryz.prog 66 [.agg (eSn S q2),.b b,.i 3] H (Pure H (.agg (eSn S (ZHG q2 (tOk w t a) 3)))):=fun b hb H=>by rw[<- hb];exact ZI6 S b q2 3 H
   generalize ZHG q2 (tOk w t a) 3=q3 at *
   skip
   refine Bz1 (X9 f9 f6 f2 f4 f8 f7 hg0 d1 dE) ?_
   refine qcp (hnum _) fun k1=>?_
   refine Bz1 (X7 f9 f6 f2 f4 f8 f7 YZp) ?_
   refine qcp (htx _) fun k2=>?_
   refine Bz6 (X12 f9 f6 f2 f4 f8 f7 hcz hctn hc0 hcl e1 (X2 hap hml)) ?_
   refine qcp (hra _) fun k3=>?_
   have h3:(isT t=true/\w<t)\/(isT t=true/\¬w<t)\/isT t=false:=by
    rcases bfb (isT t)with h|h
    ·exact .inr (.inr h)
    ·by_cases h2:w<t
     ·exact .inl ⟨h,h2⟩
     ·exact .inr (.inl ⟨h,h2⟩)
   rcases h3 with⟨hi1,hi2⟩|⟨hi1,hi2⟩|hi1
   case' inl =>
    have dn1:decide (t<w)=false:=decide_eq_false fun h=>absurd (zbG h hi2) (zbl _)
    have dn2:decide (t=w)=false:=decide_eq_false fun h=>by rw[h]at hi2;exact zbl _ hi2
    have hbb:(((ZB1 w t:Nat):Int) == (a:Int))=tOk w t a:=by
     unfold tOk
     rw[hi1,decide_eq_true hi2]
     by_cases h:ZB1 w t=a
     ·simp[h]
     ·rw[decide_eq_false h];simp;omega
    have hwt:=hwt _ hbb
    refine Bz1 (X12 f9 f6 f2 f4 f8 f7 hi1 dn1 dn2 bytesLess_eq Bool.or_self Bool.not_false) ?_
    refine qcp (hak _) fun k4=>?_
    refine Bz1 (X6 f9 f6 f2 f4 f8 f7) ?_
    refine Zap.gen (hwt _) (fun G5=>Zaa.Ext G G5) (fun k=>xX) ?_
   case' inr.inl =>
    have dn:(decide (t<w) || decide (t=w))=true:=by rw[tle];simp[hi2]
    have hwt:=hwt false (by unfold tOk;rw[hi1,decide_eq_false hi2];rfl)
    refine Bz1 (X10 f9 f6 f2 f4 f8 f7 hi1 dn bytesLess_eq zbO) ?_
    refine Zap.gen (hwt _) (fun G5=>Zaa.Ext G G5) (fun k=>xX) ?_
   case' inr.inr =>
    have hwt:=hwt false (by unfold tOk;rw[hi1];rfl)
    refine Bz1 (X7 f9 f6 f2 f4 f8 f7 hi1) ?_
    refine Zap.gen (hwt _) (fun G5=>Zaa.Ext G G5) (fun k=>xX) ?_
   all_goals
    intro G5 hx5
    have g0:=hx5.get _ _ hg0
    have g1:=hx5.get _ _ hg1
    have hxH:=hx.trans hx5
    have hn5:=hx5.next
    have hal2:ZaE 1 [[eS t]]=true:=rfl
    have hr05:=Zaa.lt g0
    rcases hT with rfl|⟨t',ht,rfl,hgt⟩
    ·refine Bz1 (X12 f9 f6 f2 f4 f8 f7 g0 hrl hall hal2 hm1 (X3 hm2 hsn hw)) ?_
     exact⟨m,Xa,i+1,q3,acc++[t],.own G5.next,Xa,by simp[hal],by rw[hls];exact htl2,hRr,hq3k,rfl,by rw[hls],by rw[hR1],.inr ⟨G5.next,Xa,rfl,Zaa.Zae⟩,Xa,(hxH.set Xa).alloc,rfl,g1⟩
    ·have hgt2:=hx5.get _ _ hgt
     have hgt3:(G5.set r0 (.cells (eSn S q3) 109)).get t'=some (.tok i 9 1):=by rw[Zaa.Zah Xa];exact hgt2
     refine Bz1 (X12 f9 f6 f2 f4 f8 f7 g0 hrl hall hal2 hm1 (X5 hm2 hsn hgt2 hgt3 hw)) ?_
     have hlt5:=Zaa.lt hgt2
     exact⟨m,Xa,i+1,q3,acc++[t],.own t',Xa,by simp[hal],by rw[hls];exact htl2,hRr,hq3k,rfl,by rw[hls],by rw[hR1],.inr ⟨t',ht,rfl,Zaa.Zal Xe⟩,Xa,(hxH.set Xa).set Xa,rfl,g1⟩
  ·obtain⟨_,dE⟩:=ZHs he
   rw[ZHP _ _ _ he]at hRr
   subst hRr
   skip
   refine Bz1 (X7 f9 f6 f2 f7 hg0 d1 dE) ?_
   exact hQ _ _ tok hx hg0 hg1 (by simpa [Fr.get] using f2) (by simpa [Fr.get] using f4) (by simpa [Fr.get] using f7)
theorem ZKL (S:Tx) (most:Nat) (c:Sn) (H:Zaa) (hS:S.length<=1000000) (hk:c.k<=S.length) (hm:most<=1000):Zay Tryz.prog 71 [.agg (eSn S c),.i (most:Int)] H (Pure H (.tup [.agg (eSn S (sRow S most c).1),.sl .no (rS (sRow S most c).2)])):=by
 have hnum:=fun H=>ZHL S most c H hS hk Xa
 have hqk:=(ZHp S most c).le hk
 have hle:=ZHK S most c
 unfold sRow
 generalize sNum S most c=p at *
 obtain⟨q,n⟩:=p
 have hle:n<=most:=hle
 have hx0:Zaa.Ext H H:=.refl _
 show Zay Tryz.prog 71 [.agg (eSn S c),.i (most:Int)] H (Pure H (.tup [.agg (eSn S (ZHz (sTrm S) n q []).1),.sl .no (rS (ZHz (sTrm S) n q []).2)]))
 generalize hR:ZHz (sTrm S) n q []=R
 refine fnQ cf71 fun Q qr qn=>?_
 refine Bz1 (X1 YZp) ?_
 refine qcp (hnum _) fun k1=>?_
 refine Bz1 (X1 YZp) ?_
 refine rows_any (H:=H) (c0:=q) (r0:=H.next) (r1:=H.next+1) (n:=n) (R:=R) hS Xa hqk hR rfl rfl Xe (((hx0.alloc.alloc.bump)).set (zad _)) (Zaa.Zal Xe) ?_ rfl rfl rfl rfl rfl rfl ?_
 ·rw[Zaa.Zah Xa,Zaa.ZaB];exact Zaa.Zat rfl
 ·intro F G tok hx g0 g1 f2 f4 f7
  have hlt1:=Zaa.lt g1
  refine Bz1 (X5 f2 f4 f7 g0 g1) ?_
  exact Zc1 (ZC5 (Zfm _ _)) (hx.set (Nat.le_succ _))
open Go.RowKit Go.Lib
theorem ups_any {Q:AEx->Fr->Zaa->Prop} {F:Fr} {H G:Zaa} {S name:Tx} {terms:List Tx} {c0:Sn} {a n r0 r1 r2 r3:Nat} {R:Sn×List Int} (hS:S.length<=1000000) (ha:a<=1000) (hn:terms.length=n) (ht:n<=1000) (hk0:c0.k<=S.length) (hR:sUps S a n c0=R)
  (h0:r0=H.next) (h1:r1=H.next+1) (h2:r2=H.next+2) (h3:r3=H.next+3) (hn0:H.next+4<=G.next) (hx0:Zaa.Ext H G) (hg0:G.get r0=some (.cells (eSn S c0) 109)) (hg1:G.get r1=some (.cells zR 109)) (hg2:G.get r2=some (.cells zT 42))
  (hg3:G.get r3=some (.cells [eS name,.sl .no (rS terms),.sl .full []] 42))
  (f1:Fr.get F 1=.i (a:Int)) (f2:Fr.get F 2=.ptr r0 0) (f4:Fr.get F 4=.ptr r1 0) (f5:Fr.get F 5=.ptr r2 0) (f6:Fr.get F 6=.ptr r3 0) (f7:Fr.get F 7=.i 0)
  (hQ:∀F' G' tok,Zaa.Ext H G'->G'.get r0=some (.cells (eSn S R.1) 109)->G'.get r1=some (.cells zR 109)->G'.get r2=some (.cells zT 42)->G'.get r3=some (.cells [eS name,.sl .no (rS terms),.sl tok (rI R.2)] 42) ->
   Fr.get F' 1=.i (a:Int)->Fr.get F' 2=.ptr r0 0->Fr.get F' 4=.ptr r1 0->Fr.get F' 5=.ptr r2 0->Fr.get F' 6=.ptr r3 0->Q .normal F' G'):AW Tryz.prog c157_1 Q F G:=by
 have qr:=trivial
 have qn:=trivial
 refine ZBA (fun m F G=>∃i c acc tok,m+i=n/\acc.length=i/\(if a=0 then (c,acc)=R else ZHz (fun _=>sNumI S (a - 1)) m c acc=R)/\c.k<=S.length/\Fr.get F 7=.i (i:Int)/\Fr.get F 1=.i (a:Int)/\Fr.get F 2=.ptr r0 0/\Fr.get F 4=.ptr r1 0/\Fr.get F 5=.ptr r2 0/\Fr.get F 6=.ptr r3 0/\ZCe (H.next+4) G 3 1 i tok/\H.next+4<=G.next/\Zaa.Ext H G/\G.get r0=some (.cells (eSn S c) 109)/\G.get r1=some (.cells zR 109)/\G.get r2=some (.cells zT 42)/\G.get r3=some (.cells [eS name,.sl .no (rS terms),.sl tok (rI acc)] 42)) n (GStep.refl _ _) ⟨0,c0,[],.full,rfl,rfl,by unfold sUps at hR;split<;>simp_all,hk0,f7,f1,f2,f4,f5,f6,.inl rfl,hn0,hx0,hg0,hg1,hg2,hg3⟩ ?_
 rintro m F G ⟨i,c,acc,tok,hm,hal,hRr,hck,f7,f1,f2,f4,f5,f6,hT,hnx,hx,hg0,hg1,hg2,hg3⟩
 obtain⟨k,e⟩:=c
 by_cases ha0:a=0
 ·rw[if_pos ha0]at hRr
  subst hRr
  have d0:decide ((a:Int) > 0)=false:=by simp;omega
  skip
  refine Bz1 (X3 f7 f1 d0) ?_
  exact hQ _ _ tok hx hg0 hg1 hg2 hg3 (by simpa [Fr.get] using f1) (by simpa [Fr.get] using f2) (by simpa [Fr.get] using f4) (by simpa [Fr.get] using f5) (by simpa [Fr.get] using f6)
 ·rw[if_neg ha0]at hRr
  have d0:decide ((a:Int) > 0)=true:=by simp;omega
  cases m with
  | zero =>
   have d1:decide ((i:Int)<(terms.length:Int))=false:=by rw[decide_eq_false_iff_not];omega
   rw[ZHz]at hRr
   subst hRr
   skip
   refine Bz3 (X6 f7 f1 f6 hg3 d0 d1) ?_
   exact hQ _ _ tok hx hg0 hg1 hg2 hg3 (by simpa [Fr.get] using f1) (by simpa [Fr.get] using f2) (by simpa [Fr.get] using f4) (by simpa [Fr.get] using f5) (by simpa [Fr.get] using f6)
  | succ m =>
   have d1:decide ((i:Int)<(terms.length:Int))=true:=by rw[decide_eq_true_iff];omega
   by_cases he:e=0
   ·subst he
    have dE:((0:Int) == 0)=true:=rfl
    rw[ZHz,if_pos rfl]at hRr
    have hw:=ZCE (s:=i) Xa
    have hwa:IntKind.i64.wrap ((a:Int) - 1)=((a - 1:Nat):Int):=by rw[Zaw Xa Xa];omega
    have hsn:∀n,rI acc++[[.i n]]=rI (acc++[n]):=fun n=>by simp
    have hrl:(rI acc).length=i:=by simp[hal]
    have hall:ZaE 1 (rI acc)=true:=ZaU (f:=fun n:Int=>[AV.i n]) (sz:=1) (fun _=>rfl) _
    have hm1:i+1<=maxLen:=ZAp Xa
    have hm2:(i+1) * 8<=140737488355328:=Xa
    have hnum:=fun H=>ZHL S (a - 1) ⟨k,0⟩ H hS hck Xa
    have hqk:=(ZHp S (a - 1) ⟨k,0⟩).le hck
    have he2:sNumI S (a - 1) ⟨k,0⟩=((sNum S (a - 1) ⟨k,0⟩).1,((sNum S (a - 1) ⟨k,0⟩).2:Int)):=rfl
    rw[he2]at hRr
    generalize sNum S (a - 1) ⟨k,0⟩=p at *
    obtain⟨q,x⟩:=p
    have hsn:=hsn x
    generalize hR1:rI (acc++[(x:Int)])=R1 at *
    generalize hR0:rI acc=R0 at *
    have hal2:ZaE 1 [[AV.i (x:Int)]]=true:=rfl
    skip
    refine Bz3 (X12 f7 f1 f2 f4 f5 f6 hg0 hg3 d0 d1 dE hwa) ?_
    refine qcp (hnum _) fun k1=>?_
    have l0:=Zaa.lt hg0
    have l3:=Zaa.lt hg3
    have n30:r3≠r0:=Xa
    rcases hT with rfl|⟨t',ht',rfl,hgt⟩
    ·refine Bz1 (X12 f7 f1 f2 f4 f5 f6 hg0 hg3 hrl hall hal2 (X5 hm1 hm2 hsn hw YZp)) ?_
     exact⟨m,Xa,i+1,q,acc++[(x:Int)],.own (G.next+k1+1),Xa,by simp[hal],by rw[if_neg ha0];exact hRr,hqk,rfl,.inr ⟨_,Xa,rfl,by rw[Zaa.Zah Xa];exact Zaa.Zat rfl⟩,Xa,((((hx.bump.alloc).set Xa).alloc).set Xa),rfl,hg1,hg2,by rw[hR1]⟩
    ·have lt':=Zaa.lt hgt
     refine Bz1 (X12 f7 f1 f2 f4 f5 f6 hg0 hg3 hgt hrl hall (X6 hal2 hm1 hm2 hsn hw YZp)) ?_
     exact⟨m,Xa,i+1,q,acc++[(x:Int)],.own t',Xa,by simp[hal],by rw[if_neg ha0];exact hRr,hqk,rfl,.inr ⟨t',ht',rfl,by rw[Zaa.Zah Xa];exact Zaa.Zal Xe⟩,Xa,((((hx.bump.alloc).set Xa).set Xa).set Xa),rfl,hg1,hg2,by rw[hR1]⟩
   ·obtain⟨_,dE⟩:=ZHs he
    rw[ZHP _ _ _ he]at hRr
    subst hRr
    skip
    refine Bz3 (X9 f7 f1 f2 f6 hg0 hg3 d0 d1 dE) ?_
    exact hQ _ _ tok hx hg0 hg1 hg2 hg3 (by simpa [Fr.get] using f1) (by simpa [Fr.get] using f2) (by simpa [Fr.get] using f4) (by simpa [Fr.get] using f5) (by simpa [Fr.get] using f6)
theorem ZKa (S:Tx) (most:Nat) (c:Sn):(sRow S most c).2.length<=most:=by
 have h1:=ZHK S most c
 have h2:=ZIs (sTrm S) (sNum S most c).2 (sNum S most c).1 []
 unfold sRow
 simp only[List.length_nil]at h2
 omega
theorem tir_any (S:Tx) (a:Nat) (c:Sn) (H:Zaa) (hS:S.length<=1000000) (ha:a<=1000) (hk:c.k<=S.length):Zay Tryz.prog 157 [.agg (eSn S c),.i (a:Int)] H (Pure H (.tup [.agg (eSn S (sTir S a c).1),.agg (eTr (sTir S a c).2)])):=by
 have htx:=fun H=>ZH1 S 12 c H hS hk Xa
 have hk1:=(ZHx S 12 c).le hk
 have hrow:=fun H=>ZKL S 200 (sTxt S 12 c).1 H hS hk1 Xa
 have hk2:=(ZI9 S 200 (sTxt S 12 c).1).le hk1
 have hrl:=ZKa S 200 (sTxt S 12 c).1
 have hul:=ZKc S a (sRow S 200 (sTxt S 12 c).1).2.length (sRow S 200 (sTxt S 12 c).1).1
 have hv:sTir S a c=ZIu (ZbO ⟨(sTxt S 12 c).2,(sRow S 200 (sTxt S 12 c).1).2,(sUps S a (sRow S 200 (sTxt S 12 c).1).2.length (sRow S 200 (sTxt S 12 c).1).1).2⟩ (a:Int)) ⟨(sTxt S 12 c).2,(sRow S 200 (sTxt S 12 c).1).2,(sUps S a (sRow S 200 (sTxt S 12 c).1).2.length (sRow S 200 (sTxt S 12 c).1).1).2⟩ (sUps S a (sRow S 200 (sTxt S 12 c).1).2.length (sRow S 200 (sTxt S 12 c).1).1).1:=rfl
 rw[hv]
 clear hv
 generalize sTxt S 12 c=p at *
 obtain⟨c1,nm⟩:=p
 simp only at *
 generalize sRow S 200 c1=p at *
 obtain⟨c2,l⟩:=p
 simp only at *
 generalize hR:sUps S a l.length c2=p at *
 obtain⟨⟨k3,e3⟩,u⟩:=p
 simp only at *
 have hx0:Zaa.Ext H H:=.refl _
 have hwr:=fun H=>Zjl ⟨nm,l,u⟩ (a:Int) H (by show u.length<=_;omega)
 generalize hT:(⟨nm,l,u⟩:Tir)=T at *
 generalize ZbO T (a:Int)=eT at *
 unfold ZIu
 refine fnQ cf157 fun Q qr qn=>?_
 refine Bz1 (X1 YZp) ?_
 refine qcp (htx _) fun k1=>?_
 refine Bz1 (X1 YZp) ?_
 refine qcp (hrow _) fun k2=>?_
 refine Bz1 (X1 YZp) ?_
 refine ups_any (H:=H) (c0:=c2) (a:=a) (n:=l.length) (R:=(⟨k3,e3⟩,u)) (name:=nm) (terms:=l) (r0:=H.next) (r1:=H.next+1) (r2:=H.next+1+1) (r3:=H.next+1+1+1) hS ha rfl Xa hk2 hR rfl rfl rfl rfl Xe ?_ xG xG xG xG rfl rfl rfl rfl rfl rfl ?_
 ·(repeat (first|assumption|exact Zaa.Ext.refl _|refine Zaa.Ext.set ?_ (by first|assumption|omega|(simp only[Zaf,Zai,Zam];omega))|refine Zaa.Ext.alloc ?_|refine Zaa.Ext.bump ?_))
 ·intro F G tok hx g0 g1 g2 g3 f1 f2 f4 f5 f6
  have l0:=Zaa.lt g0
  have l1:=Zaa.lt g1
  have l2:=Zaa.lt g2
  have l3:=Zaa.lt g3
  have hwk:Wkn (.agg [eS nm,.sl .no (rS l),.sl tok (rI u)]) (.agg (eTr T)):=by rw[<- hT];exact ZLn ⟨nm,l,u⟩ tok
  by_cases he:e3=0
  ·subst he
   have dE:((0:Int) == 0)=true:=rfl
   rw[if_pos rfl]at qr qn
   refine Bz1 (X8 f1 f2 f4 f5 f6 g0 g3 dE) ?_
   refine qcp (ZHa hwk (hwr _)) fun k3=>?_
   refine Bz1 (X9 f1 f2 f4 f5 f6 g0 g1 g2 g3) ?_
   exact Zc1 (ZC5 hwk) (((hx.bump.set (zad _)).set Xa).set Xa)
  ·obtain⟨_,dE⟩:=ZHs he
   rw[if_neg he]at qr qn
   refine Bz1 (X10 f1 f2 f4 f5 f6 g0 g1 g2 g3 dE) ?_
   exact Zc1 (ZC5 hwk) ((hx.set Xa).set Xa)
open Go.RowKit Go.Lib
def ZJO (t:Tir):Prop:=t.terms.length<=200/\t.up.length<=200
theorem ZIl (S:Tx) (a:Nat) (c:Sn):ZJO (sTir S a c).2:=by
 have h1:=ZKa S 200 (sTxt S 12 c).1
 have h2:=ZKc S a (sRow S 200 (sTxt S 12 c).1).2.length (sRow S 200 (sTxt S 12 c).1).1
 exact⟨h1,zaM h2 h1⟩
theorem ZKi {acc:List Tir} (h:∀t∈acc,ZJO t):ZHF acc<=200:=by
 unfold ZHF
 cases e:acc.getLast? with
 | none=>exact zas _
 | some t=>exact(h t (List.mem_of_getLast? e)).1
theorem ZIN (acc:List Tir) (t:Tir):ZHF (acc++[t])=t.terms.length:=by unfold ZHF;rw[List.getLast?_concat]
theorem ZKX {Q:AEx->Fr->Zaa->Prop} {F:Fr} {H G:Zaa} {S name:Tx} {c0:Sn} {n r0 r1 r2 r3:Nat} {R:Sn×List Tir} (hS:S.length<=1000000) (hn:n<=1000) (hk0:c0.k<=S.length) (hR:ZHz (fun acc=>sTir S (ZHF acc)) n c0 []=R)
  (h0:r0=H.next) (h1:r1=H.next+1) (h2:r2=H.next+2) (h3:r3=H.next+3) (hn0:H.next+4<=G.next) (hx0:Zaa.Ext H G) (hg0:G.get r0=some (.cells (eSn S c0) 109)) (hg1:G.get r1=some (.cells zR 109)) (hg2:G.get r2=some (.cells zD 39))
  (hg3:G.get r3=some (.cells [eS name,.sl .full []] 39))
  (f1:Fr.get F 1=.ptr r0 0) (f2:Fr.get F 2=.ptr r1 0) (f3:Fr.get F 3=.ptr r2 0) (f4:Fr.get F 4=.ptr r3 0) (f5:Fr.get F 5=.i (n:Int)) (f6:Fr.get F 6=.i 0) (f7:Fr.get F 7=.i 0)
  (hQ:∀F' G' tok,Zaa.Ext H G'->G'.get r0=some (.cells (eSn S R.1) 109)->G'.get r1=some (.cells zR 109)->G'.get r2=some (.cells zD 39)->G'.get r3=some (.cells [eS name,.sl tok (rT R.2.reverse)] 39) ->
   Fr.get F' 1=.ptr r0 0->Fr.get F' 2=.ptr r1 0->Fr.get F' 3=.ptr r2 0->Fr.get F' 4=.ptr r3 0->Q .normal F' G'):AW Tryz.prog c114_1 Q F G:=by
 have qr:=trivial
 have qn:=trivial
 refine ZBA (fun m F G=>∃i c acc tok,m+i=n/\acc.length=i/\(∀t∈acc,ZJO t)/\ZHz (fun acc=>sTir S (ZHF acc)) m c acc=R/\c.k<=S.length/\Fr.get F 7=.i (i:Int)/\Fr.get F 6=.i (ZHF acc:Nat)/\Fr.get F 5=.i (n:Int)/\Fr.get F 1=.ptr r0 0/\Fr.get F 2=.ptr r1 0/\Fr.get F 3=.ptr r2 0/\Fr.get F 4=.ptr r3 0/\H.next+4<=G.next/\Zaa.Ext H G/\G.get r0=some (.cells (eSn S c) 109)/\G.get r1=some (.cells zR 109)/\G.get r2=some (.cells zD 39)/\G.get r3=some (.cells [eS name,.sl tok (rT acc.reverse)] 39)) n (GStep.refl _ _) ⟨0,c0,[],.full,rfl,rfl,fun t h=>(by cases h),hR,hk0,f7,f6,f5,f1,f2,f3,f4,hn0,hx0,hg0,hg1,hg2,hg3⟩ ?_
 rintro m F G ⟨i,c,acc,tok,hm,hal,hsm,hRr,hck,f7,f6,f5,f1,f2,f3,f4,hnx,hx,hg0,hg1,hg2,hg3⟩
 obtain⟨k,e⟩:=c
 cases m with
 | zero =>
  have d1:decide ((i:Int)<(n:Int))=false:=by rw[decide_eq_false_iff_not];omega
  rw[ZHz]at hRr
  subst hRr
  skip
  refine Bz1 (X3 f7 f5 d1) ?_
  exact hQ _ _ tok hx hg0 hg1 hg2 hg3 (by simpa [Fr.get] using f1) (by simpa [Fr.get] using f2) (by simpa [Fr.get] using f3) (by simpa [Fr.get] using f4)
 | succ m =>
  have d1:decide ((i:Int)<(n:Int))=true:=by rw[decide_eq_true_iff];omega
  by_cases he:e=0
  ·subst he
   have dE:((0:Int) == 0)=true:=rfl
   rw[ZHz,if_pos rfl]at hRr
   have hw:=ZCE (s:=i) Xa
   have hla:=ZKi hsm
   have hrd:=fun H=>tir_any S (ZHF acc) ⟨k,0⟩ H hS Xa hck
   have hqk:=(ZKk S (ZHF acc) ⟨k,0⟩).le hck
   have hts:=ZIl S (ZHF acc) ⟨k,0⟩
   generalize hL:ZHF acc=a at *
   generalize sTir S a ⟨k,0⟩=p at *
   obtain⟨q,t⟩:=p
   have hts:ZJO t:=hts
   have hdr:eTr t :: rT acc.reverse=rT (acc++[t]).reverse:=by rw[List.reverse_append];rfl
   have hrl:(rT acc.reverse).length=i:=by simp[hal]
   have hall:ZaE 3 (rT acc.reverse)=true:=ZaU (f:=eTr) (sz:=3) (fun _=>rfl) _
   have hab:=ZIN acc t
   have hsm2:∀x∈acc++[t],ZJO x:=fun x hx=>by
    rcases zaj.1 hx with h|h
    ·exact hsm x h
    ·simp at h;rw[h];exact hts
   generalize hR1:rT (acc++[t]).reverse=R1 at *
   generalize hR0:rT acc.reverse=R0 at *
   obtain⟨e0,e1,e2,e3,e4⟩:=Zba t
   have l0:=Zaa.lt hg0
   have l3:=Zaa.lt hg3
   have n30:r3≠r0:=Xa
   skip
   refine Bz1 (X10 f7 f6 f5 f1 f2 f3 f4 hg0 d1 dE) ?_
   refine qcp (hrd _) fun k1=>?_
   have hal2:ZaE 3 [eTr t]=true:=rfl
   have hxE:Zaa.Ext H ((((((G.bump k1).alloc (.cells zR 109)).alloc (.cells zT 42)).set (G.next+k1) (.cells (eSn S q) 109)).set (G.next+k1+1) (.cells (eTr t) 42)).set r0 (.cells (eSn S q) 109)):=((((hx.bump.alloc).alloc).set Xa).set Xa).set Xa
   cases R0 with
   | nil =>
    have hq1:1+([]:List (List AV)).length<=maxLen:=ZAp Xc
    have hq3:1<=maxLen:=ZAp Xc
    have hq2:(1+([]:List (List AV)).length) * 64<=140737488355328:=Xc
    refine Bz3 (X12 f7 f6 f5 f1 f2 f3 f4 hg0 hg3 e0 e1 (X10 e2 e3 e4 hall hal2 hq1 hq2 hq3 hw YZp)) ?_
    exact⟨m,Xa,i+1,q,acc++[t],_,Xa,by simp[hal],hsm2,hRr,hqk,rfl,by rw[hab],Xa,hxE.set Xa,rfl,hg1,hg2,by rw[hR1,<- hdr]⟩
   | cons y R0 =>
    rw[List.length_cons]at hrl
    have hq1:1+(R0.length+1)<=maxLen:=ZAp Xa
    have hq2:(1+(R0.length+1)) * 64<=140737488355328:=Xa
    refine Bz5 (X12 f7 f6 f5 f1 f2 f3 f4 hg0 hg3 e0 e1 (X9 e2 e3 e4 hall hal2 hq1 hq2 hw YZp)) ?_
    exact⟨m,Xa,i+1,q,acc++[t],_,Xa,by simp[hal],hsm2,hRr,hqk,rfl,by rw[hab],Xa,hxE.alloc.set Xa,rfl,hg1,hg2,by rw[hR1,<- hdr]⟩
  ·obtain⟨_,dE⟩:=ZHs he
   rw[ZHP _ _ _ he]at hRr
   subst hRr
   skip
   refine Bz1 (X6 f7 f5 f1 hg0 d1 dE) ?_
   exact hQ _ _ tok hx hg0 hg1 hg2 hg3 (by simpa [Fr.get] using f1) (by simpa [Fr.get] using f2) (by simpa [Fr.get] using f3) (by simpa [Fr.get] using f4)
theorem dim_any (S:Tx) (c:Sn) (H:Zaa) (hS:S.length<=1000000) (hk:c.k<=S.length):Zay Tryz.prog 114 [.agg (eSn S c)] H (Pure H (.tup [.agg (eSn S (sDim S c).1),.agg (eDm (sDim S c).2)])):=by
 have htx:=fun H=>ZH1 S 12 c H hS hk Xa
 have hk1:=(ZHx S 12 c).le hk
 have hnum:=fun H=>ZHL S 4 (sTxt S 12 c).1 H hS hk1 Xa
 have hk2:=(ZHp S 4 (sTxt S 12 c).1).le hk1
 have hnl:=ZHK S 4 (sTxt S 12 c).1
 have hsm:=ZIc (f:=fun acc=>sTir S (ZHF acc)) (P:=ZJO) (fun acc c _=>ZIl S _ c) (sNum S 4 (sTxt S 12 c).1).2 (sNum S 4 (sTxt S 12 c).1).1 [] (fun t h=>by cases h)
 have hv:sDim S c=ZIu (Zdv ⟨(sTxt S 12 c).2,(ZHz (fun acc=>sTir S (ZHF acc)) (sNum S 4 (sTxt S 12 c).1).2 (sNum S 4 (sTxt S 12 c).1).1 []).2.reverse⟩) ⟨(sTxt S 12 c).2,(ZHz (fun acc=>sTir S (ZHF acc)) (sNum S 4 (sTxt S 12 c).1).2 (sNum S 4 (sTxt S 12 c).1).1 []).2.reverse⟩ (ZHz (fun acc=>sTir S (ZHF acc)) (sNum S 4 (sTxt S 12 c).1).2 (sNum S 4 (sTxt S 12 c).1).1 []).1:=rfl
 rw[hv]
 clear hv
 generalize sTxt S 12 c=p at *
 obtain⟨c1,nm⟩:=p
 simp only at *
 generalize sNum S 4 c1=p at *
 obtain⟨c2,n⟩:=p
 simp only at *
 generalize hR:ZHz (fun acc=>sTir S (ZHF acc)) n c2 []=p at *
 obtain⟨⟨k3,e3⟩,l⟩:=p
 simp only at *
 have hx0:Zaa.Ext H H:=.refl _
 have hwr:=fun H=>ZkC ⟨nm,l.reverse⟩ H (fun t ht=>by have:=(hsm t (by simpa using ht)).2;unfold Zgr;omega)
 generalize hD:(⟨nm,l.reverse⟩:Dm)=D at *
 generalize Zdv D=eD at *
 unfold ZIu
 refine fnQ cf114 fun Q qr qn=>?_
 refine Bz1 (X1 YZp) ?_
 refine qcp (htx _) fun k1=>?_
 refine Bz1 (X1 YZp) ?_
 refine qcp (hnum _) fun k2=>?_
 refine Bz1 (X1 YZp) ?_
 refine ZKX (H:=H) (c0:=c2) (n:=n) (R:=(⟨k3,e3⟩,l)) (name:=nm) (r0:=H.next) (r1:=H.next+1) (r2:=H.next+1+1) (r3:=H.next+1+1+1) hS Xa hk2 hR rfl rfl rfl rfl Xe ?_ xG xG xG xG rfl rfl rfl rfl rfl rfl rfl ?_
 ·(repeat (first|assumption|exact Zaa.Ext.refl _|refine Zaa.Ext.set ?_ (by first|assumption|omega|(simp only[Zaf,Zai,Zam];omega))|refine Zaa.Ext.alloc ?_|refine Zaa.Ext.bump ?_))
 ·intro F G tok hx g0 g1 g2 g3 f1 f2 f3 f4
  have l0:=Zaa.lt g0
  have l1:=Zaa.lt g1
  have l2:=Zaa.lt g2
  have l3:=Zaa.lt g3
  have hwk:Wkn (.agg [eS nm,.sl tok (rT l.reverse)]) (.agg (eDm D)):=by rw[<- hD];exact ZK0 ⟨nm,l.reverse⟩ tok
  by_cases he:e3=0
  ·subst he
   have dE:((0:Int) == 0)=true:=rfl
   rw[if_pos rfl]at qr qn
   refine Bz1 (X7 f1 f2 f3 f4 g0 g3 dE) ?_
   refine qcp (ZEI hwk (hwr _)) fun k3=>?_
   refine Bz1 (X8 f1 f2 f3 f4 g0 g1 g2 g3) ?_
   exact Zc1 (ZC5 hwk) (((hx.bump.set (zad _)).set Xa).set Xa)
  ·obtain⟨_,dE⟩:=ZHs he
   rw[if_neg he]at qr qn
   refine Bz1 (X9 f1 f2 f3 f4 g0 g1 g2 g3 dE) ?_
   exact Zc1 (ZC5 hwk) ((hx.set Xa).set Xa)
open Go.RowKit Go.Lib
theorem dims_any {Q:AEx->Fr->Zaa->Prop} {F:Fr} {H G:Zaa} {S:Tx} {c0:Sn} {n r0 r1 r2 r3:Nat} {R:Sn×List Dm} (hS:S.length<=1000000) (hn:n<=1000) (hk0:c0.k<=S.length) (hR:ZHz (fun _=>sDim S) n c0 []=R)
  (h0:r0=H.next) (h1:r1=H.next+1) (h2:r2=H.next+2) (h3:r3=H.next+3) (hn0:H.next+4<=G.next) (hx0:Zaa.Ext H G) (hg0:G.get r0=some (.cells (eSn S c0) 109)) (hg1:G.get r1=some (.cells zR 109)) (hg2:G.get r2=some (.cells zS 25))
  (hg3:G.get r3=some (.cells [.sl .full ([]),.sl .full []] 25))
  (f1:Fr.get F 1=.ptr r0 0) (f2:Fr.get F 2=.ptr r1 0) (f3:Fr.get F 3=.ptr r2 0) (f4:Fr.get F 4=.ptr r3 0) (f5:Fr.get F 5=.i (n:Int)) (fi:Fr.get F 6=.i 0)
  (hQ:∀F' G' tok,Zaa.Ext H G'->H.next+4<=G'.next->G'.get r0=some (.cells (eSn S R.1) 109)->G'.get r1=some (.cells zR 109)->G'.get r2=some (.cells zS 25)->G'.get r3=some (.cells [.sl tok (rD R.2),.sl .full []] 25) ->
   Fr.get F' 1=.ptr r0 0->Fr.get F' 2=.ptr r1 0->Fr.get F' 3=.ptr r2 0->Fr.get F' 4=.ptr r3 0->Q .normal F' G'):AW Tryz.prog c61_1 Q F G:=by
 have qr:=trivial
 have qn:=trivial
 refine ZBA (fun m F G=>∃i c acc tok,m+i=n/\acc.length=i/\ZHz (fun _=>sDim S) m c acc=R/\c.k<=S.length/\Fr.get F 6=.i (i:Int)/\Fr.get F 5=.i (n:Int)/\Fr.get F 1=.ptr r0 0/\Fr.get F 2=.ptr r1 0/\Fr.get F 3=.ptr r2 0/\Fr.get F 4=.ptr r3 0/\ZCe (H.next+4) G 39 2 i tok/\H.next+4<=G.next/\Zaa.Ext H G/\G.get r0=some (.cells (eSn S c) 109)/\G.get r1=some (.cells zR 109)/\G.get r2=some (.cells zS 25)/\G.get r3=some (.cells [.sl tok (rD acc),.sl .full []] 25)) n (GStep.refl _ _) ⟨0,c0,[],.full,rfl,rfl,hR,hk0,fi,f5,f1,f2,f3,f4,.inl rfl,hn0,hx0,hg0,hg1,hg2,hg3⟩ ?_
 rintro m F G ⟨i,c,acc,tok,hm,hal,hRr,hck,fi,f5,f1,f2,f3,f4,hT,hnx,hx,hg0,hg1,hg2,hg3⟩
 obtain⟨k,e⟩:=c
 cases m with
 | zero =>
  have d1:decide ((i:Int)<(n:Int))=false:=by rw[decide_eq_false_iff_not];omega
  rw[ZHz]at hRr
  subst hRr
  skip
  refine Bz1 (X3 fi f5 d1) ?_
  exact hQ _ _ tok hx hnx hg0 hg1 hg2 hg3 (by simpa [Fr.get] using f1) (by simpa [Fr.get] using f2) (by simpa [Fr.get] using f3) (by simpa [Fr.get] using f4)
 | succ m =>
  have d1:decide ((i:Int)<(n:Int))=true:=by rw[decide_eq_true_iff];omega
  by_cases he:e=0
  ·subst he
   have dE:((0:Int) == 0)=true:=rfl
   rw[ZHz,if_pos rfl]at hRr
   have hw:=ZCE (s:=i) Xa
   have hrd:=fun H=>dim_any S ⟨k,0⟩ H hS hck
   have hqk:=(ZIX S ⟨k,0⟩).le hck
   generalize sDim S ⟨k,0⟩=p at *
   obtain⟨q,x⟩:=p
   have hsn:rD acc++[eDm x]=rD (acc++[x]):=by unfold rD;rw[zaD];rfl
   have hrl:(rD acc).length=i:=by simp[hal]
   have hall:ZaE 2 (rD acc)=true:=ZaU (f:=fun x:Dm=>eDm x) (sz:=2) (fun _=>rfl) _
   have hm1:i+1<=maxLen:=ZAp Xa
   have hm2:(i+1) * 40<=140737488355328:=Xa
   generalize hR1:rD (acc++[x])=R1 at *
   generalize hR0:rD acc=R0 at *
   have hal2:ZaE 2 [eDm x]=true:=rfl
   obtain⟨e0,e1,e2,e3⟩:=Za7 x
   have l0:=Zaa.lt hg0
   have l3:=Zaa.lt hg3
   have n30:r3≠r0:=Xa
   skip
   refine Bz1 (X9 fi f5 f1 f2 f3 f4 hg0 d1 dE) ?_
   refine qcp (hrd _) fun k1=>?_
   rcases hT with rfl|⟨t',ht',rfl,hgt⟩
   ·refine Bz1 (X12 fi f5 f1 f2 f3 f4 hg0 hg3 e0 e1 e2 (X9 e3 hrl hall hal2 hm1 hm2 hsn hw YZp)) ?_
    exact⟨m,Xa,i+1,q,acc++[x],.own (G.next+k1+1+1),Xa,by simp[hal],hRr,hqk,rfl,.inr ⟨_,Xa,rfl,by rw[Zaa.Zah Xa];exact Zaa.Zat rfl⟩,Xa,xX,rfl,hg1,hg2,by rw[hR1]⟩
   ·have lt':=Zaa.lt hgt
    refine Bz1 (X12 fi f5 f1 f2 f3 f4 hg0 hg3 hgt e0 e1 (X10 e2 e3 hrl hall hal2 hm1 hm2 hsn hw YZp)) ?_
    exact⟨m,Xa,i+1,q,acc++[x],.own t',Xa,by simp[hal],hRr,hqk,rfl,.inr ⟨t',ht',rfl,by rw[Zaa.Zah Xa];exact Zaa.Zal Xe⟩,Xa,xX,rfl,hg1,hg2,by rw[hR1]⟩
  ·obtain⟨_,dE⟩:=ZHs he
   rw[ZHP _ _ _ he]at hRr
   subst hRr
   skip
   refine Bz1 (X6 fi f5 f1 hg0 d1 dE) ?_
   exact hQ _ _ tok hx hnx hg0 hg1 hg2 hg3 (by simpa [Fr.get] using f1) (by simpa [Fr.get] using f2) (by simpa [Fr.get] using f3) (by simpa [Fr.get] using f4)
theorem meas_any {Q:AEx->Fr->Zaa->Prop} {F:Fr} {H G:Zaa} {S:Tx} {c0:Sn} {n r0 r1 r2 r3:Nat} {tk:Tok} {ds:List Dm} {R:Sn×List Tx} (hS:S.length<=1000000) (hn:n<=1000) (hk0:c0.k<=S.length) (hR:ZHz (fun _=>sTxt S 12) n c0 []=R)
  (h0:r0=H.next) (h1:r1=H.next+1) (h2:r2=H.next+2) (h3:r3=H.next+3) (hn0:H.next+4<=G.next) (hx0:Zaa.Ext H G) (hg0:G.get r0=some (.cells (eSn S c0) 109)) (hg1:G.get r1=some (.cells zR 109)) (hg2:G.get r2=some (.cells zS 25))
  (hg3:G.get r3=some (.cells [.sl tk (rD ds),.sl .full ([])] 25))
  (f1:Fr.get F 1=.ptr r0 0) (f2:Fr.get F 2=.ptr r1 0) (f3:Fr.get F 3=.ptr r2 0) (f4:Fr.get F 4=.ptr r3 0) (f5:Fr.get F 5=.i (n:Int)) (fi:Fr.get F 9=.i 0)
  (hQ:∀F' G' tok,Zaa.Ext H G'->H.next+4<=G'.next->G'.get r0=some (.cells (eSn S R.1) 109)->G'.get r1=some (.cells zR 109)->G'.get r2=some (.cells zS 25)->G'.get r3=some (.cells [.sl tk (rD ds),.sl tok (rS R.2)] 25) ->
   Fr.get F' 1=.ptr r0 0->Fr.get F' 2=.ptr r1 0->Fr.get F' 3=.ptr r2 0->Fr.get F' 4=.ptr r3 0->Q .normal F' G'):AW Tryz.prog c61_2 Q F G:=by
 have qr:=trivial
 have qn:=trivial
 refine ZBA (fun m F G=>∃i c acc tok,m+i=n/\acc.length=i/\ZHz (fun _=>sTxt S 12) m c acc=R/\c.k<=S.length/\Fr.get F 9=.i (i:Int)/\Fr.get F 5=.i (n:Int)/\Fr.get F 1=.ptr r0 0/\Fr.get F 2=.ptr r1 0/\Fr.get F 3=.ptr r2 0/\Fr.get F 4=.ptr r3 0/\ZCe (H.next+4) G 9 1 i tok/\H.next+4<=G.next/\Zaa.Ext H G/\G.get r0=some (.cells (eSn S c) 109)/\G.get r1=some (.cells zR 109)/\G.get r2=some (.cells zS 25)/\G.get r3=some (.cells [.sl tk (rD ds),.sl tok (rS acc)] 25)) n (GStep.refl _ _) ⟨0,c0,[],.full,rfl,rfl,hR,hk0,fi,f5,f1,f2,f3,f4,.inl rfl,hn0,hx0,hg0,hg1,hg2,hg3⟩ ?_
 rintro m F G ⟨i,c,acc,tok,hm,hal,hRr,hck,fi,f5,f1,f2,f3,f4,hT,hnx,hx,hg0,hg1,hg2,hg3⟩
 obtain⟨k,e⟩:=c
 cases m with
 | zero =>
  have d1:decide ((i:Int)<(n:Int))=false:=by rw[decide_eq_false_iff_not];omega
  rw[ZHz]at hRr
  subst hRr
  skip
  refine Bz1 (X3 fi f5 d1) ?_
  exact hQ _ _ tok hx hnx hg0 hg1 hg2 hg3 (by simpa [Fr.get] using f1) (by simpa [Fr.get] using f2) (by simpa [Fr.get] using f3) (by simpa [Fr.get] using f4)
 | succ m =>
  have d1:decide ((i:Int)<(n:Int))=true:=by rw[decide_eq_true_iff];omega
  by_cases he:e=0
  ·subst he
   have dE:((0:Int) == 0)=true:=rfl
   rw[ZHz,if_pos rfl]at hRr
   have hw:=ZCE (s:=i) Xa
   have hrd:=fun H=>ZH1 S 12 ⟨k,0⟩ H hS hck Xa
   have hqk:=(ZHx S 12 ⟨k,0⟩).le hck
   generalize sTxt S 12 ⟨k,0⟩=p at *
   obtain⟨q,x⟩:=p
   have hsn:rS acc++[[eS x]]=rS (acc++[x]):=by unfold rS;rw[zaD];rfl
   have hrl:(rS acc).length=i:=by simp[hal]
   have hall:ZaE 1 (rS acc)=true:=ZaU (f:=fun x:Tx=>[eS x]) (sz:=1) (fun _=>rfl) _
   have hm1:i+1<=maxLen:=ZAp Xa
   have hm2:(i+1) * 16<=140737488355328:=Xa
   generalize hR1:rS (acc++[x])=R1 at *
   generalize hR0:rS acc=R0 at *
   have hal2:ZaE 1 [[eS x]]=true:=rfl
   have l0:=Zaa.lt hg0
   have l3:=Zaa.lt hg3
   have n30:r3≠r0:=Xa
   skip
   refine Bz1 (X9 fi f5 f1 f2 f3 f4 hg0 d1 dE) ?_
   refine qcp (hrd _) fun k1=>?_
   rcases hT with rfl|⟨t',ht',rfl,hgt⟩
   ·refine Bz1 (X12 fi f5 f1 f2 f3 f4 hg0 hg3 hrl hall hal2 (X5 hm1 hm2 hsn hw YZp)) ?_
    exact⟨m,Xa,i+1,q,acc++[x],.own (G.next+k1+1),Xa,by simp[hal],hRr,hqk,rfl,.inr ⟨_,Xa,rfl,by rw[Zaa.Zah Xa];exact Zaa.Zat rfl⟩,Xa,xX,rfl,hg1,hg2,by rw[hR1]⟩
   ·have lt':=Zaa.lt hgt
    refine Bz1 (X12 fi f5 f1 f2 f3 f4 hg0 hg3 hgt hrl hall (X6 hal2 hm1 hm2 hsn hw YZp)) ?_
    exact⟨m,Xa,i+1,q,acc++[x],.own t',Xa,by simp[hal],hRr,hqk,rfl,.inr ⟨t',ht',rfl,by rw[Zaa.Zah Xa];exact Zaa.Zal Xe⟩,Xa,xX,rfl,hg1,hg2,by rw[hR1]⟩
  ·obtain⟨_,dE⟩:=ZHs he
   rw[ZHP _ _ _ he]at hRr
   subst hRr
   skip
   refine Bz1 (X6 fi f5 f1 hg0 d1 dE) ?_
   exact hQ _ _ tok hx hnx hg0 hg1 hg2 hg3 (by simpa [Fr.get] using f1) (by simpa [Fr.get] using f2) (by simpa [Fr.get] using f3) (by simpa [Fr.get] using f4)
theorem ZKE (S:Tx) (c:Sn):∀t∈(sDim S c).2.tiers,ZJO t:=by
 intro t ht
 have ht:t∈(ZHz (fun acc=>sTir S (ZHF acc)) (sNum S 4 (sTxt S 12 c).1).2 (sNum S 4 (sTxt S 12 c).1).1 []).2.reverse:=ht
 exact ZIc (f:=fun acc=>sTir S (ZHF acc)) (P:=ZJO) (fun acc c _=>ZIl S _ c) _ _ [] (fun t h=>by cases h) t (by simpa using ht)
theorem sc_any (S:Tx) (c:Sn) (H:Zaa) (hS:S.length<=1000000) (hk:c.k<=S.length):Zay Tryz.prog 61 [.agg (eSn S c)] H (Pure H (.tup [.agg (eSn S (sSc S c).1),.agg (eSc (sSc S c).2)])):=by
 have hn1:=fun H=>ZHL S 16 c H hS hk Xa
 have hk1:=(ZHp S 16 c).le hk
 have hl1:=ZHK S 16 c
 have hsm:=ZIc (f:=fun _=>sDim S) (P:=fun d=>∀t∈d.tiers,ZJO t) (fun acc c _=>ZKE S c) (sNum S 16 c).2 (sNum S 16 c).1 [] (fun t h=>by cases h)
 have hk2:=(ZHS (S:=S) (f:=fun _=>sDim S) (g:=fun _=>gDim) (sNum S 16 c).2 [] (fun c acc=>ZIX S c) (sNum S 16 c).1).le hk1
 have hv:sSc S c=(let n:=sNum S 16 c;let ds:=ZHz (fun _=>sDim S) n.2 n.1 [];let m:=sNum S 3 ds.1;let ms:=ZHz (fun _=>sTxt S 12) m.2 m.1 [];ZIu (scE ⟨ds.2,ms.2⟩) ⟨ds.2,ms.2⟩ ms.1):=rfl
 rw[hv]
 clear hv
 generalize sNum S 16 c=p at *
 obtain⟨c1,n⟩:=p
 simp only at *
 generalize hR:ZHz (fun _=>sDim S) n c1 []=p at *
 obtain⟨c2,ds⟩:=p
 simp only at *
 have hn2:=fun H=>ZHL S 3 c2 H hS hk2 Xa
 have hk3:=(ZHp S 3 c2).le hk2
 have hl2:=ZHK S 3 c2
 generalize sNum S 3 c2=p at *
 obtain⟨c3,m⟩:=p
 simp only at *
 generalize hR2:ZHz (fun _=>sTxt S 12) m c3 []=p at *
 obtain⟨⟨k4,e4⟩,ms⟩:=p
 simp only at *
 have hx0:Zaa.Ext H H:=.refl _
 have hwr:=fun H=>ZeE ⟨ds,ms⟩ H (fun d hd t ht=>by have:=(hsm d hd t ht).2;unfold Zgr;omega)
 generalize hX:(⟨ds,ms⟩:Sc)=X at *
 generalize scE X=eX at *
 unfold ZIu
 refine fnQ cf61 fun Q qr qn=>?_
 refine Bz1 (X1 YZp) ?_
 refine qcp (hn1 _) fun k1=>?_
 refine Bz1 (X1 YZp) ?_
 refine dims_any (H:=H) (c0:=c1) (n:=n) (R:=(c2,ds)) (r0:=H.next) (r1:=H.next+1) (r2:=H.next+1+1) (r3:=H.next+1+1+1) hS Xa hk1 hR rfl rfl rfl rfl Xe ?_ xG xG xG xG rfl rfl rfl rfl rfl rfl ?_
 ·(repeat (first|assumption|exact Zaa.Ext.refl _|refine Zaa.Ext.set ?_ (by first|assumption|omega|(simp only[Zaf,Zai,Zam];omega))|refine Zaa.Ext.alloc ?_|refine Zaa.Ext.bump ?_))
 ·intro F G tok hx hnx g0 g1 g2 g3 f1 f2 f3 f4
  have l0:=Zaa.lt g0
  have l1:=Zaa.lt g1
  have l2:=Zaa.lt g2
  have l3:=Zaa.lt g3
  refine Bz1 (X6 f1 f2 f3 f4 g0 g3) ?_
  refine qcp (hn2 _) fun k2=>?_
  refine Bz1 (X6 f1 f2 f3 f4 g0 g3) ?_
  refine meas_any (H:=H) (c0:=c3) (n:=m) (R:=(⟨k4,e4⟩,ms)) (tk:=tok) (ds:=ds) (r0:=H.next) (r1:=H.next+1) (r2:=H.next+1+1) (r3:=H.next+1+1+1) hS Xa hk3 hR2 rfl rfl rfl rfl Xe ?_ (Zaa.Zal Xe) ?_ ?_ ?_ f1 f2 f3 f4 rfl rfl ?_
  ·(repeat (first|assumption|exact Zaa.Ext.refl _|refine Zaa.Ext.set ?_ (by first|assumption|omega|(simp only[Zaf,Zai,Zam];omega))|refine Zaa.Ext.alloc ?_|refine Zaa.Ext.bump ?_))
  ·rw[Zaa.Zah Xa,Zaa.ZaB];exact g1
  ·rw[Zaa.Zah Xa,Zaa.ZaB];exact g2
  ·rw[Zaa.Zah Xa,Zaa.ZaB];exact g3
  ·intro F G tok2 hx hnx g0 g1 g2 g3 f1 f2 f3 f4
   have l0:=Zaa.lt g0
   have l1:=Zaa.lt g1
   have l2:=Zaa.lt g2
   have l3:=Zaa.lt g3
   have hwk:Wkn (.agg [.sl tok (rD ds),.sl tok2 (rS ms)]) (.agg (eSc X)):=by rw[<- hX];exact ZJ9 ⟨ds,ms⟩ tok tok2
   by_cases he:e4=0
   ·subst he
    have dE:((0:Int) == 0)=true:=rfl
    rw[if_pos rfl]at qr qn
    refine Bz1 (X7 f1 f2 f3 f4 g0 g3 dE) ?_
    refine qcp (ZEI hwk (hwr _)) fun k3=>?_
    refine Bz1 (X8 f1 f2 f3 f4 g0 g1 g2 g3) ?_
    exact Zc1 (ZC5 hwk) (((hx.bump.set (zad _)).set Xa).set Xa)
   ·obtain⟨_,dE⟩:=ZHs he
    rw[if_neg he]at qr qn
    refine Bz1 (X9 f1 f2 f3 f4 g0 g1 g2 g3 dE) ?_
    exact Zc1 (ZC5 hwk) ((hx.set Xa).set Xa)
noncomputable def scR (B:Tx):Sc×Bool:=match wholeSc B with
 | some s=>(s,true)
 | none=>(⟨[],[]⟩,false)
theorem ZLm (B:Tx):(ZKp B (sSc B ⟨0,0⟩).1=0->wholeSc B=some (sSc B ⟨0,0⟩).2)/\(ZKp B (sSc B ⟨0,0⟩).1≠0->wholeSc B=none):=by
 have h:=ZIW (ZLy B ⟨0,0⟩)
 constructor
 ·intro h0
  obtain⟨a,h1,h2⟩:=h.1 h0
  unfold wholeSc
  rw[h1,h2]
 ·intro h0
  unfold wholeSc
  split
  ·rename_i s e
   exact absurd (h.2 ⟨s,e,by
    have:=(ZLy B ⟨0,0⟩).yea rfl (zas _) s [] e
    exact this.2.1⟩) h0
  ·rfl
theorem ZLA (B:Tx) (H:Zaa) (hw:B.length<=1000000):Zay Tryz.prog 28 [eS B] H (Pure H (.tup [.agg (eSc (scR B).1),.b (scR B).2])):=by
 have hr:=fun H=>sc_any B ⟨0,0⟩ H hw (zas _)
 obtain⟨w1,w2⟩:=ZLm B
 generalize sSc B ⟨0,0⟩=p at *
 obtain⟨c,s⟩:=p
 simp only at *
 have hend:=ZJL B c
 generalize ZKp B c=e at *
 obtain⟨e0,e1,e2,e3⟩:=ZbB s
 have hx0:Zaa.Ext H H:=.refl _
 unfold scR
 by_cases he:e=0
 ·subst he
  rw[w1 rfl]
  have d0:((0:Int) != 0)=false:=rfl
  refine fnQ cf28 fun Q qr qn=>?_
  refine Bz1 (X1 YZp) ?_
  refine qcp (hr _) fun k1=>?_
  refine Bz1 (X2 YZp e0) ?_
  refine qcp (hend _) fun k2=>?_
  refine Bz1 (X5 d0 e0 e1 e2 e3) ?_
  exact ZaW xX rfl
 ·obtain⟨d0,_⟩:=ZHs he
  rw[w2 he]
  refine fnQ cf28 fun Q qr qn=>?_
  refine Bz1 (X1 YZp) ?_
  refine qcp (hr _) fun k1=>?_
  refine Bz1 (X2 YZp e0) ?_
  refine qcp (hend _) fun k2=>?_
  refine Bz1 (X5 d0 e0 e1 e2 e3) ?_
  exact ZaW xX rfl
end Go.Proofs.YtdfgoekdlmkdfaaGreatDoor
