/- Texts of the walk. -/
import Derived.Test.YtfjjpndoeppbhaaGreatDoorMw
namespace Go.Proofs.YtfjjpndoeppbhaaGreatDoor
set_option linter.defProp false
set_option maxHeartbeats 64000000
set_option linter.unusedSimpArgs false
set_option linter.unusedVariables false
open Go.RowKit Go.Lib
theorem Y_clv {P:Prg} {l:List AI} {d:Option Nat} {F:Fr} {H:Zaa} {K:Fr->Zaa->Prop} {x:AX}:Zau P (⟨none,d,.clv x⟩ :: l) F H K=@Zas (AOp.ev F H (.clv x)) ⟨fun v H'=>Zau P l (Fr.put F d v) H' K⟩:=propext zae
theorem ev_clv {F:Fr} {H:Zaa} {x:AX}:AOp.ev F H (.clv x)=match x.ev F with
 | .arr id off ln _=>match H.get id with
  | some (.cells cs E)=>if 0<ln/\off+ln<=cs.length then some (.tup [],H.set id (.cells (splice cs off (List.replicate ln (.i 0))) E)) else none
  | _=>none
 | _=>none:=rfl
theorem Y_ovl {P:Prg} {l:List AI} {d:Option Nat} {F:Fr} {H:Zaa} {K:Fr->Zaa->Prop} {x y:AX}:Zau P (⟨none,d,.ovl x y⟩ :: l) F H K=@Zas (AOp.ev F H (.ovl x y)) ⟨fun v H'=>Zau P l (Fr.put F d v) H' K⟩:=propext zae
theorem ev_ovl {F:Fr} {H:Zaa} {x y:AX}:AOp.ev F H (.ovl x y)=match x.ev F,y.ev F with
 | .arr i _ _ _,.arr j _ _ _=>match H.get i,H.get j with
  | some (.cells _ _),some (.cells cj _)=>if i≠j/\0<cj.length then some (.b false,H) else none
  | _,_=>none
 | _,_=>none:=rfl
abbrev cI (l:List Int):List AV:=l.map AV.i
theorem ZOy (tail:List AV):∀l:List Int,chunk 1 l.length (cI l++tail)=rI l
 | []=>rfl
 | a :: l=>by
  show[AV.i a] :: chunk 1 l.length (cI l++tail)=_
  rw[ZOy tail l]
  rfl
theorem ZuR:∀l:List Int,(rI l).flatten=cI l
 | []=>rfl
 | a :: l=>by rw[rI,zaD,List.flatten_cons];show AV.i a :: (rI l).flatten=_;rw[ZuR l];rfl
theorem ZSG {l:List Int} {tail:List AV} {j:Nat} (h:j<=l.length):(cI l++tail).drop j=cI (l.drop j)++tail:=by
 rw[List.drop_append_of_le_length (by simp;exact h),cI,cI,List.map_drop]
theorem ZSz {H:Zaa} {T j cap:Nat} {E:TypeId} {l:List Int} {tail:List AV} (hg:H.get T=some (.cells (cI l++tail) E)) (h:j<=l.length):ZaL H 1 (.arr T j (l.length - j) cap)=some (rI (l.drop j)):=by
 simp only[ZaL,hg]
 rw[if_pos (by rw[zac,zam];omega),ZSG h,<- zaq,ZOy]
theorem ZRG {H:Zaa} {i:Nat} {o:Zb3} (h:H.get i=some o):H.set i o=H:=by
 refine Zaa.ext ?_ rfl
 funext j
 simp only[Zaa.set]
 by_cases e:j=i
 ·subst e;simp[Zaa.lt h];exact h.symm
 ·simp[e]
theorem ZR0 {H:Zaa} {E bytes T a m cap:Nat} {zero cs:List AV} {xs:List (List AV)} {x:AV} {K:AV->Zaa->Prop} (ho:H.get T=some (.cells cs E)) (hx:ZaL H 1 x=some xs) (ha:ZaE 1 xs=true) (hcl:cs.length=cap) (hm:a+xs.length=m) (hle:m<=cap) (h63:m<=maxLen) (hby:m * bytes<=140737488355328) (hb:bytes<=140737488355328)
  (k:K (.arr T 0 m cap) (H.set T (.cells (splice cs a xs.flatten) E))):Zk3 H E 1 bytes zero (.arr T 0 a cap) x K:=by
 unfold Zk3
 rw[hx]
 subst hm
 cases xs with
 | nil =>
  simp only
  refine⟨hb,by simp at hle;omega,?_⟩
  have e:splice cs a ([]:List (List AV)).flatten=cs:=by
   unfold splice
   rw[List.flatten_nil,zaI,List.length_nil,Nat.add_zero,zaS]
  rw[e,ZRG ho]at k
  exact k
 | cons x0 xs0 =>
  simp only[ho]
  refine⟨⟨trivial,trivial,Xc,ha,Xa,Xa,h63,hby⟩,fun _=>?_,fun h=>absurd h Xa⟩
  rw[zbJ]
  exact k
theorem ZNY (T cap:Nat) (l:List Int) (tail:List AV) (q:Int) (H:Zaa) (hl:l.length<=1000000) (hg:H.get T=some (.cells (cI l++tail) 3)):Zay Tryz.prog 119 [.arr T 0 l.length cap,.i q] H (Pure H (.i (atI l q))):=by
 have hx0:Zaa.Ext H H:=.refl _
 refine fnQ cf119 fun Q qr qn=>?_
 refine Bz0 ?_
 refine ZbJ (N:=l.length) (fun k F G=>Fr.get F 8=.i (k:Int)/\Fr.get F 7=.i (l.length:Int)/\Fr.get F 0=.arr T 0 l.length cap/\Fr.get F 1=.i q/\Zaa.Ext H G/\q ∉ l.take k) Xd (fun k F G h=>⟨h.1,h.2.1⟩) (GStep.refl _ _) ⟨rfl,rfl,rfl,rfl,hx0,Xc⟩ ?_ ?_
 ·rintro k F G hk ⟨f8,f7,f0,f1,hx,hn⟩
  have hz:(0:Int)<=(k:Int):=Xa
  have hz2:((k:Nat):Int)<((l.length:Nat):Int):=Xa
  have gT:=hx.get _ _ hg
  have hr:(cI l++tail)[k]?=some (.i l[k]):=by rw[zaC (by simp;exact hk)];simp[hk]
  by_cases he:l[k]=q
  ·have hat:=ZPp hk he hn
   have d:(q == l[k])=true:=by simpa using he.symm
   skip
   ((have hd:=tv;repeat' first|(first|apply Zad|apply Zac|apply Zab)<;>intro hd<;>try simp only[hd]|simp(disch:=first|assumption|omega|simp only[nx]<;>omega|fail)only[hd,qr,qn,Zuv,↓YA,YY,↓reduceIte,Nat.reduceEqDiff,Nat.reduceAdd,Nat.reduceMul,Nat.reduceLeDiff,Int.reduceToNat,Int.reduceLE,Int.reduceLT,Int.reduceGT,Int.reduceGE,Int.reduceAdd,Int.reduceSub,Int.reduceNeg,Int.reduceBEq,Int.reduceBNe,f8,f7,f0,f1,hz,hz2,gT,hr,d,hk,Int.toNat_natCast])<;>try revert hd;refine ttr ?_)
   rw[hat]
   exact ZaW hx rfl
  ·have d:(q == l[k])=false:=by simpa using fun h=>he h.symm
   have hn2:q ∉ l.take (k+1):=by
    rw[zas hk,zaw,zbr]
    exact fun h=>h.elim hn fun h=>he h.symm
   skip
   ((have hd:=tv;repeat' first|(first|apply Zad|apply Zac|apply Zab)<;>intro hd<;>try simp only[hd]|simp(disch:=first|assumption|omega|simp only[nx]<;>omega|fail)only[hd,qr,qn,Zuv,↓YA,YY,↓reduceIte,Nat.reduceEqDiff,Nat.reduceAdd,Nat.reduceMul,Nat.reduceLeDiff,Int.reduceToNat,Int.reduceLE,Int.reduceLT,Int.reduceGT,Int.reduceGE,Int.reduceAdd,Int.reduceSub,Int.reduceNeg,Int.reduceBEq,Int.reduceBNe,f8,f7,f0,f1,hz,hz2,gT,hr,d,hk,Int.toNat_natCast])<;>try revert hd;refine ttr ?_)
   exact⟨hx,hn2⟩
 ·rintro F G ⟨f8,f7,f0,f1,hx,hn⟩
  rw[zaz]at hn
  have hat:atI l q = -1:=by unfold atI;rw[if_neg hn]
  skip
  refine Bz0 ?_
  rw[hat]
  exact ZaW hx rfl
def DelR (T cap:Nat) (l:List Int) (H:Zaa) (r:AV) (G:Zaa):Prop:=r=.arr T 0 l.length cap/\∃tail,G=H.set T (.cells (cI l++tail) 3)/\(cI l++tail).length=cap
theorem ZRe {l:List Int} {tail:List AV} {a m:Nat} (h:a<l.length) (hm:l.length=m+1):splice (splice (cI l++tail) a (cI (l.drop (a+1)))) m [.i 0]=cI (l.eraseIdx a)++([.i 0]++tail):=by
 have e1:splice (cI l++tail) a (cI (l.drop (a+1)))=cI (l.eraseIdx a)++(cI (l.drop m)++tail):=by
  unfold splice
  rw[zam,zaq,show a+(l.length - (a+1))=m by omega,ZSG Xa,zbp Xf,List.eraseIdx_eq_take_drop_succ]
  simp
 have e2:(cI (l.eraseIdx a)).length=m:=by rw[zam,List.length_eraseIdx_of_lt h];omega
 have e3:(cI (l.drop m)).length=1:=by rw[zam,zaq];omega
 rw[e1]
 unfold splice
 rw[za1 e2,show m+[AV.i 0].length=(cI (l.eraseIdx a)).length+1 by rw[e2];rfl,List.drop_length_add_append,<- e3,List.drop_left,zan]
theorem ZRi (T cap a:Nat) (l:List Int) (tail:List AV) (H:Zaa) (h:a<l.length) (hl:l.length<=100000) (hg:H.get T=some (.cells (cI l++tail) 3)) (hc:(cI l++tail).length=cap):Zay Tryz.prog 254 [.arr T 0 l.length cap,.i (a:Int),.i ((a+1:Nat):Int)] H (DelR T cap (l.eraseIdx a) H):=by
 obtain⟨m,hm⟩:∃m,l.length=m+1:=⟨l.length - 1,Xa⟩
 have hlc:l.length<=cap:=by rw[<- hc,zac,zam];omega
 have hlT:=Zaa.lt hg
 have hsp:=ZRe (tail:=tail) h hm
 have hel:(l.eraseIdx a).length=m:=by rw[List.length_eraseIdx_of_lt h];omega
 have hrow:∀cp,ZaL H 1 (.arr T (a+1) (m+1 - (a+1)) cp)=some (rI (l.drop (a+1))):=fun cp=>by
  have:=ZSz (cap:=cp) (j:=a+1) hg Xa
  rwa [hm]at this
 have hall:ZaE 1 (rI (l.drop (a+1)))=true:=ZaU (f:=fun n:Int=>[AV.i n]) (sz:=1) (fun _=>rfl) _
 have hrf:=ZuR (l.drop (a+1))
 have hrn:(rI (l.drop (a+1))).length=m - a:=by rw[zam,zaq];omega
 have hnil:a+1=cap->rI (l.drop (a+1))=[]:=fun e=>by rw[zbg Xa];rfl
 rw[hm]at hlc ⊢
 have s1l:(splice (cI l++tail) a (cI (l.drop (a+1)))).length=cap:=by
  unfold splice
  rw[zac,zac,zaj,zaq,zam,zaq,hc]
  omega
 have fin:∀{G:Zaa},G=H.set T (.cells (splice (splice (cI l++tail) a (cI (l.drop (a+1)))) m [.i 0]) 3)->∃r2 H2,Zb6 (.arr T 0 m cap) G r2 H2/\DelR T cap (l.eraseIdx a) H r2 H2:=fun e=>Zaq ⟨by rw[hel],[.i 0]++tail,by rw[e,hsp],by
  rw[<- hc,zac,zac,zac,zam,zam,hel]
  simp
  omega⟩
 clear hsp hel
 generalize rI (l.drop (a+1))=xs at *
 generalize cI (l.drop (a+1))=cd at *
 generalize hcs:cI l++tail=cs at *
 generalize hs1:splice cs a cd=cs1 at *
 have p1:(0:Int)<=(a:Int):=Xa
 have p2:(0:Int)<=((a+1:Nat):Int):=Xa
 have p3:(0:Int)<=((m+1:Nat):Int):=Xa
 have p4:(0:Int)<=(m:Int):=Xa
 have b1:a<=a+1:=Xa
 have b2:a+1<=m+1:=Xa
 have b3:(m+1=a)=False:=by simp;omega
 have b4:(cap=0)=False:=by simp;omega
 have b5:a<=cap:=Xa
 have b6:a+1<=cap:=Xa
 have b7:(cap=m)=False:=by simp;omega
 have b8:m<=m+1:=Xa
 have b9:m+1 - m=1:=Xa
 have b10:m+1<=cap:=hlc
 have d0:((a:Int) == ((a+1:Nat):Int))=false:=by simp only[beq_eq_false_iff_ne];omega
 have hrep:List.replicate 1 (AV.i 0)=[.i 0]:=rfl
 have h01:((0:Nat)<1)=True:=Xc
 by_cases e1:cap=a+1
 ·have hxs:=hnil e1.symm
  subst hxs
  obtain rfl:m=a:=Xa
  subst e1
  have c1:m<=m:=zad _
  have c2:m+1<=m+1:=zad _
  have c3:(m+1=m)=False:=Xc
  have c4:(m+1=0)=False:=Xc
  have c5:0+m<=m+1:=Xa
  refine Zak hEi vf254 (zaT rfl) fun Q qr qn=>?_
  ((have hd:=tv;repeat' first|(first|apply Zad|apply Zac|apply Zab)<;>intro hd<;>try simp only[hd]|simp(disch:=first|assumption|omega|simp only[nx]<;>omega|fail)only[hd,qr,qn,ZPq,↓YA,YY,↓reduceIte,Nat.reduceEqDiff,Nat.reduceAdd,Nat.reduceMul,Nat.reduceLeDiff,Int.reduceToNat,Int.reduceLE,Int.reduceLT,Int.reduceGT,Int.reduceGE,Int.reduceAdd,Int.reduceSub,Int.reduceNeg,Int.reduceBEq,Int.reduceBNe,p1,p2,p3,p4,b1,c1,c2,c3,c4,c5,b9,d0,Zdi,Int.toNat_natCast,zat,Nat.sub_zero,zbf,zbJ,zax])<;>try revert hd;refine ttr ?_)
  refine ZR0 (m:=m) hg rfl rfl hc rfl Xa Xd Xa Xb ?_
  rw[hrf,hs1]
  ((have hd:=tv;repeat' first|(first|apply Zad|apply Zac|apply Zab)<;>intro hd<;>try simp only[hd]|simp(disch:=first|assumption|omega|simp only[nx]<;>omega|fail)only[hd,qr,qn,ZPq,↓YA,YY,↓reduceIte,Nat.reduceEqDiff,Nat.reduceAdd,Nat.reduceMul,Nat.reduceLeDiff,Int.reduceToNat,Int.reduceLE,Int.reduceLT,Int.reduceGT,Int.reduceGE,Int.reduceAdd,Int.reduceSub,Int.reduceNeg,Int.reduceBEq,Int.reduceBNe,p1,p2,p3,p4,b1,c1,c2,c3,c4,c5,b9,Zdi,Int.toNat_natCast,zat,Nat.sub_zero,zbf,zbJ,zax,Y_clv,ev_clv,hlT,s1l,hrep,h01,ZMs])<;>try revert hd;refine ttr ?_)
  exact fin rfl
 ·have e1':(cap=a+1)=False:=eq_false e1
  refine Zak hEi vf254 (zaT rfl) fun Q qr qn=>?_
  ((have hd:=tv;repeat' first|(first|apply Zad|apply Zac|apply Zab)<;>intro hd<;>try simp only[hd]|simp(disch:=first|assumption|omega|simp only[nx]<;>omega|fail)only[hd,qr,qn,ZPq,↓YA,YY,↓reduceIte,Nat.reduceEqDiff,Nat.reduceAdd,Nat.reduceMul,Nat.reduceLeDiff,Int.reduceToNat,Int.reduceLE,Int.reduceLT,Int.reduceGT,Int.reduceGE,Int.reduceAdd,Int.reduceSub,Int.reduceNeg,Int.reduceBEq,Int.reduceBNe,p1,p2,p3,p4,b1,b2,b3,b4,b5,b6,b10,d0,Zdi,Int.toNat_natCast,zat,Nat.sub_zero,zbf,e1',zbJ,zax])<;>try revert hd;refine ttr ?_)
  refine ZR0 (m:=m) hg (hrow _) hall hc Xa Xa Xd Xa Xb ?_
  rw[hrf,hs1]
  ((have hd:=tv;repeat' first|(first|apply Zad|apply Zac|apply Zab)<;>intro hd<;>try simp only[hd]|simp(disch:=first|assumption|omega|simp only[nx]<;>omega|fail)only[hd,qr,qn,ZPq,↓YA,YY,↓reduceIte,Nat.reduceEqDiff,Nat.reduceAdd,Nat.reduceMul,Nat.reduceLeDiff,Int.reduceToNat,Int.reduceLE,Int.reduceLT,Int.reduceGT,Int.reduceGE,Int.reduceAdd,Int.reduceSub,Int.reduceNeg,Int.reduceBEq,Int.reduceBNe,p1,p2,p3,p4,b7,b8,b9,b10,Zdi,Int.toNat_natCast,zat,Nat.sub_zero,zbf,zbJ,zax,Y_clv,ev_clv,hlT,s1l,hrep,h01,ZMs])<;>try revert hd;refine ttr ?_)
  exact fin rfl
open Go.RowKit Go.Lib
theorem ZNX:∀(n:Nat) (cs:List AV),(chunk 1 (n+1) cs).take n=chunk 1 n cs
 | 0,_=>rfl
 | n+1,cs=>by
  show(cs.take 1 :: chunk 1 (n+1) (cs.drop 1)).take (n+1)=cs.take 1 :: chunk 1 n (cs.drop 1)
  rw[List.take_succ_cons,ZNX n]
theorem ZO8:∀(n:Nat) (cs:List AV),n<=cs.length->ZaE 1 (chunk 1 n cs)=true/\(chunk 1 n cs).length=n
 | 0,_,_=>⟨rfl,rfl⟩
 | n+1,cs,h=>by
  obtain⟨h1,h2⟩:=ZO8 n (cs.drop 1) (by rw[zaq];omega)
  refine⟨?_,by show(chunk 1 n (cs.drop 1)).length+1=_;omega⟩
  show((cs.take 1).length == 1&&ZaE 1 (chunk 1 n (cs.drop 1)))=true
  rw[h1,zaj]
  simp
  omega
theorem ZGe {H:Zaa} {E sz bytes id cap k:Nat} {zero cs:List AV} {K:AV->Zaa->Prop} (ho:H.get id=some (.cells cs E)) (hk:0<k) (hz:zero.length=sz) (h1:k<=maxLen) (h2:k * bytes<=140737488355328) (hc:cap<k)
  (kk:∀cap' tail,k<=cap'->cap'<=maxLen->((List.replicate k zero).flatten++tail).length=cap' * sz->K (.arr H.next 0 k cap') (H.alloc (.cells ((List.replicate k zero).flatten++tail) E))) :
  Zk3 H E sz (bytes+1152921504606846976) (zero++[.any]) (.arr id 0 0 cap) (.sc (.int .i64 (k:Int))) K:=by
 unfold Zk3
 simp only[ZaL,ho]
 rw[List.dropLast_concat,Int.toNat_natCast,zb5]
 refine⟨⟨trivial,trivial,trivial,Xa,by simp[hz],h1,h2,hc⟩,fun cap' h3 h4=>kk cap' _ h3 h4 ?_⟩
 rw[zac,Zc7 (sz:=sz) (fun q hq=>by rw[(zaY.1 hq).2];exact hz),Zc7 (sz:=sz) (fun q hq=>by rw[(zaY.1 hq).2];exact hz),zaZ,zaZ,<- zaX]
 congr 1
 omega
theorem apv_new1 {H:Zaa} {E bytes:Nat} {zero:List AV} {x:AV} {K:AV->Zaa->Prop} {r:List AV} (hx:ZaL H 1 x=some [r]) (hr:r.length=1) (hz:zero.length=1) (h2:bytes<=140737488355328)
  (k:∀cap tail,1<=cap->cap<=maxLen->(r++tail).length=cap->K (.arr H.next 0 1 cap) (H.alloc (.cells (r++tail) E))):Zk3 H E 1 bytes zero (.sl .full []) x K:=by
 unfold Zk3
 rw[hx]
 refine⟨⟨Xc,by simp[ZaE,hr],by unfold maxLen;simp,Xf⟩,fun cap h1 h3=>?_⟩
 have e:[r].flatten=r:=Xc
 rw[e]
 refine k cap _ h1 h3 ?_
 rw[zac,Zc7 (sz:=1) (fun q hq=>by rw[(zaY.1 hq).2];exact hz),zaZ,hr]
 simp at h1 ⊢
 omega
def InsR (T:Nat) (l:List Int) (H:Zaa) (r:AV) (G:Zaa):Prop:=∃T' cap tail,r=.arr T' 0 l.length cap/\G.get T'=some (.cells (cI l++tail) 3)/\(cI l++tail).length=cap/\(T'=T\/H.next<=T')/\KF (·=T) H G
theorem ZOf (T V:Nat) (l:List Int) (i:Int) (a:AV) (H:Zaa) (hn:l.length<=2500) (hV:H.get V=some (.cells [.i i] 3))
  (ha:(l=[]/\a=.sl .full [])\/∃tail cap,a=.arr T 0 l.length cap/\H.get T=some (.cells (cI l++tail) 3)/\(cI l++tail).length=cap/\1<=cap/\T≠V) :
  Zay Tryz.prog 255 [a,.i 0,.arr V 0 1 1] H (InsR T (i :: l) H):=by
 have lV:=Zaa.lt hV
 have hal1:ZaE 1 [[AV.i i]]=true:=rfl
 have hc1:chunk 1 1 [AV.i i]=[[AV.i i]]:=rfl
 have hc1':chunk 1 1 ([AV.i i].drop 0)=[[AV.i i]]:=rfl
 have hl1:0+1 * 1<=[AV.i i].length:=Xc
 have hl2:1<=[AV.i i].length:=Xc
 have hro:∀{G:Zaa},G.get V=some (.cells [AV.i i] 3)->ZaL G 1 (.arr V 0 1 1)=some [[AV.i i]]:=fun h=>by
  simp only[ZaL,h]
  rfl
 have n1:(((1:Nat):Int) == 0)=false:=rfl
 have n0:((0:Int) == ((0:Nat):Int))=true:=rfl
 rcases ha with⟨rfl,rfl⟩|⟨tail,cap,rfl,hT,hcl,hcap1,hTV⟩
 ·refine Zak hEi vf255 (zaT rfl) fun Q qr qn=>?_
  ((have hd:=tv;repeat' first|(first|apply Zad|apply Zac|apply Zab)<;>intro hd<;>try simp only[hd]|simp(disch:=first|assumption|omega|simp only[nx]<;>omega|fail)only[hd,qr,qn,ZNi,↓YA,YY,↓reduceIte,Nat.reduceEqDiff,Nat.reduceAdd,Nat.reduceMul,Nat.reduceLeDiff,Int.reduceToNat,Int.reduceLE,Int.reduceLT,Int.reduceGT,Int.reduceGE,Int.reduceAdd,Int.reduceSub,Int.reduceNeg,Int.reduceBEq,Int.reduceBNe,hV,hc1,hc1',hl1,hl2,Zdi,true_or,n1,n0])<;>try revert hd;refine ttr ?_)
  refine apv_new1 (r:=[AV.i i]) (hro hV) rfl rfl Xb ?_
  intro cap tail hc hc3 htl
  ((have hd:=tv;repeat' first|(first|apply Zad|apply Zac|apply Zab)<;>intro hd<;>try simp only[hd]|simp(disch:=first|assumption|omega|simp only[nx]<;>omega|fail)only[hd,qr,qn,ZNi,↓YA,YY,↓reduceIte,Nat.reduceEqDiff,Nat.reduceAdd,Nat.reduceMul,Nat.reduceLeDiff,Int.reduceToNat,Int.reduceLE,Int.reduceLT,Int.reduceGT,Int.reduceGE,Int.reduceAdd,Int.reduceSub,Int.reduceNeg,Int.reduceBEq,Int.reduceBNe])<;>try revert hd;refine ttr ?_)
  exact Zaq ⟨H.next,cap,tail,rfl,Zaa.Zat rfl,htl,.inr (zad _),(KF.refl _ _).alloc⟩
 ·have lT:=Zaa.lt hT
  have hnc:l.length<=cap:=by rw[<- hcl,zac,zam];omega
  have c0:(cap=0)=False:=by rw[eq_iff_iff,iff_false];omega
  have zc:0<=cap:=zat _
  cases l with
  | nil =>
   refine Zak hEi vf255 (zaT rfl) fun Q qr qn=>?_
   ((have hd:=tv;repeat' first|(first|apply Zad|apply Zac|apply Zab)<;>intro hd<;>try simp only[hd]|simp(disch:=first|assumption|omega|simp only[nx]<;>omega|fail)only[hd,qr,qn,ZNi,↓YA,YY,↓reduceIte,Nat.reduceEqDiff,Nat.reduceAdd,Nat.reduceMul,Nat.reduceLeDiff,Int.reduceToNat,Int.reduceLE,Int.reduceLT,Int.reduceGT,Int.reduceGE,Int.reduceAdd,Int.reduceSub,Int.reduceNeg,Int.reduceBEq,Int.reduceBNe,hV,hT,hc1,hc1',hl1,hl2,Zdi,true_or,n1,n0,c0,zc,List.length_nil,zat,Nat.sub_zero])<;>try revert hd;refine ttr ?_)
   refine ZR0 (m:=1) hT (hro hV) hal1 hcl rfl hcap1 Xb Xb Xb ?_
   ((have hd:=tv;repeat' first|(first|apply Zad|apply Zac|apply Zab)<;>intro hd<;>try simp only[hd]|simp(disch:=first|assumption|omega|simp only[nx]<;>omega|fail)only[hd,qr,qn,ZNi,↓YA,YY,↓reduceIte,Nat.reduceEqDiff,Nat.reduceAdd,Nat.reduceMul,Nat.reduceLeDiff,Int.reduceToNat,Int.reduceLE,Int.reduceLT,Int.reduceGT,Int.reduceGE,Int.reduceAdd,Int.reduceSub,Int.reduceNeg,Int.reduceBEq,Int.reduceBNe])<;>try revert hd;refine ttr ?_)
   refine Zaq ⟨T,cap,tail.drop 1,rfl,?_,?_,.inl rfl,(KF.refl _ _).set (.inl rfl)⟩
   ·rw[Zaa.Zal lT]
    rfl
   ·simp only[zac,zam,List.length_cons,List.length_nil,zaq]at hcl ⊢
    omega
  | cons y l =>
  generalize hll:y :: l=l at *
  have hnp:0<l.length:=by rw[<- hll];simp
  clear hll
  have hch:chunk 1 l.length (cI l++tail)=rI l:=ZOy tail l
  have hrf:(rI l).flatten=cI l:=ZuR l
  have hrl:(rI l).length=l.length:=Xc
  have hcll:(cI l).length=l.length:=Xc
  have hall:ZaE 1 (rI l)=true:=ZaU (f:=fun n:Int=>[AV.i n]) (sz:=1) (fun _=>rfl) _
  have e1:(((0:Nat):Int) == (l.length:Int))=false:=by simp only[beq_eq_false_iff_ne];omega
  have e1':((0:Int) == (l.length:Int))=false:=by simp only[beq_eq_false_iff_ne];omega
  have w1:=ZCE (s:=l.length) Xa
  have z0:0<=l.length:=zat _
  have w2:IntKind.i64.wrap ((l.length:Int)+((1:Nat):Int))=((l.length+1:Nat):Int):=w1
  have hcons:cI (i :: l)=AV.i i :: cI l:=rfl
  have hcl1:(i :: l).length=l.length+1:=rfl
  unfold InsR
  rw[hcons,hcl1]
  generalize hcc:cI l=cl at *
  generalize rI l=rows at *
  generalize hN:l.length=N at *
  by_cases hroom:N+1<=cap
  ·have d1:decide (((N+1:Nat):Int) > (cap:Int))=false:=by simp only[decide_eq_false_iff_not];omega
   have hVT:V≠T:=fun e=>hTV e.symm
   have m2:Nat.min 1 (N+1)=1:=zaP Xa
   have t1:List.take 1 [[AV.i i]]=[[AV.i i]]:=rfl
   have f1:([[AV.i i]]:List (List AV)).flatten=[AV.i i]:=rfl
   have hVT2:(V≠T)=True:=eq_true hVT
   have hlen0:0<(cl++tail).length:=Xa
   have b1:1<=N+1:=Xa
   have b2:1<=cap:=Xa
   have c1:(cap=1)=False:=by rw[eq_iff_iff,iff_false];omega
   have s1:N+1 - 1=N:=Xa
   have g1:0+(N+1) * 1<=(cl++tail).length:=Xa
   have g2:N+1<=(cl++tail).length:=Xa
   obtain⟨k1,k2⟩:=ZO8 (N+1) (cl++tail) Xa
   have m1:Nat.min (N+1) N=N:=zbC Xa
   have g3:1+N<=(cl++tail).length:=Xa
   have ct:(chunk 1 (N+1) (cl++tail)).take N=rows:=by rw[ZNX,hch]
   have bn:(0:Int)<=((N+1:Nat):Int):=Xa
   have bt:(((N+1:Nat):Int)).toNat=N+1:=Xa
   have p1:(0:Int)<=0+((1:Nat):Int):=Xa
   have p2:((0:Int)+((1:Nat):Int)).toNat=1:=rfl
   have hC0l:(cl++tail).length=cap:=hcl
   generalize hC0:cl++tail=C0 at *
   have lt3:(C0.take 1).length=1:=by rw[zaj];omega
   have g4:1 * 1<=(C0.take 1++cl++C0.drop (1+cl.length)).length:=by rw[zac,zac,lt3];omega
   have g5:1<=(C0.take 1++cl++C0.drop (1+cl.length)).length:=Xa
   have dr:(C0.take 1++cl++C0.drop (1+cl.length)).drop [AV.i i].length=cl++C0.drop (1+cl.length):=by
    rw[zan,zbi (by rw[lt3];rfl)]
   refine Zak hEi vf255 (zaT rfl) fun Q qr qn=>?_
   ((have hd:=tv;repeat' first|(first|apply Zad|apply Zac|apply Zab)<;>intro hd<;>try simp only[hd]|simp(disch:=first|assumption|omega|simp only[nx]<;>omega|fail)only[hd,qr,qn,ZNi,↓YA,YY,↓reduceIte,Nat.reduceEqDiff,Nat.reduceAdd,Nat.reduceMul,Nat.reduceLeDiff,Int.reduceToNat,Int.reduceLE,Int.reduceLT,Int.reduceGT,Int.reduceGE,Int.reduceAdd,Int.reduceSub,Int.reduceNeg,Int.reduceBEq,Int.reduceBNe,hV,hT,hc1,hc1',hl1,hl2,Zdi,e1,e1',w1,w2,c0,z0,zc,hnc,d1,n1,Nat.sub_zero,hroom,Y_ovl,ev_ovl,hTV,hlen0,b1,b2,c1,s1,g1,g2,g3,k1,k2,m1,ct,zby,bn,bt,p1,p2,hVT2,m2,t1,f1,hal1,g4,g5,dr,hrf,zbJ,Nat.one_mul])<;>try revert hd;refine ttr ?_)
   refine Zaq ⟨T,cap,C0.drop (1+cl.length),rfl,?_,?_,.inl rfl,((KF.refl (·=T) H).set (.inl rfl)).set (.inl rfl)⟩
   ·rw[Zaa.Zal (by simp only[nx];exact lT),show List.drop 1 (List.take 1 C0++cl++List.drop (1+cl.length) C0)=cl++List.drop (1+cl.length) C0 from dr]
   ·rw[zac,zaq]
    omega
  ·have d1:decide (((N+1:Nat):Int) > (cap:Int))=true:=by simp only[decide_eq_true_eq];omega
   refine Zak hEi vf255 (zaT rfl) fun Q qr qn=>?_
   ((have hd:=tv;repeat' first|(first|apply Zad|apply Zac|apply Zab)<;>intro hd<;>try simp only[hd]|simp(disch:=first|assumption|omega|simp only[nx]<;>omega|fail)only[hd,qr,qn,ZNi,↓YA,YY,↓reduceIte,Nat.reduceEqDiff,Nat.reduceAdd,Nat.reduceMul,Nat.reduceLeDiff,Int.reduceToNat,Int.reduceLE,Int.reduceLT,Int.reduceGT,Int.reduceGE,Int.reduceAdd,Int.reduceSub,Int.reduceNeg,Int.reduceBEq,Int.reduceBNe,hV,hT,hc1,hc1',hl1,hl2,Zdi,e1,e1',w1,w2,c0,z0,zc,hnc,d1,n1,Nat.sub_zero])<;>try revert hd;refine ttr ?_)
   try rw[Int.sub_zero]
   refine ZGe (bytes:=8) (zero:=[.sc (.int .i64 0)]) hT Xa rfl Xd Xa Xa ?_
   intro cap' tl hcap' hcap3 hlen'
   have zl:((List.replicate (N+1) ([.sc (.int .i64 0)]:List AV)).flatten++tl).length=cap':=by rw[hlen',zbJ]
   generalize (List.replicate (N+1) ([.sc (.int .i64 0)]:List AV)).flatten++tl=Z at *
   have c0':(cap'=0)=False:=by rw[eq_iff_iff,iff_false];omega
   have c1':(cap'=1)=False:=by rw[eq_iff_iff,iff_false];omega
   have z1:0<=N+1:=zat _
   have b1:1<=N+1:=Xa
   have s1:N+1 - 1=N:=Xa
   have m2:Nat.min 1 (N+1)=1:=zaP Xa
   have m3:Nat.min N N=N:=Nat.min_self _
   have t1:List.take 1 [[AV.i i]]=[[AV.i i]]:=rfl
   have f1:([[AV.i i]]:List (List AV)).flatten=[AV.i i]:=rfl
   have t2:rows.take N=rows:=by rw[<- hrl];exact zaz
   have p1:(0:Int)<=0+((1:Nat):Int):=Xa
   have p2:((0:Int)+((1:Nat):Int)).toNat=1:=rfl
   have g1:0+1 * 1<=Z.length:=Xa
   have g1':1<=Z.length:=Xa
   have r1:0+N * 1<=(cl++tail).length:=Xa
   have r2:N<=(cl++tail).length:=Xa
   have g6:1+N<=([AV.i i]++Z.drop [AV.i i].length).length:=by rw[zac,zaq];simp;omega
   have g7:1+N<=(List.drop 1 Z).length+1:=by rw[zaq];omega
   have t3:([AV.i i]++Z.drop [AV.i i].length).take 1=[AV.i i]:=rfl
   ((have hd:=tv;repeat' first|(first|apply Zad|apply Zac|apply Zab)<;>intro hd<;>try simp only[hd]|simp(disch:=first|assumption|omega|simp only[nx]<;>omega|fail)only[hd,qr,qn,ZNi,↓YA,YY,↓reduceIte,Nat.reduceEqDiff,Nat.reduceAdd,Nat.reduceMul,Nat.reduceLeDiff,Int.reduceToNat,Int.reduceLE,Int.reduceLT,Int.reduceGT,Int.reduceGE,Int.reduceAdd,Int.reduceSub,Int.reduceNeg,Int.reduceBEq,Int.reduceBNe,hV,hT,hc1,hc1',hl1,hl2,Zdi,c0',c1',z1,zc,b1,s1,m2,m3,t1,f1,t2,p1,p2,g1,g1',r1,r2,hal1,hall,hch,hcap',hnc,c0,z0,w1,w2,Nat.sub_zero,zby,g6,g7,t3,hrl,hrf,zbJ,Nat.one_mul])<;>try revert hd;refine ttr ?_)
   refine Zaq ⟨H.next,cap',(AV.i i :: Z.drop 1).drop (1+cl.length),rfl,Zaa.Zat rfl,?_,.inr (zad _),(KF.refl _ _).alloc⟩
   simp only[List.length_cons,zac,zaq]
   omega
open Go.RowKit Go.Lib
def kdO:Zb3->Nat
 | .tok _ _ _=>0
 | .map _ _ _=>1
 | .iter _ _ _=>2
 | .cells _ E=>E+3
structure KD (ks:List Nat) (H G:Zaa):Prop where
 n:H.next<=G.next
 g:∀i o,kdO o ∉ ks->H.get i=some o->G.get i=some o
section
variable {H G K:Zaa} {ks js:List Nat} {Fp:Nat->Prop}
theorem KD.refl (ks:List Nat) (H:Zaa):KD ks H H:=⟨zad _,fun _ _ _ h=>h⟩
theorem KD.trans (h:KD ks H G) (k:KD ks G K):KD ks H K:=⟨zaG h.n k.n,fun i o hi e=>k.g i o hi (h.g i o hi e)⟩
theorem KD.mono (h:KD js H G) (hs:∀x,x∈js->x∈ks):KD ks H G:=⟨h.n,fun i o hi e=>h.g i o (fun hj=>hi (hs _ hj)) e⟩
theorem KD.ext (h:Zaa.Ext H G):KD ks H G:=⟨h.next,fun i o _ e=>h.get i o e⟩
theorem KD.bump (h:KD ks H G) (k:Nat):KD ks H (G.bump k):=h.trans (KD.ext (Zaa.Ext.refl _).bump)
theorem KD.set (h:KD ks H G) {i:Nat} {o b:Zb3} (hg:G.get i=some b) (hk:kdO b∈ks):KD ks H (G.set i o):=⟨h.n,fun j c hj e=>by
 have h1:=h.g j c hj e
 rw[Zaa.Zah (fun ej=>by rw[ej,hg]at h1;injection h1 with h1;rw[<- h1]at hj;exact hj hk)]
 exact h1⟩
theorem KD.of (h:KF Fp H G) (hf:∀i o,Fp i->H.get i=some o->kdO o∈ks):KD ks H G:=⟨h.n,fun i o hi e=>h.g i o (fun hp=>hi (hf i o hp e)) e⟩
theorem ZOb {i j:Nat} {a b:Zb3} (h:H.get i=some a) (k:H.get j=some b) (hk:kdO a≠kdO b):i≠j:=fun e=>by
 rw[e,k]at h
 injection h with h
 exact hk (by rw[h])
end
abbrev Its:=List (Int×Tx)
abbrev kys (l:Its):List Int:=l.map (·.1)
def ZRS (i:Int) (s:Tx) (l:Its):Its:=(i,s) :: l.filter fun p=>decide (p.1≠i)
def putC (i:Int) (s:Tx) (l:Its):Its:=((i,s) :: l).take 8
theorem ZNo {i:Int} {s:Tx}:∀{l:Its},Zcz i l=some s->(i,s)∈l
 | (k',u) :: M,h=>by
  unfold Zcz at h
  split at h
  ·rename_i e;injection h with h;subst e h;exact zak
  ·exact zar _ (ZNo h)
theorem ZMQ {i:Int}:∀{l:Its},Zcz i l=none ↔ i ∉ kys l
 | []=>by simp[Zcz]
 | (k',u) :: M=>by
  have ih:=ZMQ (i:=i) (l:=M)
  unfold Zcz
  by_cases h:i=k'
  ·simp[h]
  ·rw[if_neg h,ih];simp[h]
theorem ZRR {i:Int} {s:Tx}:∀{l:Its},(kys l).Nodup->(i,s)∈l->Zcz i l=some s
 | (k',u) :: M,hn,h=>by
  simp only[kys,zaD,zaU]at hn
  unfold Zcz
  rcases zay.1 h with h|h
  ·injection h with h1 h2;rw[if_pos h1,h2]
  ·have hne:i≠k':=fun e=>hn.1 (by rw[<- e];exact zaH.2 ⟨_,h,rfl⟩)
   rw[if_neg hne,ZRR hn.2 h]
theorem ZSH {l m:Its} (h:l.Perm m) (hn:(kys l).Nodup) (i:Int):Zcz i l=Zcz i m:=by
 have hm:(kys m).Nodup:=(h.map (·.1)).nodup_iff.1 hn
 cases e:Zcz i l with
 | none =>
  rw[ZMQ]at e
  exact(ZMQ.2 fun hx=>e ((h.map (·.1)).mem_iff.2 hx)).symm
 | some s=>exact(ZRR hm (h.mem_iff.1 (ZNo e))).symm
theorem ZQx {i:Int} {s:Tx}:∀{M:Its},i ∉ kys M->ZbU i s M=M++[(i,s)]
 | [],_=>rfl
 | (k',u) :: M,h=>by
  simp only[kys,zaD,zay,not_or]at h
  unfold ZbU
  rw[if_neg h.1,ZQx h.2]
  rfl
def delC (i:Int):Its->Its
 | []=>[]
 | p :: M=>if i=p.1 then M else p :: delC i M
theorem ZQJ (i:Int):∀M:Its,ZSm (kI i) (Zgf kI eS M)=Zgf kI eS (delC i M)
 | []=>rfl
 | (k',u) :: M=>by
  have ih:=ZQJ i M
  unfold Zgf at ih ⊢
  simp only[zaD,ZSm,ZkH,delC]
  by_cases h:i=k'
  ·simp[h]
  ·simp[h,ih]
theorem ZPr {i:Int} {s:Tx} {l:Its}:∀{M:Its},(kys M).Nodup->M.Perm ((i,s) :: l)->(delC i M).Perm l
 | [],_,h=>by simp at h
 | p :: M,hn,h=>by
  unfold delC
  by_cases e:i=p.1
  ·rw[if_pos e]
   have hp:p=(i,s):=by
    have h1:(i,s)∈p :: M:=h.mem_iff.2 zak
    rcases zay.1 h1 with h1|h1
    ·exact h1.symm
    ·simp only[kys,zaD,zaU]at hn
     exact absurd (zaH.2 ⟨_,h1,e⟩) hn.1
   rw[hp]at h
   exact(List.perm_cons _).1 h
  ·rw[if_neg e]
   have h1:p∈l:=by
    have h1:p∈(i,s) :: l:=h.mem_iff.1 zak
    rcases zay.1 h1 with h1|h1
    ·exact absurd (by rw[h1]) e
    ·exact h1
   obtain⟨l1,l2,rfl⟩:=List.append_of_mem h1
   have h2:(p :: M).Perm (p :: (i,s) :: (l1++l2)):=h.trans ((List.Perm.cons _ List.perm_middle).trans (List.Perm.swap _ _ _))
   have h3:=(List.perm_cons _).1 h2
   simp only[kys,zaD,zaU]at hn
   exact((ZPr hn.2 h3).cons p).trans List.perm_middle.symm
def ZOp (o:AV) (l:List Int) (H:Zaa):Prop:=(l=[]/\o=.sl .full [])\/∃T cap tail,o=.arr T 0 l.length cap/\H.get T=some (.cells (cI l++tail) 3)/\(cI l++tail).length=cap/\1<=cap
structure CaA (C M:Nat) (o:AV) (l:Its) (hi mi:Int) (H:Zaa):Prop where
 c:H.get C=some (.cells [.i 8,o,.mp M,.i hi,.i mi] 170)
 m:∃mm del,H.get M=some (.map (.one (.int .i64)) (Zgf kI eS mm) del)/\mm.Perm l
 o:ZOp o (kys l) H
 nd:(kys l).Nodup
 n8:l.length<=8
def CKs:List Nat:=[1,3+3,170+3]
section
variable {C M:Nat} {o:AV} {l:Its} {hi mi:Int} {H G:Zaa}
theorem ZOp.keep {ks:List Nat} {l:List Int} (h:ZOp o l H) (k:KD ks H G) (hk:3+3 ∉ ks):ZOp o l G:=by
 rcases h with h|⟨T,cap,tail,h1,h2,h3⟩
 ·exact .inl h
 ·exact .inr ⟨T,cap,tail,h1,k.g _ _ hk h2,h3⟩
theorem CaA.keep {ks:List Nat} (h:CaA C M o l hi mi H) (k:KD ks H G) (hk:∀x∈CKs,x ∉ ks):CaA C M o l hi mi G:=by
 obtain⟨mm,del,h1,h2⟩:=h.m
 exact⟨k.g _ _ (hk _ (by simp[CKs,kdO])) h.c,⟨mm,del,k.g _ _ (hk _ (by simp[CKs,kdO])) h1,h2⟩,h.o.keep k (hk _ (by simp[CKs])),h.nd,h.n8⟩
theorem ZOp.ext {l:List Int} (h:ZOp o l H) (k:Zaa.Ext H G):ZOp o l G:=h.keep (KD.ext (ks:=[]) k) Xc
theorem ZMa (h:CaA C M o l hi mi H):Zay Tryz.prog 118 [.ptr C 0] H (Pure H (.b true)):=by
 have gC:=h.c
 have d1:decide ((8:Int) > 0)=true:=rfl
 refine fnQ ZFS fun Q qr qn=>?_
 ((have hd:=tv;repeat' first|(first|apply Zad|apply Zac|apply Zab)<;>intro hd<;>try simp only[hd]|simp(disch:=first|assumption|omega|simp only[nx]<;>omega|fail)only[hd,qr,qn,ZJg,↓YA,YY,↓reduceIte,Nat.reduceEqDiff,Nat.reduceAdd,Nat.reduceMul,Nat.reduceLeDiff,Int.reduceToNat,Int.reduceLE,Int.reduceLT,Int.reduceGT,Int.reduceGE,Int.reduceAdd,Int.reduceSub,Int.reduceNeg,Int.reduceBEq,Int.reduceBNe,gC,d1])<;>try revert hd;refine ttr ?_)
 refine ZbC (by rfl)
def FstR (C M:Nat) (l:List Int) (hi mi:Int) (H:Zaa) (r:AV) (G:Zaa):Prop:=r=.tup []/\∃o,G.get C=some (.cells [.i 8,o,.mp M,.i hi,.i mi] 170)/\ZOp o l G/\KD [3+3,170+3] H G
theorem ZQP {l:List Int} {i:Int} (hn:l.Nodup):l.eraseIdx (l.idxOf i)=l.filter fun x=>decide (x≠i):=by
 rw[<- List.erase_eq_eraseIdx_of_idxOf (l:=l) (a:=i) rfl,hn.erase_eq_filter]
 refine List.filter_congr fun x _=>?_
 by_cases h:x=i<;>simp[h]
theorem ZNN {l:List Int} {i:Int} (h:i ∉ l):(l.filter fun x=>decide (x≠i))=l:=zcz.2 fun x hx=>decide_eq_true fun e=>h (e ▸ hx)
theorem ZOp.set {l:List Int} {i:Nat} {o' b:Zb3} (h:ZOp o l H) (hg:H.get i=some b) (hk:kdO b≠3+3):ZOp o l (H.set i o') :=
 h.keep (KD.set (ks:=[kdO b]) (KD.refl _ _) hg zak) (by simp;exact zbn hk)
theorem ZR4 {l2:List Int} {i:Int} {ob:Zb3} (hn:l2.length<=2000) (hO:ZOp o l2 H) (gC:H.get C=some ob) (hk:kdO ob≠3+3):Zay Tryz.prog 255 [o,.i 0,.arr H.next 0 1 1] (H.alloc (.cells [.i i] 3)) fun r G=>ZOp r (i :: l2) G/\G.get C=some ob/\KD [3+3] H G:=by
 have fin:∀T r G,(∀b,H.get T=some b->kdO b=3+3)->InsR T (i :: l2) (H.alloc (.cells [.i i] 3)) r G->T≠H.next\/True->ZOp r (i :: l2) G/\G.get C=some ob/\KD [3+3] H G:=by
  rintro T r G hT ⟨T',cap,tail,rfl,g1,g2,g3,kf⟩ _
  have kk:KD [3+3] H G:=by
   refine⟨zaG (Nat.le_succ _) kf.n,fun j b hj e=>kf.g j b (fun ej=>?_) ((Zaa.Ext.refl H).alloc.get _ _ e)⟩
   subst ej
   exact hj (by rw[hT b e];exact zak)
  refine⟨.inr ⟨T',cap,tail,rfl,g1,g2,?_⟩,kk.g _ _ (by simp;exact hk) gC,kk⟩
  rw[<- g2]
  simp
 rcases hO with⟨rfl,rfl⟩|⟨T,cap,tail,rfl,h1,h2,h3⟩
 ·refine Zay.mono (ZOf H.next H.next [] i _ _ Xc (Zaa.Zat rfl) (.inl ⟨rfl,rfl⟩)) fun r G h=>fin H.next r G (fun b hb=>?_) h (.inr trivial)
  exact absurd (Zaa.lt hb) Xa
 ·have lT:=Zaa.lt h1
  refine Zay.mono (ZOf T H.next l2 i _ _ Xa (Zaa.Zat rfl) (.inr ⟨tail,cap,rfl,(Zaa.Ext.refl H).alloc.get _ _ h1,h2,h3,Xa⟩)) fun r G h=>fin T r G (fun b hb=>?_) h (.inr trivial)
  rw[h1]at hb
  injection hb with hb
  rw[<- hb]
  rfl
theorem ZNh (l:List Int) (i:Int) (gC:H.get C=some (.cells [.i 8,o,.mp M,.i hi,.i mi] 170)) (hO:ZOp o l H) (hn:l.Nodup) (hl:l.length<=2000):Zay Tryz.prog 245 [.ptr C 0,.i i] H (FstR C M (i :: l.filter fun x=>decide (x≠i)) hi mi H):=by
 have lC:=Zaa.lt gC
 have kC:∀o,kdO (.cells [.i 8,o,.mp M,.i hi,.i mi] 170)≠3+3:=fun _=>by show 170+3≠3+3;decide
 have fin:∀{r:AV} {K G:Zaa} {L:List Int},KD [3+3,170+3] H K->(∃o2,G.get C=some (.cells [.i 8,o2,.mp M,.i hi,.i mi] 170))->ZOp r L G->KD [3+3] K G->L=(i :: l.filter fun x=>decide (x≠i))->∃r2 H2,Zb6 (.tup []) (G.set C (.cells [.i 8,r,.mp M,.i hi,.i mi] 170)) r2 H2/\FstR C M (i :: l.filter fun x=>decide (x≠i)) hi mi H r2 H2:=by
  rintro r K G L k1 ⟨o2,g1⟩ h1 k2 rfl
  refine Zaq ⟨rfl,r,Zaa.Zal (Zaa.lt g1),h1.set g1 (kC o2),KD.set (k1.trans (k2.mono Xc)) g1 (by simp[kdO])⟩
 have d1:decide ((-1:Int)≥0)=false:=rfl
 by_cases hm:i∈l
 ·rcases hO with⟨rfl,_⟩|⟨T,cap,tail,rfl,h1,h2,h3⟩
  ·cases hm
  have hat:atI l i=(l.idxOf i:Int):=by unfold atI;rw[if_pos hm]
  have hlt:l.idxOf i<l.length:=List.idxOf_lt_length_iff.2 hm
  have hix:=fun K hK=>ZNY T cap l tail i K Xa hK
  have hdl:=fun K hK=>ZRi T cap (l.idxOf i) l tail K hlt Xa hK h2
  rw[ZQP hn]at hdl
  rw[hat]at hix
  generalize l.idxOf i=a at *
  have d2:decide ((a:Int)≥0)=true:=Xc
  have w1:IntKind.i64.wrap ((a:Int)+1)=((a+1:Nat):Int):=by rw[Zaw Xa Xa];omega
  have hfl:(l.filter fun x=>decide (x≠i)).length<=2000:=zaG (List.length_filter_le _ _) hl
  generalize hlf:(l.filter fun x=>decide (x≠i))=lf at *
  refine Zak hEi vf245 (zaT rfl) fun Q qr qn=>?_
  ((have hd:=tv;repeat' first|(first|apply Zad|apply Zac|apply Zab)<;>intro hd<;>try simp only[hd]|simp(disch:=first|assumption|omega|simp only[nx]<;>omega|fail)only[hd,qr,qn,ZNc,↓YA,YY,↓reduceIte,Nat.reduceEqDiff,Nat.reduceAdd,Nat.reduceMul,Nat.reduceLeDiff,Int.reduceToNat,Int.reduceLE,Int.reduceLT,Int.reduceGT,Int.reduceGE,Int.reduceAdd,Int.reduceSub,Int.reduceNeg,Int.reduceBEq,Int.reduceBNe,gC])<;>try revert hd;refine ttr ?_)
  refine qcp (hix _ h1) fun k1=>?_
  ((have hd:=tv;repeat' first|(first|apply Zad|apply Zac|apply Zab)<;>intro hd<;>try simp only[hd]|simp(disch:=first|assumption|omega|simp only[nx]<;>omega|fail)only[hd,qr,qn,ZNc,↓YA,YY,↓reduceIte,Nat.reduceEqDiff,Nat.reduceAdd,Nat.reduceMul,Nat.reduceLeDiff,Int.reduceToNat,Int.reduceLE,Int.reduceLT,Int.reduceGT,Int.reduceGE,Int.reduceAdd,Int.reduceSub,Int.reduceNeg,Int.reduceBEq,Int.reduceBNe,gC,d2,w1])<;>try revert hd;refine ttr ?_)
  refine Zap.use (hdl _ ((Zaa.ZaB).trans h1)) ?_
  rintro _ G ⟨rfl,tl,rfl,h4⟩
  have hTC:T≠C:=ZOb h1 gC (by show 3+3≠170+3;decide)
  have g1:((H.bump k1).set T (.cells (cI lf++tl) 3)).get C=some (.cells [.i 8,.arr T 0 l.length cap,.mp M,.i hi,.i mi] 170):=by
   rw[Zaa.Zah (zbn hTC),Zaa.ZaB]
   exact gC
  have kk:KD [3+3,170+3] H ((H.bump k1).set T (.cells (cI lf++tl) 3)):=((KD.refl _ _).bump k1).set ((Zaa.ZaB).trans h1) (by simp[kdO])
  have gT:((H.bump k1).set T (.cells (cI lf++tl) 3)).get T=some (.cells (cI lf++tl) 3):=Zaa.Zal (Zaa.lt ((Zaa.ZaB).trans h1))
  generalize (H.bump k1).set T (.cells (cI lf++tl) 3)=G at *
  have lG:=Zaa.lt g1
  have kk2:=KD.set (o:=.cells [.i 8,.arr T 0 lf.length cap,.mp M,.i hi,.i mi] 170) kk g1 (by simp[kdO])
  have hO2:ZOp (.arr T 0 lf.length cap) lf (G.set C (.cells [.i 8,.arr T 0 lf.length cap,.mp M,.i hi,.i mi] 170)):=.inr ⟨T,cap,tl,rfl,(Zaa.Zah hTC).trans gT,h4,h3⟩
  have g2:(G.set C (.cells [.i 8,.arr T 0 lf.length cap,.mp M,.i hi,.i mi] 170)).get C=some (.cells [.i 8,.arr T 0 lf.length cap,.mp M,.i hi,.i mi] 170):=Zaa.Zal lG
  ((have hd:=tv;repeat' first|(first|apply Zad|apply Zac|apply Zab)<;>intro hd<;>try simp only[hd]|simp(disch:=first|assumption|omega|simp only[nx]<;>omega|fail)only[hd,qr,qn,ZNc,↓YA,YY,↓reduceIte,Nat.reduceEqDiff,Nat.reduceAdd,Nat.reduceMul,Nat.reduceLeDiff,Int.reduceToNat,Int.reduceLE,Int.reduceLT,Int.reduceGT,Int.reduceGE,Int.reduceAdd,Int.reduceSub,Int.reduceNeg,Int.reduceBEq,Int.reduceBNe,g1])<;>try revert hd;refine ttr ?_)
  refine Zap.use (ZR4 (i:=i) hfl hO2 g2 (kC _)) ?_
  rintro r G2 ⟨⟨q1,_⟩|⟨T',cap',tail',rfl,q4⟩,q2,q3⟩
  ·cases q1
  ((have hd:=tv;repeat' first|(first|apply Zad|apply Zac|apply Zab)<;>intro hd<;>try simp only[hd]|simp(disch:=first|assumption|omega|simp only[nx]<;>omega|fail)only[hd,qr,qn,ZNc,↓YA,YY,↓reduceIte,Nat.reduceEqDiff,Nat.reduceAdd,Nat.reduceMul,Nat.reduceLeDiff,Int.reduceToNat,Int.reduceLE,Int.reduceLT,Int.reduceGT,Int.reduceGE,Int.reduceAdd,Int.reduceSub,Int.reduceNeg,Int.reduceBEq,Int.reduceBNe,q2])<;>try revert hd;refine ttr ?_)
  exact fin kk2 ⟨_,q2⟩ (.inr ⟨T',cap',tail',rfl,q4⟩) q3 rfl
 ·have hat:atI l i = -1:=by unfold atI;rw[if_neg hm]
  have hix:∀K,Zaa.Ext H K->Zay Tryz.prog 119 [o,.i i] K (Pure K (.i (-1))):=fun K hK=>by
   rw[<- hat]
   rcases hO with⟨rfl,rfl⟩|⟨T,cap,tail,rfl,h1,h2,h3⟩
   ·exact ZOh .full [] i K Xc
   ·exact ZNY T cap l tail i K Xa (hK.get _ _ h1)
  rw[ZNN hm]at fin ⊢
  have hO2:∀k,ZOp o l (H.bump k):=fun k=>hO.ext (Zaa.Ext.refl _).bump
  refine Zak hEi vf245 (zaT rfl) fun Q qr qn=>?_
  ((have hd:=tv;repeat' first|(first|apply Zad|apply Zac|apply Zab)<;>intro hd<;>try simp only[hd]|simp(disch:=first|assumption|omega|simp only[nx]<;>omega|fail)only[hd,qr,qn,ZNc,↓YA,YY,↓reduceIte,Nat.reduceEqDiff,Nat.reduceAdd,Nat.reduceMul,Nat.reduceLeDiff,Int.reduceToNat,Int.reduceLE,Int.reduceLT,Int.reduceGT,Int.reduceGE,Int.reduceAdd,Int.reduceSub,Int.reduceNeg,Int.reduceBEq,Int.reduceBNe,gC])<;>try revert hd;refine ttr ?_)
  refine qcp (hix _ (Zaa.Ext.refl _)) fun k1=>?_
  ((have hd:=tv;repeat' first|(first|apply Zad|apply Zac|apply Zab)<;>intro hd<;>try simp only[hd]|simp(disch:=first|assumption|omega|simp only[nx]<;>omega|fail)only[hd,qr,qn,ZNc,↓YA,YY,↓reduceIte,Nat.reduceEqDiff,Nat.reduceAdd,Nat.reduceMul,Nat.reduceLeDiff,Int.reduceToNat,Int.reduceLE,Int.reduceLT,Int.reduceGT,Int.reduceGE,Int.reduceAdd,Int.reduceSub,Int.reduceNeg,Int.reduceBEq,Int.reduceBNe,gC,d1])<;>try revert hd;refine ttr ?_)
  refine Zap.use (ZR4 (i:=i) hl (hO2 k1) ((Zaa.ZaB).trans gC) (kC _)) ?_
  rintro r G2 ⟨⟨q1,_⟩|⟨T',cap',tail',rfl,q4⟩,q2,q3⟩
  ·cases q1
  ((have hd:=tv;repeat' first|(first|apply Zad|apply Zac|apply Zab)<;>intro hd<;>try simp only[hd]|simp(disch:=first|assumption|omega|simp only[nx]<;>omega|fail)only[hd,qr,qn,ZNc,↓YA,YY,↓reduceIte,Nat.reduceEqDiff,Nat.reduceAdd,Nat.reduceMul,Nat.reduceLeDiff,Int.reduceToNat,Int.reduceLE,Int.reduceLT,Int.reduceGT,Int.reduceGE,Int.reduceAdd,Int.reduceSub,Int.reduceNeg,Int.reduceBEq,Int.reduceBNe,q2])<;>try revert hd;refine ttr ?_)
  exact fin ((KD.refl _ _).bump k1) ⟨_,q2⟩ (.inr ⟨T',cap',tail',rfl,q4⟩) q3 rfl
end
open Go.RowKit Go.Lib
def CaS (C M:Nat) (l:Its) (H:Zaa):Prop:=∃o hi mi,CaA C M o l hi mi H
section
variable {C M:Nat} {o:AV} {l:Its} {hi mi:Int} {H G:Zaa}
theorem hit_kys (i:Int) (s:Tx) (l:Its):kys (ZRS i s l)=i :: (kys l).filter fun x=>decide (x≠i):=by
 unfold ZRS kys
 rw[zaD,List.filter_map]
 rfl
theorem ZNw {i:Int} {s:Tx}:∀{l:Its},(kys l).Nodup->(i,s)∈l->(ZRS i s l).Perm l
 | p :: l,hn,h=>by
  simp only[kys,zaD,zaU]at hn
  unfold ZRS
  by_cases e:p.1=i
  ·have hp:p=(i,s):=by
    rcases zay.1 h with h|h
    ·exact h.symm
    ·exact absurd (zaH.2 ⟨_,h,e.symm⟩) hn.1
   rw[List.filter_cons,if_neg (by simp[e]),hp]
   refine List.Perm.cons _ ?_
   rw[zcz.2]
   intro q hq
   refine decide_eq_true fun eq=>hn.1 (zaH.2 ⟨_,hq,?_⟩)
   rw[eq,e]
  ·have hm:(i,s)∈l:=by
    rcases zay.1 h with h|h
    ·exact absurd (by rw[<- h]) e
    ·exact h
   rw[List.filter_cons,if_pos (by simp[e])]
   exact(List.Perm.swap _ _ _).trans ((ZNw hn.2 hm).cons p)
theorem ZRz {i:Int} {s:Tx} (hn:(kys l).Nodup) (h:(i,s)∈l):(kys (ZRS i s l)).Nodup:=((ZNw hn h).map (·.1)).nodup_iff.2 hn
theorem hit_len {i:Int} {s:Tx} (hn:(kys l).Nodup) (h:(i,s)∈l):(ZRS i s l).length=l.length:=(ZNw hn h).length_eq
def GetR (C M:Nat) (l:Its) (i:Int) (H:Zaa) (r:AV) (G:Zaa):Prop:=KD CKs H G/\match Zcz i l with
 | some s=>r=.tup [eS s,.b true]/\CaS C M (ZRS i s l) G
 | none=>r=.tup [eS [],.b false]/\CaS C M l G
theorem ZQY (h:CaS C M l H) (i:Int):Zay Tryz.prog 216 [.ptr C 0,.i i] H (GetR C M l i H):=by
 obtain⟨o,hi,mi,h⟩:=h
 have gC:=h.c
 obtain⟨mm,del,gM,hp⟩:=h.m
 have lC:=Zaa.lt gC
 have hCM:C≠M:=ZOb gC gM (by show 170+3≠1;decide)
 have hMC:M≠C:=zbn hCM
 have hmn:(kys mm).Nodup:=(hp.map (·.1)).nodup_iff.2 h.nd
 have hfind:=ZbV (vf:=eS) ZkH i mm
 rw[ZSH hp hmn]at hfind
 have hof:=ZrS i
 have kC:∀(o:AV) (hi mi:Int),kdO (.cells [.i 8,o,.mp M,.i hi,.i mi] 170)≠3+3:=fun _ _ _=>by show 170+3≠3+3;decide
 have hx0:Zaa.Ext H H:=.refl _
 unfold GetR
 cases e:Zcz i l with
 | none =>
  rw[e]at hfind
  have hfind:ZdG (kI i) (Zgf kI eS mm)=none:=hfind
  have fin:∀k1,∃r2 H2,Zb6 (.tup [eS [],.b false]) ((H.bump k1).set C (.cells [.i 8,o,.mp M,.i hi,.i (IntKind.i64.wrap (mi+1))] 170)) r2 H2/\KD CKs H H2/\r2=.tup [eS [],.b false]/\CaS C M l H2:=fun k1=>by
   refine Zaq ⟨KD.set ((KD.refl _ _).bump k1) ((Zaa.ZaB).trans gC) (by simp[kdO,CKs]),rfl,o,hi,_,Zaa.Zal Xe,⟨mm,del,?_,hp⟩,?_,h.nd,h.n8⟩
   ·rw[Zaa.Zah hMC]
    exact(Zaa.ZaB).trans gM
   ·exact(h.o.ext (Zaa.Ext.refl _).bump).set ((Zaa.ZaB).trans gC) (kC _ _ _)
  generalize Zgf kI eS mm=e1 at *
  refine fnQ cf216 fun Q qr qn=>?_
  refine Bz0 ?_
  refine qcp (ZMa h) fun k1=>?_
  refine Bz1 (X4 gC gM hof hfind) ?_
  exact fin k1
 | some s =>
  rw[e]at hfind
  have hfind:ZdG (kI i) (Zgf kI eS mm)=some (eS s):=hfind
  have hmem:=ZNo e
  have hO:∀k1,ZOp o (kys l) ((H.bump k1).set C (.cells [.i 8,o,.mp M,.i (IntKind.i64.wrap (hi+1)),.i mi] 170)):=fun k1=>(h.o.ext (Zaa.Ext.refl _).bump).set ((Zaa.ZaB).trans gC) (kC _ _ _)
  have hl:=h.n8
  have hkl:(kys l).length<=2000:=by rw[zam];omega
  have hk1:∀k1,KD CKs H ((H.bump k1).set C (.cells [.i 8,o,.mp M,.i (IntKind.i64.wrap (hi+1)),.i mi] 170)):=fun k1=>KD.set ((KD.refl _ _).bump k1) ((Zaa.ZaB).trans gC) (by simp[kdO,CKs])
  have gM2:∀k1,((H.bump k1).set C (.cells [.i 8,o,.mp M,.i (IntKind.i64.wrap (hi+1)),.i mi] 170)).get M=some (.map (.one (.int .i64)) (Zgf kI eS mm) del):=fun k1=>by
   rw[Zaa.Zah hMC]
   exact(Zaa.ZaB).trans gM
  have fin:∀{k1:Nat} {G:Zaa},FstR C M (i :: (kys l).filter fun x=>decide (x≠i)) (IntKind.i64.wrap (hi+1)) mi ((H.bump k1).set C (.cells [.i 8,o,.mp M,.i (IntKind.i64.wrap (hi+1)),.i mi] 170)) (.tup []) G->∃r2 H2,Zb6 (.tup [eS s,.b true]) G r2 H2/\KD CKs H H2/\r2=.tup [eS s,.b true]/\CaS C M (ZRS i s l) H2:=by
   rintro k1 G ⟨_,o2,q1,q2,q3⟩
   refine Zaq ⟨(hk1 k1).trans (q3.mono (by simp[CKs])),rfl,o2,_,_,q1,⟨mm,del,q3.g _ _ (by simp[kdO]) (gM2 k1),hp.trans (ZNw h.nd hmem).symm⟩,?_,ZRz h.nd hmem,by rw[hit_len h.nd hmem];exact hl⟩
   rw[hit_kys]
   exact q2
  have hnd:=h.nd
  generalize Zgf kI eS mm=e1 at *
  refine fnQ cf216 fun Q qr qn=>?_
  refine Bz0 ?_
  refine qcp (ZMa h) fun k1=>?_
  refine Bz1 (X4 gC gM hof hfind) ?_
  refine Zap.use (ZNh (kys l) i (Zaa.Zal Xe) (hO k1) hnd hkl) ?_
  rintro r G hr
  have hr0:r=.tup []:=hr.1
  subst hr0
  refine Bz0 ?_
  exact fin hr
def PutR (C M:Nat) (l:Its) (H:Zaa) (r:AV) (G:Zaa):Prop:=KD CKs H G/\r=.tup []/\CaS C M l G
theorem cput_new (h:CaS C M l H) (i:Int) (s:Tx) (hnew:i ∉ kys l):Zay Tryz.prog 217 [.ptr C 0,.i i,eS s] H (PutR C M (putC i s l) H):=by
 obtain⟨o,hi,mi,h⟩:=h
 have gC:=h.c
 obtain⟨mm,del,gM,hp⟩:=h.m
 have lC:=Zaa.lt gC
 have lM:=Zaa.lt gM
 have hCM:C≠M:=ZOb gC gM (by show 170+3≠1;decide)
 have hMC:M≠C:=zbn hCM
 have hmn:(kys mm).Nodup:=(hp.map (·.1)).nodup_iff.2 h.nd
 have hnm:i ∉ kys mm:=fun hx=>hnew ((hp.map (·.1)).mem_iff.1 hx)
 have hof:=ZrS i
 have hset:=ZcH (vf:=eS) ZkH i s mm
 rw[ZQx hnm]at hset
 have hp2:(mm++[(i,s)]).Perm ((i,s) :: l):=zbE.trans (hp.cons _)
 have hmn2:(kys (mm++[(i,s)])).Nodup:=by
  rw[(hp2.map (·.1)).nodup_iff]
  exact zaU.2 ⟨hnew,h.nd⟩
 have kC:∀(o:AV) (hi mi:Int),kdO (.cells [.i 8,o,.mp M,.i hi,.i mi] 170)≠3+3:=fun _ _ _=>by show 170+3≠3+3;decide
 have hl:=h.n8
 have hkl:(kys l).length<=2000:=by rw[zam];omega
 have hnd:=h.nd
 have hO:∀k1,ZOp o (kys l) ((H.bump k1).set M (.map (.one (.int .i64)) (Zgf kI eS (mm++[(i,s)])) del)):=fun k1=>(h.o.ext (Zaa.Ext.refl _).bump).set ((Zaa.ZaB).trans gM) (by show 1≠3+3;decide)
 have hk1:∀k1,KD CKs H ((H.bump k1).set M (.map (.one (.int .i64)) (Zgf kI eS (mm++[(i,s)])) del)):=fun k1=>KD.set ((KD.refl _ _).bump k1) ((Zaa.ZaB).trans gM) (by simp[kdO,CKs])
 have gC2:∀k1,((H.bump k1).set M (.map (.one (.int .i64)) (Zgf kI eS (mm++[(i,s)])) del)).get C=some (.cells [.i 8,o,.mp M,.i hi,.i mi] 170):=fun k1=>by
  rw[Zaa.Zah hCM]
  exact(Zaa.ZaB).trans gC
 have gM2:∀k1,((H.bump k1).set M (.map (.one (.int .i64)) (Zgf kI eS (mm++[(i,s)])) del)).get M=some (.map (.one (.int .i64)) (Zgf kI eS (mm++[(i,s)])) del):=fun k1=>Zaa.Zal Xe
 have hfl:=ZNN hnew
 have hfst:=fun k1=>ZNh (kys l) i (gC2 k1) (hO k1) hnd hkl
 rw[hfl]at hfst
 have kll:(kys l).length=l.length:=zam ..
 by_cases h8:l.length<8
 ·have hpt:putC i s l=(i,s) :: l:=zav Xf
  have fin:∀{k1:Nat} {G:Zaa},FstR C M (i :: kys l) hi mi ((H.bump k1).set M (.map (.one (.int .i64)) (Zgf kI eS (mm++[(i,s)])) del)) (.tup []) G->∃r2 H2,Zb6 (.tup []) G r2 H2/\PutR C M (putC i s l) H r2 H2:=by
   rintro k1 G ⟨_,o2,q1,q2,q3⟩
   rw[hpt]
   exact Zaq ⟨(hk1 k1).trans (q3.mono (by simp[CKs])),rfl,o2,_,_,q1,⟨_,del,q3.g _ _ (by simp[kdO]) (gM2 k1),hp2⟩,q2,zaU.2 ⟨hnew,hnd⟩,by rw[List.length_cons];omega⟩
  have d1:decide (((l.length+1:Nat):Int) > 8)=false:=decide_eq_false Xa
  generalize Zgf kI eS (mm++[(i,s)])=e2 at *
  generalize Zgf kI eS mm=e1 at *
  refine Zak hEi vf217 (zaT rfl) fun Q qr qn=>?_
  ((have hd:=tv;repeat' first|(first|apply Zad|apply Zac|apply Zab)<;>intro hd<;>try simp only[hd]|simp(disch:=first|assumption|omega|simp only[nx]<;>omega|fail)only[hd,qr,qn,ZNO,↓YA,YY,↓reduceIte,Nat.reduceEqDiff,Nat.reduceAdd,Nat.reduceMul,Nat.reduceLeDiff,Int.reduceToNat,Int.reduceLE,Int.reduceLT,Int.reduceGT,Int.reduceGE,Int.reduceAdd,Int.reduceSub,Int.reduceNeg,Int.reduceBEq,Int.reduceBNe])<;>try revert hd;refine ttr ?_)
  refine qcp (ZMa h) fun k1=>?_
  ((have hd:=tv;repeat' first|(first|apply Zad|apply Zac|apply Zab)<;>intro hd<;>try simp only[hd]|simp(disch:=first|assumption|omega|simp only[nx]<;>omega|fail)only[hd,qr,qn,ZNO,↓YA,YY,↓reduceIte,Nat.reduceEqDiff,Nat.reduceAdd,Nat.reduceMul,Nat.reduceLeDiff,Int.reduceToNat,Int.reduceLE,Int.reduceLT,Int.reduceGT,Int.reduceGE,Int.reduceAdd,Int.reduceSub,Int.reduceNeg,Int.reduceBEq,Int.reduceBNe,gC,gM,hof,hset])<;>try revert hd;refine ttr ?_)
  refine Zap.use (hfst k1) ?_
  rintro r G ⟨rfl,o2,q1,q2,q3⟩
  have hr:=fin (k1:=k1) ⟨rfl,o2,q1,q2,q3⟩
  rcases q2 with⟨q2,_⟩|⟨T,cap,tail,rfl,g1,g2,g3⟩
  ·cases q2
  have e9:(i :: kys l).length=l.length+1:=by rw[List.length_cons,kll]
  rw[e9]at q1
  ((have hd:=tv;repeat' first|(first|apply Zad|apply Zac|apply Zab)<;>intro hd<;>try simp only[hd]|simp(disch:=first|assumption|omega|simp only[nx]<;>omega|fail)only[hd,qr,qn,ZNO,↓YA,YY,↓reduceIte,Nat.reduceEqDiff,Nat.reduceAdd,Nat.reduceMul,Nat.reduceLeDiff,Int.reduceToNat,Int.reduceLE,Int.reduceLT,Int.reduceGT,Int.reduceGE,Int.reduceAdd,Int.reduceSub,Int.reduceNeg,Int.reduceBEq,Int.reduceBNe,q1,d1])<;>try revert hd;refine ttr ?_)
  exact hr
 ·have h8:l.length=8:=Xa
  obtain⟨l0,⟨j,sj⟩,rfl⟩:∃l0 p,l=l0++[p]:=⟨l.dropLast,l.getLast (fun e=>by rw[e]at h8;cases h8),(List.dropLast_concat_getLast _).symm⟩
  have h7:l0.length=7:=by rw[zac]at h8;simp at h8;omega
  have hpt:putC i s (l0++[(j,sj)])=(i,s) :: l0:=by
   unfold putC
   rw[<- List.cons_append,za1 (by rw[List.length_cons,h7])]
  have hky:kys (l0++[(j,sj)])=kys l0++[j]:=by simp[kys]
  have hp3:(delC j (mm++[(i,s)])).Perm ((i,s) :: l0):=ZPr (s:=sj) hmn2 (hp2.trans (by
   rw[<- List.cons_append]
   exact zbE))
  have hnd3:(kys ((i,s) :: l0)).Nodup:=by
   have:=zaU.2 ⟨hnew,hnd⟩
   rw[hky,<- List.cons_append]at this
   exact(zbl.1 this).1
  have hdl:=ZQJ j (mm++[(i,s)])
  have hofj:=ZrS j
  have e9:(i :: kys (l0++[(j,sj)])).length=9:=by rw[List.length_cons,kll,h8]
  have fin:∀{k1:Nat} {G:Zaa} {T cap:Nat} {tail:List AV},KD [3+3,170+3] ((H.bump k1).set M (.map (.one (.int .i64)) (Zgf kI eS (mm++[(i,s)])) del)) G->G.get C=some (.cells [.i 8,.arr T 0 9 cap,.mp M,.i hi,.i mi] 170)->G.get T=some (.cells (cI (i :: kys (l0++[(j,sj)]))++tail) 3)->(cI (i :: kys (l0++[(j,sj)]))++tail).length=cap->∃r2 H2,Zb6 (.tup []) ((G.set C (.cells [.i 8,.arr T 0 8 cap,.mp M,.i hi,.i mi] 170)).set M (.map (.one (.int .i64)) (Zgf kI eS (delC j (mm++[(i,s)]))) true)) r2 H2/\PutR C M ((i,s) :: l0) H r2 H2:=by
   intro k1 G T cap tail q3 q1 g1 g2
   have gM3:=q3.g _ _ (by simp[kdO]) (gM2 k1)
   have hTC:T≠C:=ZOb g1 q1 (by show 3+3≠170+3;decide)
   have hTM:T≠M:=ZOb g1 gM3 (by show 3+3≠1;decide)
   have gM4:(G.set C (.cells [.i 8,.arr T 0 8 cap,.mp M,.i hi,.i mi] 170)).get M=some (.map (.one (.int .i64)) (Zgf kI eS (mm++[(i,s)])) del):=(Zaa.Zah hMC).trans gM3
   have hcI:cI (i :: kys (l0++[(j,sj)]))++tail=cI (kys ((i,s) :: l0))++(.i j :: tail):=by rw[hky];simp
   rw[hcI]at g1 g2
   refine Zaq ⟨?_,rfl,.arr T 0 8 cap,hi,mi,?_,⟨_,true,Zaa.Zal (Zaa.lt gM4),hp3⟩,.inr ⟨T,cap,_,?_,?_,g2,?_⟩,hnd3,by rw[List.length_cons,h7];exact zad _⟩
   ·exact(((hk1 k1).trans (q3.mono (by simp[CKs]))).set q1 (by simp[kdO,CKs])).set gM4 (by simp[kdO,CKs])
   ·rw[Zaa.Zah hCM,Zaa.Zal (Zaa.lt q1)]
   ·rw[zam,List.length_cons,h7]
   ·rw[Zaa.Zah hTM,Zaa.Zah hTC]
    exact g1
   ·rw[<- g2]
    simp
  have d1:decide (((9:Nat):Int) > 8)=true:=rfl
  have hrow:∀tail,(cI (i :: kys (l0++[(j,sj)]))++tail)[8]?=some (.i j):=fun tail=>by
   rw[hky,show cI (i :: (kys l0++[j]))++tail=(.i i :: cI (kys l0))++(.i j :: tail) by simp,zaE (by simp[h7])]
   simp[h7]
  have p1:((8:Int)<((9:Nat):Int))=True:=Xc
  have p2:(0:Int)<=8:=Xb
  have p3:(8:Int).toNat=8:=rfl
  have p4:∀{cap:Nat} {tail:List AV},(cI (i :: kys (l0++[(j,sj)]))++tail).length=cap->9<=cap:=fun h=>by
   rw[<- h,zac,zam,e9]
   omega
  have hof2:KK.of (.one (.int .i64)) (.i j)=some (kI j):=ZrS j
  clear hp3 hnd3
  generalize Zgf kI eS (delC j (mm++[(i,s)]))=e3 at *
  generalize Zgf kI eS (mm++[(i,s)])=e2 at *
  generalize Zgf kI eS mm=e1 at *
  rw[hpt]
  refine Zak hEi vf217 (zaT rfl) fun Q qr qn=>?_
  ((have hd:=tv;repeat' first|(first|apply Zad|apply Zac|apply Zab)<;>intro hd<;>try simp only[hd]|simp(disch:=first|assumption|omega|simp only[nx]<;>omega|fail)only[hd,qr,qn,ZNO,↓YA,YY,↓reduceIte,Nat.reduceEqDiff,Nat.reduceAdd,Nat.reduceMul,Nat.reduceLeDiff,Int.reduceToNat,Int.reduceLE,Int.reduceLT,Int.reduceGT,Int.reduceGE,Int.reduceAdd,Int.reduceSub,Int.reduceNeg,Int.reduceBEq,Int.reduceBNe])<;>try revert hd;refine ttr ?_)
  refine qcp (ZMa h) fun k1=>?_
  ((have hd:=tv;repeat' first|(first|apply Zad|apply Zac|apply Zab)<;>intro hd<;>try simp only[hd]|simp(disch:=first|assumption|omega|simp only[nx]<;>omega|fail)only[hd,qr,qn,ZNO,↓YA,YY,↓reduceIte,Nat.reduceEqDiff,Nat.reduceAdd,Nat.reduceMul,Nat.reduceLeDiff,Int.reduceToNat,Int.reduceLE,Int.reduceLT,Int.reduceGT,Int.reduceGE,Int.reduceAdd,Int.reduceSub,Int.reduceNeg,Int.reduceBEq,Int.reduceBNe,gC,gM,hof,hset])<;>try revert hd;refine ttr ?_)
  refine Zap.use (hfst k1) ?_
  rintro r G ⟨rfl,o2,q1,q2,q3⟩
  rcases q2 with⟨q2,_⟩|⟨T,cap,tail,rfl,g1,g2,g3⟩
  ·cases q2
  rw[e9]at q1
  have hr:=fin q3 q1 g1 g2
  have hc9:=p4 g2
  have hrw:=hrow tail
  have gM3:=q3.g _ _ (by simp[kdO]) (gM2 k1)
  have lC2:=Zaa.lt q1
  have b1:(cap=0)=False:=by simp;omega
  have b2:8<=cap:=Xa
  generalize cI (i :: kys (l0++[(j,sj)]))++tail=cells at *
  ((have hd:=tv;repeat' first|(first|apply Zad|apply Zac|apply Zab)<;>intro hd<;>try simp only[hd]|simp(disch:=first|assumption|omega|simp only[nx]<;>omega|fail)only[hd,qr,qn,ZNO,↓YA,YY,↓reduceIte,Nat.reduceEqDiff,Nat.reduceAdd,Nat.reduceMul,Nat.reduceLeDiff,Int.reduceToNat,Int.reduceLE,Int.reduceLT,Int.reduceGT,Int.reduceGE,Int.reduceAdd,Int.reduceSub,Int.reduceNeg,Int.reduceBEq,Int.reduceBNe,q1,g1,hrw,d1,p1,p2,p3,b1,b2,Zdi,zat,Nat.sub_zero,zbf,zax,gM3,hof2,hdl,hMC,lC2])<;>try revert hd;refine ttr ?_)
  exact hr
end
open Go.RowKit Go.Lib
section
variable {C M:Nat} {o:AV} {l:Its} {hi mi:Int} {H G:Zaa}
def ThrR (C M:Nat) (l:Its) (i:Int) (o:Option Tx) (Q:Zaa->Zaa->Prop) (H:Zaa) (r:AV) (G:Zaa):Prop:=match Zcz i l with
 | some s=>r=isV (some s)/\CaS C M (ZRS i s l) G/\KD CKs H G
 | none=>r=isV o/\CaS C M (match o with|some s=>putC i s l|none=>l) G/\∃K1 G1,KD CKs H K1/\Q K1 G1/\KD CKs G1 G
theorem ZOc {js:List Nat} {f:FuncId} {p:AV} {Q:Zaa->Zaa->Prop} (h:CaS C M l H) (i:Int) (o:Option Tx) (hjs:∀x∈CKs,x ∉ js) (hQ:∀K G,Q K G->KD js K G)
  (hrd:∀K,KD CKs H K->Zay Tryz.prog f [p,.i i] K fun r G=>r=isV o/\Q K G):Zay Tryz.prog 179 [.ptr C 0,.i i,.fn f [p] []] H (ThrR C M l i o Q H):=by
 have hg:=ZQY h i
 unfold GetR at hg
 unfold ThrR
 cases e:Zcz i l with
 | some s =>
  rw[e]at hg
  have hg:Zay Tryz.prog 216 [.ptr C 0,.i i] H fun r G=>KD CKs H G/\r=.tup [eS s,.b true]/\CaS C M (ZRS i s l) G:=hg
  refine fnQ cf179 fun Q qr qn=>?_
  refine Bz0 ?_
  refine Zap.use hg ?_
  rintro _ G ⟨k1,rfl,h1⟩
  refine Bz0 ?_
  exact Zaq ⟨rfl,h1,k1⟩
 | none =>
  rw[e]at hg
  have hnew:=ZMQ.1 e
  have hg:Zay Tryz.prog 216 [.ptr C 0,.i i] H fun r G=>KD CKs H G/\r=.tup [eS [],.b false]/\CaS C M l G:=hg
  cases o with
  | none =>
   have n15:((15:Int) != 0)=true:=rfl
   unfold isV at hrd
   refine fnQ cf179 fun Q qr qn=>?_
   refine Bz0 ?_
   refine Zap.use hg ?_
   rintro _ G ⟨k1,rfl,h1⟩
   refine Bz0 ?_
   refine Zap.use (hrd G k1) ?_
   rintro _ G2 ⟨rfl,q⟩
   refine Bz1 (X1 n15) ?_
   exact Zaq ⟨rfl,by obtain⟨o2,a,b,h1⟩:=h1;exact⟨o2,a,b,h1.keep (hQ _ _ q) hjs⟩,G,G2,k1,q,KD.refl _ _⟩
  | some s =>
   have n0:((0:Int) != 0)=false:=rfl
   unfold isV at hrd
   refine fnQ cf179 fun Q qr qn=>?_
   refine Bz0 ?_
   refine Zap.use hg ?_
   rintro _ G ⟨k1,rfl,h1⟩
   refine Bz0 ?_
   refine Zap.use (hrd G k1) ?_
   rintro _ G2 ⟨rfl,q⟩
   have h2:CaS C M l G2:=by obtain⟨o2,a,b,h1⟩:=h1;exact⟨o2,a,b,h1.keep (hQ _ _ q) hjs⟩
   refine Bz1 (X1 n0) ?_
   refine Zap.use (cput_new h2 i s hnew) ?_
   rintro _ G3 ⟨k2,rfl,h3⟩
   refine Bz0 ?_
   exact Zaq ⟨rfl,h3,G,G2,k1,q,k2⟩
theorem ZPb (h:CaS C M l H):Zay Tryz.prog 69 [.ptr C 0] H fun r G=>r=.tup []/\CaS C M [] G/\KD CKs H G:=by
 obtain⟨o,hi,mi,h⟩:=h
 have gC:=h.c
 obtain⟨mm,del,gM,hp⟩:=h.m
 have lC:=Zaa.lt gC
 have lM:=Zaa.lt gM
 have hCM:C≠M:=ZOb gC gM (by show 170+3≠1;decide)
 have hMC:M≠C:=zbn hCM
 have fin:∀k1,∃r2 H2,Zb6 (.tup []) (((H.bump k1).set M (.map (.one (.int .i64)) [] true)).set C (.cells [.i 8,.sl .full [],.mp M,.i hi,.i mi] 170)) r2 H2/\r2=.tup []/\CaS C M [] H2/\KD CKs H H2:=fun k1=>by
  have g1:((H.bump k1).set M (.map (.one (.int .i64)) [] true)).get C=some (.cells [.i 8,o,.mp M,.i hi,.i mi] 170):=(Zaa.Zah hCM).trans ((Zaa.ZaB).trans gC)
  refine Zaq ⟨rfl,⟨.sl .full [],hi,mi,Zaa.Zal (Zaa.lt g1),⟨[],true,?_,List.Perm.refl _⟩,.inl ⟨rfl,rfl⟩,zb7,zat _⟩,?_⟩
  ·rw[Zaa.Zah hMC,Zaa.Zal Xe]
   rfl
  ·exact(((KD.refl _ _).bump k1).set ((Zaa.ZaB).trans gM) (by simp[kdO,CKs])).set g1 (by simp[kdO,CKs])
 refine fnQ cf69 fun Q qr qn=>?_
 refine Bz0 ?_
 refine qcp (ZMa h) fun k1=>?_
 refine Bz1 (X4 gC gM hCM hMC) ?_
 exact fin k1
theorem ZQS (H:Zaa):Zay Tryz.prog 54 [.i 8] H fun r G=>∃C M,r=.tup [.ptr C 0,.i 0]/\CaS C M [] G/\H.next<=C/\H.next<=M/\Zaa.Ext H G:=by
 have d1:decide ((8:Int)<1)=false:=rfl
 have d2:decide ((8:Int) > 64)=false:=rfl
 refine fnQ cf54 fun Q qr qn=>?_
 ((have hd:=tv;repeat' first|(first|apply Zad|apply Zac|apply Zab)<;>intro hd<;>try simp only[hd]|simp(disch:=first|assumption|omega|simp only[nx]<;>omega|fail)only[hd,qr,qn,Zdn,↓YA,YY,↓reduceIte,Nat.reduceEqDiff,Nat.reduceAdd,Nat.reduceMul,Nat.reduceLeDiff,Int.reduceToNat,Int.reduceLE,Int.reduceLT,Int.reduceGT,Int.reduceGE,Int.reduceAdd,Int.reduceSub,Int.reduceNeg,Int.reduceBEq,Int.reduceBNe,d1,d2])<;>try revert hd;refine ttr ?_)
 refine Zaq ⟨H.next+1,H.next,rfl,⟨.sl .full [],0,0,?_,⟨[],false,?_,List.Perm.refl _⟩,.inl ⟨rfl,rfl⟩,zb7,zat _⟩,Xa,Xa,by exact AXT⟩
 ·exact Zaa.Zat rfl
 ·exact(Zaa.Ext.refl _).alloc.get _ _ (Zaa.Zat rfl)
end
end Go.Proofs.YtfjjpndoeppbhaaGreatDoor
