/- Texts of the walk. -/
import Derived.Test.YtaapiigfmdhobaaGreatMa
import Derived.Test.YtaapiigfmdhobaaGreatProg
import Derived.RangeFuncBox
import Derived.RangeFuncLeaves
import Derived.Shelf.Abstract
import Derived.WalkKit
import Derived.OwnWalkIn
import Derived.TacticsInMore
import Derived.LoopNIn
import Derived.LoopIn
import Derived.Sort.QuietIn
import Derived.Sort.QuietTacIn
import Derived.Test.YtaapiigfmdhobaaGreatMc
import Derived.Test.YtaapiigfmdhobaaGreatN1
import Derived.Test.YtaapiigfmdhobaaGreatP8
import Derived.Test.YtaapiigfmdhobaaGreatMi
import Derived.Test.YtaapiigfmdhobaaGreatP6
import Derived.Test.YtaapiigfmdhobaaGreatMw
import Derived.Test.YtaapiigfmdhobaaGreatMp
namespace Go.Proofs.YtaapiigfmdhobaaGreat
set_option linter.defProp false
set_option linter.unusedSimpArgs false
set_option linter.unusedVariables false
open Go.RowKit Go.Shelf
attribute [local go_sem] Oper.semAt_some
set_option maxRecDepth 100000 in
set_option maxHeartbeats 2000000 in
theorem Zyt (n l B1 B2 b o len cap:Nat) (hlen:len<=1000000) (J:Nat->World->Prop) (Jx Kb:World->Prop) (qJ:∀k W q,J k W->J k (W.drewN q)) (qK:∀W q,Kb W->Kb (W.drewN q))
  (hK1:∀W,Kb W->W.cell? ⟨B1,0,none⟩=some (.slice (some ⟨b,o,none⟩) len cap)) (hK2:∀W,Kb W->W.cell? ⟨B2,0,none⟩=some (.int .i64 2))
  (hY:∀k W1,J k W1->2 * k<len->Kb W1->YieldAt Fence.wide n Tryz.prog l #[.slice (some ⟨b,o+2 * k,none⟩) (min 2 (len - 2 * k)) (min 2 (len - 2 * k))] W1 fun e W' =>
    (e=.returned (.bool true)/\J (k+1) W'/\Kb W')\/(e=.returned (.bool false)/\Jx W'))
  (W:World) (hKW:Kb W) (hcap:len<=cap) (h0:J 0 W) :
  CallsIn Fence.wide (n+1) Tryz.prog 118 #[.func (.yield l) #[] #[],.pointer (some ⟨B1,0,none⟩),.pointer (some ⟨B2,0,none⟩)] W fun e W'=>(∃v,e=.returned v)/\(J ((len+1) / 2) W'\/Jx W'):=by
 have hB1:=hK1 W hKW
 have hB2:=hK2 W hKW
 refine callsIn_of_wp Tryz.func118 rfl trivial ?_ rfl
 simp only[Tryz.ntmps118,zb3,List.length_cons,List.length_nil,Nat.reduceAdd,Nat.reduceSub,Array.replicate_succ,Array.replicate_zero,List.push_toArray,List.append_toArray,List.nil_append,List.cons_append]
 gi_wp2
 gi_loopw [4] (fun i wr=>∃k:Nat,k<=(len+1) / 2/\i=.int .i64 ((2 * k:Nat):Int)/\J k wr/\Kb wr)
  (fun i _=>len+2 - (intOf i).toNat)
 case atStart=>exact⟨0,zaD _,rfl,h0,hKW⟩
 case round =>
  obtain⟨k,hk,rfl,hJ,hKb⟩:=hrel
  have hc1:=hK1 wr hKb
  have hc2:=hK2 wr hKb
  by_cases hlt:2 * k<len
  ·have hlt':((2 * k:Nat):Int)<(len:Int):=by omega
   gi_wp2
   gi_quiet (fail)
   have hJq:=qJ k wr nq hJ
   have hKq:=qK wr nq hKb
   have hq1:=hK1 _ hKq
   have hq2:=hK2 _ hKq
   have hY1:=hY k (wr.drewN nq) hJq hlt hKq
   generalize wr.drewN nq=w1 at hJq hq1 hq2 hY1 hKq ⊢
   by_cases he:len - 2 * k<2
   ·have e1:(if ((len - 2 * k:Nat):Int)<2 then ((len - 2 * k:Nat):Int) else 2)=1:=by rw[if_pos (by omega)];omega
    have e2:min 2 (len - 2 * k)=1:=by omega
    first|rw[e1]|rw[show min (2:Int) ((len - 2 * k:Nat):Int)=1 from by omega]
    rw[e2]at hY1
    obtain⟨fn,tmps,assign,body,hy,hR⟩:=hY1
    gi_wp2
    refine hR.mono ?_
    rintro e W3 (⟨rfl,hJ3,hKb3⟩|⟨rfl,hJx3⟩)
    ·have hk1:=hK1 _ hKb3
     have hk2:=hK2 _ hKb3
     gi_wp2
     go_roundw
     case rel=>exact⟨k+1,by omega,by simp;omega,hJ3,hKb3⟩
     case measure=>simp[intOf];omega
    ·gi_wp2
     refine bodyPost_ret (results_none rfl _ _ _) rfl ?_
     exact⟨⟨_,rfl⟩,.inr hJx3⟩
   ·have e1:(if ((len - 2 * k:Nat):Int)<2 then ((len - 2 * k:Nat):Int) else 2)=2:=by rw[if_neg (by omega)]
    have e2:min 2 (len - 2 * k)=2:=by omega
    first|rw[e1]|rw[show min (2:Int) ((len - 2 * k:Nat):Int)=2 from by omega]
    rw[e2]at hY1
    obtain⟨fn,tmps,assign,body,hy,hR⟩:=hY1
    gi_wp2
    refine hR.mono ?_
    rintro e W3 (⟨rfl,hJ3,hKb3⟩|⟨rfl,hJx3⟩)
    ·have hk1:=hK1 _ hKb3
     have hk2:=hK2 _ hKb3
     gi_wp2
     go_roundw
     case rel=>exact⟨k+1,by omega,by simp;omega,hJ3,hKb3⟩
     case measure=>simp[intOf];omega
    ·gi_wp2
     refine bodyPost_ret (results_none rfl _ _ _) rfl ?_
     exact⟨⟨_,rfl⟩,.inr hJx3⟩
  ·have hlt':¬((2 * k:Nat):Int)<(len:Int):=by omega
   gi_wp2
   go_end0
   have:k=(len+1) / 2:=by omega
   subst this
   exact⟨⟨_,rfl⟩,.inl hJ⟩
open Go.RowKit
abbrev chk (rows:List AV) (k:Nat):List AV:=(rows.drop (2 * k)).take 2
abbrev chks (rows:List AV):List (List AV):=(List.range ((rows.length+1) / 2)).map fun k=>[.sl .full ((chk rows k).map fun a=>[a])]
theorem ZxL:Zmq Tryz.prog 118:=⟨_,Tryz.func118,by kernel_rfl,by kernel_rfl⟩
theorem chunk_it (rows:List AV) (tok:Tok) (E1 E2:TypeId) (id1 id2:Nat) (H:Zaa) (hl:rows.length<=1000000) (hne:rows≠[]) (h1:H.get id1=some (.cells [.sl tok (rows.map fun a=>[a])] E1)) (h2:H.get id2=some (.cells [.i 2] E2)) :
  ItK Tryz.prog 118 [.ptr id1 0,.ptr id2 0] [id1,id2] (chks rows) H:=by
 refine⟨ZxL,fun g w vs hW hV=>?_⟩
 obtain⟨v0,v1,rfl⟩:∃v0 v1,vs=[v0,v1]:=by
  match vs,hV.1 with
  | [v0,v1],_=>exact⟨v0,v1,rfl⟩
 have q0:=hV.2 0 _ _ rfl rfl
 have q1:=hV.2 1 _ _ rfl rfl
 cases q0 with
 | ptr _ _ B1 hB1 =>
 cases q1 with
 | ptr _ _ B2 hB2 =>
 obtain⟨b',carr,a1,a2,a3,_,_⟩:=hW.obj id1 _ h1
 obtain rfl:b'=B1:=by rw[hB1]at a1;injection a1 with a1;exact a1.symm
 obtain⟨c0,hc0⟩:∃c,carr.toList=[c]:=by
  match carr.toList,a3.1 with
  | [c],_=>exact⟨c,rfl⟩
 rw[hc0]at a3
 have r0:=a3.2 0 _ _ rfl rfl
 obtain⟨b2',carr2,d1,d2,d3,_,_⟩:=hW.obj id2 _ h2
 obtain rfl:b2'=B2:=by rw[hB2]at d1;injection d1 with d1;exact d1.symm
 obtain⟨c1,hc1⟩:∃c,carr2.toList=[c]:=by
  match carr2.toList,d3.1 with
  | [c],_=>exact⟨c,rfl⟩
 rw[hc1]at d3
 have r1:=d3.2 0 _ _ rfl rfl
 cases r1
 have ec2:carr2=#[.int .i64 2]:=by apply zbr;simpa using hc1
 subst ec2
 cases r0 with
 | sl _ _ A c sz b o f hc hm hA hsz hcell hv ht =>
 have ec1:carr=#[.slice A (rows.map fun a=>[a]).length c]:=by apply zbr;simpa using hc0
 subst ec1
 have hA:=hA (by simpa using hne)
 subst hA
 have hlen:(rows.map fun a=>[a]).length=rows.length:=by simp
 rw[hlen]at a2 hc
 have hone:sz=1:=by
  obtain⟨a,ha⟩:=zbz rows hne
  have:=(hsz [a] (zat.2 ⟨a,ha,rfl⟩)).1
  simpa using this.symm
 subst hone
 have hget:∀(i:Nat) a,rows[i]?=some a->w.cell? ⟨b,o+i,none⟩=some (f i 0)/\g.RO b (o+i)/\VR g w a (f i 0)/\a.one=true:=by
  intro i a ha
  have hr:(rows.map fun a=>[a])[i]?=some [a]:=by simp[ha]
  have:=hcell i [a] 0 a hr rfl
  rw[show o+i * 1+0=o+i by omega]at this
  exact⟨this.1,this.2,hv i [a] 0 a hr rfl,(hsz [a] (zaF hr)).2 a (by simp)⟩
 have hck:∀k,(chk rows k).length=min 2 (rows.length - 2 * k):=fun k=>by simp[chk]
 refine⟨(List.range ((rows.length+1) / 2)).map fun k=>#[.slice (some ⟨b,o+2 * k,none⟩) (min 2 (rows.length - 2 * k)) (min 2 (rows.length - 2 * k))],by simp,fun k x u hx hu=>?_,?_⟩
 ·have hk:k<(rows.length+1) / 2:=by
   have:=(zan.1 hx).1
   simpa using this
  simp[hk]at hx hu
  subst hx hu
  refine VRs.nil.cons ?_
  have hval:=VR.sl (g:=g) (w:=w) .full ((chk rows k).map fun a=>[a]) (some ⟨b,o+2 * k,none⟩) (min 2 (rows.length - 2 * k)) 1 b (o+2 * k) (fun i j=>f (2 * k+i) j) (by simp[hck]) (by unfold maxLen;omega) (fun _=>rfl)
   (fun r hr=>by
    obtain⟨a,ha,rfl⟩:=zat.1 hr
    have hm:a∈rows:=zbd (zaU ha)
    obtain⟨i,hi,rfl⟩:=zay hm
    exact⟨rfl,fun y hy=>by simp at hy;subst hy;exact(hget i _ (zaa hi)).2.2.2⟩)
   (fun i r j y hr hy=>?_) (fun i r j y hr hy=>?_) (by simp[Zip,hck])
  ·rw[zaj,hck]at hval
   simpa [chk,zcs,zct] using hval
  all_goals
   rw[zaL]at hr
   cases hi:(chk rows k)[i]? with
   | none=>rw[hi]at hr;cases hr
   | some a =>
    rw[hi]at hr
    simp only[Option.map_some,zac]at hr
    subst hr
    have hj:j=0:=by
     cases j with
     | zero=>rfl
     | succ j=>simp at hy
    subst hj
    simp only[List.getElem?_cons_zero,zac]at hy
    subst hy
    have hra:rows[2 * k+i]?=some a:=by
     unfold chk at hi
     rw[za1]at hi
     split at hi
     ·rwa [zbb]at hi
     ·cases hi
    have hg:=hget _ _ hra
    first
     | exact hg.2.2.1
     | (rw[show o+2 * k+i * 1+0=o+(2 * k+i) by omega];exact⟨hg.1,hg.2.1⟩)
 ·intro n l J Jx W hsz' hbs qJ qX hY h0
  have hb1:(fun b=>∃id∈[id1,id2],g.ι id=some b) b':=⟨id1,by simp,hB1⟩
  have hb2:(fun b=>∃id∈[id1,id2],g.ι id=some b) b2':=⟨id2,by simp,hB2⟩
  have:=Zyt n l b' b2' b o rows.length c (by omega) J Jx (fun W1=>∀b,(∃id∈[id1,id2],g.ι id=some b)->W1.heap[b]?=w.heap[b]?) qJ (fun W1 q h=>h)
   (fun W1 h=>by
    have:=(h b' hb1).trans a2
    simp[World.cell?,this])
   (fun W1 h=>by
    have:=(h b2' hb2).trans d2
    simp[World.cell?,this])
   (fun k W1 hJ hk hKb=>hY k _ W1 hJ (by
    have:k<(rows.length+1) / 2:=by omega
    simp[this]) hKb) W hbs (by omega) h0
  simpa using this
def c75_0:Zar:=rs 3 [.v 2 72 0,.v 3 3 1,.O (.mv (.c (.sc .nilFunc)))]<|ri 4 [.l 1 3,.B .lss 5 1] 6 (ry 6 [.O .bad,.w .bad])<|rr 7 [.O (.mkf 118 [] [.t 2,.t 3]),.s 4]
def cf75:=kf0 75 c75_0 [.tmp 4] 9
def ChunkQ (t:Tok) (rows:List (List AV)) (H:Zaa) (r:AV) (G:Zaa):Prop :=
 Zaa.Ext H G/\∃id1 id2,r=.fn 118 [] [.ptr id1 0,.ptr id2 0]/\H.next<=id1/\H.next<=id2/\G.get id1=some (.cells [.sl t rows] 72)/\G.get id2=some (.cells [.i 2] 3)
theorem ZxW (t:Tok) (rows:List (List AV)) (H:Zaa):Zay Tryz.prog 75 [.sl t rows,.i 2] H (ChunkQ t rows H):=by
 have hC:ChunkQ t rows H (.fn 118 [] [.ptr H.next 0,.ptr (H.next+1) 0]) ((H.alloc (.cells [.sl t rows] 72)).alloc (.cells [.i 2] 3)):=⟨(Zaa.Ext.refl H).alloc.alloc,_,_,rfl,zaf _,zcc _,(Zaa.Zag (by simp only[nx];omega)).trans Zaa.Zae,Zaa.Zae (H:=H.alloc _)⟩
 refine Zak hE cf75 (zab rfl) fun Q qr qn=>?_
 unfold c75_0
 refine Bz0 ?_
 exact Zaq hC
abbrev rA (ids:List Nat):List (List AV):=ids.map fun i=>[AV.ptr i 0]
structure Ars (S:Sc) (G:Zaa) (ids:List Nat) (ls:List (Nat×List Fct)):Prop where
 len:ids.length=ls.length
 ar:∀(i:Nat) id q,ids[i]?=some id->ls[i]?=some q->ArA G id (Za3 S) (Zcn S q.2).N
theorem Ars.mono {S:Sc} {G G':Zaa} {ids:List Nat} {ls:List (Nat×List Fct)} (h:Ars S G ids ls) (k:∀id,id∈ids->∀q,ArA G id (Za3 S) q->ArA G' id (Za3 S) q):Ars S G' ids ls :=
 ⟨h.len,fun i id q h1 h2=>k id (zaF h1) _ (h.ar i id q h1 h2)⟩
theorem Ars.ext {S:Sc} {G G':Zaa} {ids:List Nat} {ls:List (Nat×List Fct)} (h:Ars S G ids ls) (hx:Zaa.Ext G G'):Ars S G' ids ls:=h.mono fun _ _ _ a=>a.ext hx
theorem ZxH {G:Zaa} {id j:Nat} {x:Shp} {l:List Nod} {o o':Zb3} (h:ArA G id x l) (hj:G.get j=some o) (ho:∀cs,o=.cells cs 117->False):ArA (G.set j o') id x l:=by
 obtain⟨tok,nt,most,h⟩:=h
 refine⟨tok,nt,most,?_⟩
 rw[Zaa.Zah ?_]
 ·exact h
 ·rintro rfl
  rw[h]at hj
  injection hj with hj
  exact ho _ hj.symm
theorem Ars.snoc {S:Sc} {G:Zaa} {ids:List Nat} {ls:List (Nat×List Fct)} {k id:Nat} {q:Nat×List Fct} (h:Ars S G ids (ls.take k)) (hk:ls[k]?=some q) (ha:ArA G id (Za3 S) (Zcn S q.2).N):Ars S G (ids++[id]) (ls.take (k+1)):=by
 have hlt:k<ls.length:=(zan.1 hk).1
 have e:ls.take (k+1)=ls.take k++[q]:=by rw[zcp,hk];rfl
 have hl:=h.len
 refine⟨by rw[e];simp[hl],fun i id' q' h1 h2=>?_⟩
 rw[e]at h2
 by_cases c:i<ids.length
 ·rw[zaC c]at h1
  rw[zaC (by omega)]at h2
  exact h.ar i _ _ h1 h2
 ·rw[zaN (by omega)]at h1 h2
  have h0:i - ids.length=0:=by
   have:=(zan.1 h1).1
   simp at this;omega
  rw[h0]at h1
  rw[show i - (ls.take k).length=0 by omega]at h2
  simp at h1 h2
  subst h1 h2
  exact ha
structure MNx (S:Sc) (G1:Zaa) (i8 k:Nat) (qs:List (Nat×List Fct)) (G:Zaa):Prop where
 ext:ZcD [i8] G1 G
 nx:∃tt ids',G1.next<=tt/\G.get i8=some (.cells [.sl (.own tt) (rA ids')] 72)/\G.get tt=some (.tok k 29 1)/\ids'.length=k/\Ars S G ids' (qs.take k)
theorem MNx.step {S:Sc} {G1 G G':Zaa} {i8 k:Nat} {qs:List (Nat×List Fct)} (h:MNx S G1 i8 k qs G) (hx:Zaa.Ext G G'):MNx S G1 i8 k qs G':=by
 obtain⟨tt,ids',h1,h2,h3,h4,h5⟩:=h.nx
 exact⟨h.ext.trans (ZcD.of hx),tt,ids',h1,hx.get _ _ h2,hx.get _ _ h3,h4,h5.ext hx⟩
theorem MNx.push {S:Sc} {G1 G:Zaa} {i8 k tt id:Nat} {ids':List Nat} {qs:List (Nat×List Fct)} {q:Nat×List Fct} (h:ZcD [i8] G1 G) (h1:G1.next<=tt) (h2:G.get i8=some (.cells [.sl (.own tt) (rA ids')] 72)) (h3:G.get tt=some (.tok k 29 1)) (h4:ids'.length=k) (h5:Ars S G ids' (qs.take k)) (hk:qs[k]?=some q) (ha:ArA G id (Za3 S) (Zcn S q.2).N) :
  MNx S G1 i8 (k+1) qs ((G.set tt (.tok (k+1) 29 1)).set i8 (.cells [.sl (.own tt) (rA (ids'++[id]))] 72)):=by
 have hne:i8≠tt:=by
  rintro rfl
  rw[h2]at h3
  cases h3
 have l1:=Zaa.lt h2
 have l2:=Zaa.lt h3
 have keep:∀j l,ArA G j (Za3 S) l->ArA ((G.set tt (.tok (k+1) 29 1)).set i8 (.cells [.sl (.own tt) (rA (ids'++[id]))] 72)) j (Za3 S) l:=fun j l hj=>by
  refine ZxH (ZxH hj h3 fun cs e=>by cases e) (o:=.cells [.sl (.own tt) (rA ids')] 72) ?_ fun cs e=>by cases e
  rw[Zaa.Zah hne];exact h2
 refine⟨(h.set (.inr h1)).set (.inl (by simp)),tt,ids'++[id],h1,Zaa.Zal (by simpa using l1),?_,by simp[h4],?_⟩
 ·rw[Zaa.Zah (zbC hne)];exact Zaa.Zal l2
 ·exact(h5.snoc hk ha).mono fun j _ l hj=>keep j l hj
theorem tok_ne {G:Zaa} {i8 tt E E' sz k:Nat} {cs:List AV} (h2:G.get i8=some (.cells cs E)) (h3:G.get tt=some (.tok k E' sz)) (o:Zb3):(G.set tt o).get i8=some (.cells cs E):=by
 rw[Zaa.Zah]
 ·exact h2
 ·rintro rfl
  rw[h2]at h3
  cases h3
set_option maxHeartbeats 4000000 in
theorem many_one {S:Sc} {G1 G:Zaa} {i8 k a:Nat} {qs:List (Nat×List Fct)} {q:Nat×List Fct} {Q:AEx->Fr->Zaa->Prop} {F:Fr} (f9:Fr.get F 9=.sl .full [[.ptr a 0]]) (f8:Fr.get F 8=.ptr i8 0) (h:MNx S G1 i8 k qs G) (hk:qs[k]?=some q) (hkl:k<=1000) (ha:ArA G a (Za3 S) (Zcn S q.2).N)
  (hQ:∀F G,MNx S G1 i8 (k+1) qs G->Q .normal F G):AW Tryz.prog Zyk Q F G:=by
 obtain⟨tt,ids',h1,h2,h3,h4,h5⟩:=h.nx
 have qr:=trivial
 have qn:=trivial
 have e1:ZaE 1 (rA ids')=true:=ZaU (f:=fun i=>[AV.ptr i 0]) (sz:=1) (fun _=>rfl) ids'
 have e4:(ZaE 1 [[AV.ptr a 0]]=true/\k+1<=maxLen/\(k+1) * 8<=140737488355328)=True:=eq_true ⟨rfl,by unfold maxLen;omega,by omega⟩
 have e2:(rA ids').length=k:=by simp[h4]
 have e3:rA ids'++[[AV.ptr a 0]]=rA (ids'++[a]):=by simp
 have hp:=MNx.push h.ext h1 h2 h3 h4 h5 hk ha
 have h6:=tok_ne h2 h3 (.tok (k+1) 29 1)
 have d1:(((1:Nat):Int) == 1)=true:=rfl
 unfold Zyk
 have hZ:=an7 f9<|an7 f8<|an7 h2<|an7 h3<|an7 h6<|an7 e1<|an7 e2<|an7 e3<|an7 e4<|d1;refine Bz1 ?_
 exact hQ _ _ hp
set_option maxHeartbeats 4000000 in
theorem many_two {S:Sc} {G1 G:Zaa} {i8 i2 k a b:Nat} {ls:List (Nat×List Fct)} {p q:Nat×List Fct} {Q:AEx->Fr->Zaa->Prop} {F:Fr} (f9:Fr.get F 9=.sl .full [[.ptr a 0],[.ptr b 0]]) (f8:Fr.get F 8=.ptr i8 0) (f2:Fr.get F 2=.ptr i2 0) (g2:G.get i2=some (.cells [.i 131072] 3))
  (hs:scE S=0) (hd:S.dims.length<=4) (hp:RW S p) (hq:RW S q) (hw:p.1+q.1<=6)
  (h:MNx S G1 i8 k (rnd ls) G) (hk:(rnd ls)[k]?=some (p.1+q.1,mg p.2 q.2)) (hkl:k<=1000) (ha:ArA G a (Za3 S) (Zcn S p.2).N) (hb:ArA G b (Za3 S) (Zcn S q.2).N)
  (hQ:∀F G,MNx S G1 i8 (k+1) (rnd ls) G->Q .normal F G):AW Tryz.prog Zyk Q F G:=by
 have qr:=trivial
 have qn:=trivial
 have cp:=hp.Zx9 hs hd (by omega)
 have cq:=hq.Zx9 hs hd (by omega)
 obtain⟨t1,t2⟩:=mg_built hs hd hp hq hw
 have hm:=Zok 131072 ha hb cp.pr cq.pr
 have d1:(((2:Nat):Int) == 1)=false:=rfl
 unfold Zyk
 have hZ:=an7 f9<|an7 f8<|an7 f2<|an7 g2<|d1;refine Bz1 ?_
 refine Zap.use hm ?_
 rintro r G2 ⟨hx,hr⟩
 rw[if_pos ⟨cp.wh,cq.wh,by decide,by decide⟩,if_neg (fun h=>h t1),t2]at hr
 obtain⟨did,rfl,hA,_⟩:=hr
 obtain⟨tt,ids',h1,h2,h3,h4,h5⟩:=(h.step hx).nx
 have e1:ZaE 1 (rA ids')=true:=ZaU (f:=fun i=>[AV.ptr i 0]) (sz:=1) (fun _=>rfl) ids'
 have e4:(ZaE 1 [[AV.ptr did 0]]=true/\k+1<=maxLen/\(k+1) * 8<=140737488355328)=True:=eq_true ⟨rfl,by unfold maxLen;omega,by omega⟩
 have e2:(rA ids').length=k:=by simp[h4]
 have e3:rA ids'++[[AV.ptr did 0]]=rA (ids'++[did]):=by simp
 have hp:=MNx.push (h.step hx).ext h1 h2 h3 h4 h5 hk hA
 have h6:=tok_ne h2 h3 (.tok (k+1) 29 1)
 have hZ:=an7 f9<|an7 f8<|an7 f2<|an7 h2<|an7 h3<|an7 h6<|an7 e1<|an7 e2<|an7 e3<|e4;refine Bz1 ?_
 exact hQ _ _ hp
theorem ZxF {α:Type} {l:List α} {i:Nat} {a:α} (h:l[i]?=some a):l.drop i=a :: l.drop (i+1):=by
 obtain⟨hi,rfl⟩:=zan.1 h
 exact zao hi
theorem chkP_two {ids:List Nat} {k a b:Nat} (h1:ids[2 * k]?=some a) (h2:ids[2 * k+1]?=some b):chk (ids.map fun i=>AV.ptr i 0) k=[.ptr a 0,.ptr b 0]:=by
 unfold chk
 rw[<- zct,ZxF h1,ZxF h2]
 rfl
theorem chkP_one {ids:List Nat} {k a:Nat} (h1:ids[2 * k]?=some a) (h2:ids[2 * k+1]?=none):chk (ids.map fun i=>AV.ptr i 0) k=[.ptr a 0]:=by
 unfold chk
 rw[<- zct,ZxF h1,zbw (zcg.1 h2)]
 rfl
theorem Zx6 {G1 G:Zaa} {i8 id:Nat} {x:Shp} {l:List Nod} {v:AV} {E:TypeId} (h:ArA G1 id x l) (hx:ZcD [i8] G1 G) (g8:G1.get i8=some (.cells [v] E)):ArA G id x l:=by
 obtain⟨tok,nt,most,h⟩:=h
 refine⟨tok,nt,most,hx.get _ _ ?_ h⟩
 intro hm
 rw[zam.1 hm,g8]at h
 simp[Zk5,eAr]at h
theorem AW_rfQ {P:Prg} {gx:AX} {ps:List Nat} {ca cb:Zar} {Q:AEx->Fr->Zaa->Prop} {F:Fr} {H:Zaa} {f:FuncId} {caps:List AV} (hge:gx.ev F=.fn f [] caps) (ks:List Nat) (xs:List (List AV)) (H0 H1:Zaa) (I:Nat->Zaa->Prop)
  (a1:ItK P.p f caps ks xs H) (a2:∀x∈xs,x.length=ps.length) (a3:∀id∈ks,(∃cs E,H.get id=some (.cells cs E))/\H0.get id=none) (a4:∀i o,H0.get i=some o->H.get i=some o) (a5:H.next<=H0.next) (a6:∀u G,¬P.pan u G)
  (a7:GStep F H0 F H1) (a8:I 0 H1)
  (hr:∀k x G,xs[k]?=some x->H1.next<=G.next->I k G->∀Q1:AEx->Fr->Zaa->Prop,(∀F1 G2,I (k+1) G2->Q1 .normal F1 G2)->∀Q2:AEx->Fr->Zaa->Prop,(∀F1 G1,AW P cb Q1 F1 G1->Q2 .normal F1 G1)->AW P ca Q2 (ZxS F ps x) G)
  (he:∀G,H1.next<=G.next->I xs.length G->Q .normal F G):AW P (.rf gx ps ca cb) Q F H :=
 AW_rf hge ks xs H0 H1 I (fun _=>False) a1 a2 a3 a4 a5 a6 a7 a8 (fun k x G h1 h2 h3=>hr k x G h1 h2 h3 _ (fun _ G2 h=>⟨G2,GStep.refl _ _,h⟩) _ (fun _ _ h=>h)) he fun _ _ h=>h.elim
theorem reg_mv {Q:AEx->Fr->Zaa->Prop} {F:Fr} {H:Zaa} {v:AV} (h:Fr.get F 34=v) (k:Q .normal ((9,v) :: F) H):AW Tryz.prog c33_4 Q F H:=by
 have qr:=trivial
 have qn:=trivial
 unfold c33_4
 have hZ:=h;refine Bz1 ?_
 exact k
set_option maxHeartbeats 4000000 in
theorem many_rf {S:Sc} {G1 H:Zaa} {ids:List Nat} {ls:List (Nat×List Fct)} {t:Tok} {i2 i8 id1 id2:Nat} {Q:AEx->Fr->Zaa->Prop} {F:Fr}
  (f33:Fr.get F 33=.fn 118 [] [.ptr id1 0,.ptr id2 0]) (f8:Fr.get F 8=.ptr i8 0) (f2:Fr.get F 2=.ptr i2 0)
  (hG:Zaa.Ext G1 H) (l1:G1.next<=id1) (l2:G1.next<=id2) (g1:H.get id1=some (.cells [.sl t (rA ids)] 72)) (g2:H.get id2=some (.cells [.i 2] 3))
  (gm:G1.get i2=some (.cells [.i 131072] 3)) (h28:i2≠i8) (g8:G1.get i8=some (.cells [.sl .full []] 72))
  (hA:Ars S G1 ids ls) (hs:scE S=0) (hd:S.dims.length<=4) (hR:∀q∈ls,RW S q) (hw:Zxr ls<=6) (hl0:ls≠[]) (hl6:ls.length<=1000)
  (hQ:∀G,MNx S G1 i8 (rnd ls).length (rnd ls) G->Q .normal F G):AW Tryz.prog c33_3 Q F H:=by
 have hlen:=hA.len
 have hnx:=hG.next
 have l8:=Zaa.lt g8
 have e1:((ids.map fun i=>AV.ptr i 0).map fun a=>[a])=rA ids:=by rw[zbt];rfl
 have hne:(ids.map fun i=>AV.ptr i 0)≠[]:=fun e=>hl0 (zbl.1 (by rw[<- hlen];simpa using e))
 have g0:∀id,G1.next<=id->(G1.bump (H.next - G1.next)).get id=none:=fun id h=>by
  rw[Zaa.ZaB]
  cases hg:G1.get id with
  | none=>rfl
  | some o=>exact absurd (Zaa.lt hg) (by omega)
 have e3:(G1.bump (H.next - G1.next)).next=H.next:=by simp;omega
 have g8':(G1.bump (H.next - G1.next)).get i8=some (.cells [.sl .full []] 72):=by rw[Zaa.ZaB];exact g8
 unfold c33_3
 refine AW_rfQ f33 [id1,id2] (chks (ids.map fun i=>AV.ptr i 0)) (G1.bump (H.next - G1.next)) (((G1.bump (H.next - G1.next)).set i8 (.cells [.sl (.own (G1.bump (H.next - G1.next)).next) []] 72)).alloc (.tok 0 29 1))
  (fun k G=>MNx S G1 i8 k (rnd ls) G) (chunk_it (ids.map fun i=>AV.ptr i 0) t 72 3 id1 id2 H (by simp;omega) hne (by rw[e1];exact g1) g2) ?_ ?_ ?_ (by omega) (fun _ _ h=>h) (GStep.ZdO i8 0 72 29 1 g8' rfl) ?_ ?_ ?_
 ·intro x hx
  obtain⟨k,_,rfl⟩:=zat.1 hx
  rfl
 ·intro id hi
  rcases zal.1 hi with rfl|hi
  ·exact⟨⟨_,_,g1⟩,g0 _ l1⟩
  ·rw[zam.1 hi]
   exact⟨⟨_,_,g2⟩,g0 _ l2⟩
 ·intro i o h
  rw[Zaa.ZaB]at h
  exact hG.get i o h
 ·refine⟨?_,(G1.bump (H.next - G1.next)).next,[],by omega,?_,?_,rfl,⟨by simp,fun i id q h=>by simp at h⟩⟩
  ·exact(((ZcD.of (Zaa.Ext.refl G1).bump).set (.inl (by simp))).trans (ZcD.of (Zaa.Ext.refl _).alloc))
  ·rw[Zaa.Zag (by simp;omega)]
   exact Zaa.Zal (by simp;omega)
  ·exact Zaa.Zae (H:=(G1.bump (H.next - G1.next)).set i8 _)
 ·intro k x G hx hn hI Q1 hQ1 Q2 hQ2
  have hk:k<((ids.map fun i=>AV.ptr i 0).length+1) / 2:=by
   have:=(zan.1 hx).1
   simpa using this
  rw[zaj]at hk
  have ex:x=[.sl .full ((chk (ids.map fun i=>AV.ptr i 0) k).map fun a=>[a])]:=by
   rw[zaL,List.getElem?_range (by simpa using hk)]at hx
   simpa using hx.symm
  have h2k:2 * k<ids.length:=by omega
  obtain⟨a,ha⟩:∃a,ids[2 * k]?=some a:=⟨_,zaa h2k⟩
  obtain⟨p,hp⟩:∃p,ls[2 * k]?=some p:=⟨_,zaa (by omega)⟩
  have hrp:=hR p (zaF hp)
  have hap:=Zx6 (hA.ar _ _ _ ha hp) hI.ext g8
  have hm2:=hI.ext.get _ _ (by simpa using h28) gm
  by_cases c:2 * k+1<ids.length
  ·obtain⟨b,hb⟩:∃b,ids[2 * k+1]?=some b:=⟨_,zaa c⟩
   obtain⟨q,hq⟩:∃q,ls[2 * k+1]?=some q:=⟨_,zaa (by omega)⟩
   have hrq:=hR q (zaF hq)
   have haq:=Zx6 (hA.ar _ _ _ hb hq) hI.ext g8
   have ht:=Zyg ls k hp hq
   have hpq:p.1+q.1<=6:=by
    have:=ZxB _ (zaF ht)
    rw[Zxv]at this
    simp only at this
    omega
   rw[chkP_two ha hb]at ex
   subst ex
   refine reg_mv (v:=.sl .full [[.ptr a 0],[.ptr b 0]]) rfl (hQ2 _ _ ?_)
   exact many_two rfl f8 f2 hm2 hs hd hrp hrq hpq hI ht (by omega) hap haq hQ1
  ·have ho:=Zyj ls k hp (zcg.2 (by omega))
   rw[chkP_one ha (zcg.2 (by omega))]at ex
   subst ex
   refine reg_mv (v:=.sl .full [[.ptr a 0]]) rfl (hQ2 _ _ ?_)
   exact many_one rfl f8 hI ho (by omega) hap hQ1
 ·intro G _ hI
  have e:(chks (ids.map fun i=>AV.ptr i 0)).length=(rnd ls).length:=by
   rw[Zxz];simp[hlen]
  rw[e]at hI
  exact hQ G hI
theorem Zyy (t lt:Tok) (x:Shp) (l:List Nod) (H:Zaa) (hl:l.length<=200000) (hn:∀n∈l,Zdb n):Zay Tryz.prog 36 [.agg [.sl t (rII x.sizes),.i x.measures],.sl lt (rN l)] H (Zsc x l H):=by
 refine Zay.wknA (Zqd lt x l H hl hn) rfl fun i a b ha hb=>?_
 match i with
 | 0 =>
  simp only[List.getElem?_cons_zero,zac]at ha hb
  subst ha hb
  refine .agg _ _ rfl fun j p q hp hq=>?_
  have hq:([.sl .no (rII x.sizes),.i x.measures]:List AV)[j]?=some q:=hq
  match j with
  | 0=>simp at hp hq;subst hp hq;exact Zqv _ _
  | 1=>simp at hp hq;subst hp hq;exact .refl _
  | j+2=>simp at hp
 | 1=>simp at ha hb;subst ha hb;exact .refl _
 | i+2=>simp at ha
theorem Zyh {H:Zaa} {id:Nat} {x:Shp} {l:List Nod} (ha:ArA H id x l) (hw:ArW x l):Zay Tryz.prog 19 [.ptr id 0] H (Pure H (.b (Zlb x l))):=by
 obtain⟨b1,b2,b3⟩:=hw.bounds
 exact ZpM ha b1 (by omega) (by have:=hw.len;omega) hw.small hw.child
theorem shp_meas {S:Sc} (hs:scE S=0):((Za3 S).measures == 0)=false:=by
 have h:=ZiG hs
 unfold ZbS at h
 simp only[zax,decide_eq_true_eq]at h
 have h:=h.1.1.2
 exact beq_eq_false_iff_ne.2 (by omega)
theorem rA_get {ids:List Nat} {k id:Nat} (h:ids[k]?=some id):(rA ids)[k]?=some [.ptr id 0]:=by simp[h]
set_option maxHeartbeats 4000000 in
theorem Zyc {S:Sc} {ids:List Nat} {ls:List (Nat×List Fct)} {t:Tok} {a2 a4 a5:AV} {Q:AEx->Fr->Zaa->Prop} {F:Fr} {G:Zaa} (f1:Fr.get F 1=.sl t (rA ids)) (f2:Fr.get F 2=a2) (f4:Fr.get F 4=a4) (f5:Fr.get F 5=a5)
  (f15:Fr.get F 15=.sl t (rA ids)) (f16:Fr.get F 16=.i (ids.length:Int)) (f17:Fr.get F 17=.i ((0:Nat):Int)) (hA:Ars S G ids ls) (hC:∀q∈ls,Zyp S q.2) (hl:ids.length<=1000) (hs:scE S=0)
  (hQ:∀F' G',Fr.get F' 1=.sl t (rA ids)->Fr.get F' 2=a2->Fr.get F' 4=a4->Fr.get F' 5=a5->Zaa.Ext G G'->Q .normal F' G'):AW Tryz.prog c33_1 Q F G:=by
 have hlen:=hA.len
 have qr:=trivial
 have qn:=trivial
 have dm:=shp_meas hs
 unfold c33_1
 refine ZbJ (N:=ids.length) (fun k F' G'=>Fr.get F' 17=.i (k:Int)/\Fr.get F' 16=.i (ids.length:Int)/\Fr.get F' 15=.sl t (rA ids)/\Fr.get F' 1=.sl t (rA ids)/\Fr.get F' 2=a2/\Fr.get F' 4=a4/\Fr.get F' 5=a5/\Zaa.Ext G G') (by unfold maxLen;omega) (fun k F G h=>⟨h.1,h.2.1⟩) (GStep.refl _ _) ⟨f17,f16,f15,f1,f2,f4,f5,Zaa.Ext.refl G⟩ ?_ ?_
 ·rintro k F G2 hk ⟨f17,f16,f15,f1,f2,f4,f5,hx⟩
  obtain⟨id,hid⟩:∃id,ids[k]?=some id:=⟨_,zaa hk⟩
  obtain⟨q,hq⟩:∃q,ls[k]?=some q:=⟨_,zaa (by omega)⟩
  have hr:=rA_get hid
  have hk0:(0:Int)<=(k:Int):=by omega
  have ha:=(hA.ar _ _ _ hid hq).ext hx
  have hc:=hC q (zaF hq)
  have hwh:=hc.wh
  obtain⟨_,_,_,hg⟩:=ha.eAr
  have hS:=ZlR hg (ZiG hs)
  have hW:=fun G3 (h:Zaa.Ext G2 G3)=>Zyh (ha.ext h) hc.pr.k.w
  have hZ:=an7 f17<|an7 f16<|an7 f15<|an7 f1<|an7 f2<|an7 f4<|an7 f5<|an7 hr<|hk0;refine Bz1 ?_
  refine Zap.use hS ?_
  rintro r G3 ⟨hx3,tk,rfl⟩
  have hZ:=an7 f17<|an7 f16<|an7 f15<|an7 f1<|an7 f2<|an7 f4<|an7 f5<|dm;refine Bz1 ?_
  refine qcp (hW G3 hx3) fun k1=>?_
  have hZ:=an7 f17<|an7 f16<|an7 f15<|an7 f1<|an7 f2<|an7 f4<|an7 f5<|hwh;refine Bz1 ?_
  exact(hx.trans hx3).bump
 ·rintro F G2 ⟨f17,f16,f15,f1,f2,f4,f5,hx⟩
  exact hQ _ _ (by simp[Fr.get,f1]) (by simp[Fr.get,f2]) (by simp[Fr.get,f4]) (by simp[Fr.get,f5]) hx
structure MAt (S:Sc) (T:List Fct) (H:Zaa) (i2 i4 i5:Nat) (ids:List Nat) (ls:List (Nat×List Fct)) (G:Zaa):Prop where
 ext:Zaa.Ext H G
 g2:G.get i2=some (.cells [.i 131072] 3)
 g4:G.get i4=some (.cells [.sc (.pointer none)] 29)
 g5:G.get i5=some (.cells [.i 0] 30)
 ar:Ars S G ids ls
 rw:∀q∈ls,RW S q
 ws:Zxr ls<=6
 l1:1<=ls.length
 l2:ls.length<=1000
 tot:Tot ls T
theorem MAt.next {S:Sc} {T:List Fct} {H G G3:Zaa} {i2 i4 i5:Nat} {ids:List Nat} {ls:List (Nat×List Fct)} (h:MAt S T H i2 i4 i5 ids ls G) {o:Zb3} {tt:Nat} {ids':List Nat} (hx:ZcD [G.next] (G.alloc o) G3) (hA:Ars S G3 ids' (rnd ls)):MAt S T H i2 i4 i5 ids' (rnd ls) G3:=by
 have k:∀i o',G.get i=some o'->G3.get i=some o':=fun i o' hi=>by
  have:=Zaa.lt hi
  exact hx.get i o' (by simp;omega) ((Zaa.Zag (by omega)).trans hi)
 have hn:=hx.next
 have l1:=h.l1
 have l2:=h.l2
 have hl:=Zxz ls
 simp only[Zaa.Zax]at hn
 exact⟨h.ext.trans ⟨by omega,fun i o' hi=>k i o' hi⟩,k _ _ h.g2,k _ _ h.g4,k _ _ h.g5,hA,Zx8 ls h.rw (by have:=h.ws;omega),by rw[Zxv];exact h.ws,by omega,by omega,h.tot.rnd h.rw (by have:=h.ws;omega)⟩
set_option maxHeartbeats 4000000 in
theorem Zym {S:Sc} {T:List Fct} {H:Zaa} {i2 i4 i5:Nat} {ids:List Nat} {ls:List (Nat×List Fct)} {t:Tok} {Q:AEx->Fr->Zaa->Prop} {F:Fr} {G:Zaa} (hs:scE S=0) (hd:S.dims.length<=4) (f1:Fr.get F 1=.sl t (rA ids)) (f2:Fr.get F 2=.ptr i2 0) (f4:Fr.get F 4=.ptr i4 0) (f5:Fr.get F 5=.ptr i5 0)
  (hM:MAt S T H i2 i4 i5 ids ls G) (hQ:∀F' G' t' id q,Fr.get F' 1=.sl t' [[.ptr id 0]]->Fr.get F' 4=.ptr i4 0->Fr.get F' 5=.ptr i5 0->MAt S T H i2 i4 i5 [id] [q] G'->Q .normal F' G'):AW Tryz.prog c33_2 Q F G:=by
 have qr:=trivial
 have qn:=trivial
 unfold c33_2
 rw[Za8]
 refine Zg1 (fun n F G=>∃t ids ls,n=ls.length/\Fr.get F 1=.sl t (rA ids)/\Fr.get F 2=.ptr i2 0/\Fr.get F 4=.ptr i4 0/\Fr.get F 5=.ptr i5 0/\MAt S T H i2 i4 i5 ids ls G) ls.length (GStep.refl _ _) ⟨t,ids,ls,rfl,f1,f2,f4,f5,hM⟩ ?_
 clear hM f1 f2 f4 f5
 rintro n F G ⟨t,ids,ls,rfl,f1,f2,f4,f5,hM⟩
 have hlen:=hM.ar.len
 have l1:=hM.l1
 have l2:=hM.l2
 by_cases c:1<ids.length
 ·have d1:decide ((ids.length:Int) > 1)=true:=by simp;omega
  have hC:=fun G=>ZxW t (rA ids) G
  have hZ:=an7 f1<|an7 f2<|an7 f4<|an7 f5<|d1;refine Bz3 ?_
  refine Zap.use (hC _) ?_
  rintro r G2 ⟨hx2,id1,id2,rfl,m1,m2,g1,g2⟩
  refine Bz0 ?_
  have hl2:=Zaa.lt hM.g2
  refine many_rf (G1:=G.alloc (.cells [.sl .full []] 72)) (ls:=ls) (i8:=G.next) (i2:=i2) rfl rfl (by simp[Fr.get,f2]) hx2 m1 m2 g1 g2 ((Zaa.Zag (by omega)).trans hM.g2) (by omega) Zaa.Zae (hM.ar.ext (Zaa.Ext.refl G).alloc) hs hd hM.rw hM.ws (by rintro rfl;simp at l1) l2 fun G3 h3=>?_
  obtain⟨tt,ids',n1,h8,ht,hil,hA'⟩:=h3.nx
  rw[zaK]at hA'
  have hN:=hM.next (tt:=tt) h3.ext hA'
  have hZ:=an7 f1<|an7 f2<|an7 f4<|an7 f5<|h8;refine Bz1 ?_
  exact⟨(rnd ls).length,by rw[Zxz];omega,.own tt,ids',rnd ls,rfl,rfl,hN⟩
 ·have d1:decide ((ids.length:Int) > 1)=false:=by simp;omega
  have hZ:=an7 f1<|an7 f2<|an7 f4<|an7 f5<|d1;refine Bz3 ?_
  obtain⟨id,rfl⟩:∃id,ids=[id]:=by
   match ids,(show ids.length=1 by omega)with
   | [id],_=>exact⟨id,rfl⟩
  obtain⟨q,rfl⟩:∃q,ls=[q]:=by
   match ls,(show ls.length=1 by simpa using hlen.symm)with
   | [q],_=>exact⟨q,rfl⟩
  exact hQ _ _ t id q (by simp[Fr.get,f1]) (by simp[Fr.get,f4]) (by simp[Fr.get,f5]) hM
def ManyQ (S:Sc) (T:List Fct) (H:Zaa) (r:AV) (G:Zaa):Prop:=Zaa.Ext H G/\∃id,r=.tup [.ptr id 0,.i 0]/\ArA G id (Za3 S) (Zcn S T).N
set_option maxRecDepth 10000 in
set_option maxHeartbeats 8000000 in
theorem Zyb {S:Sc} {T:List Fct} {H:Zaa} {ids:List Nat} {ls:List (Nat×List Fct)} (t:Tok) (hs:scE S=0) (hd:S.dims.length<=4) (hA:Ars S H ids ls) (hR:∀q∈ls,RW S q) (hw:Zxr ls<=6) (h1:1<=ls.length) (hl:ls.length<=1000) (hT:Tot ls T) :
  Zay Tryz.prog 33 [.i 131072,.sl t (rA ids)] H (ManyQ S T H):=by
 have hlen:=hA.len
 have hC:∀q∈ls,Zyp S q.2:=fun q hq=>(hR q hq).Zx9 hs hd (zaB (ZxB q hq) hw)
 have d0:((ids.length:Int) == 0)=false:=beq_eq_false_iff_ne.2 (by omega)
 let G0:=((H.alloc (.cells [.i 131072] 3)).alloc (.cells [.sc (.pointer none)] 29)).alloc (.cells [.i 0] 30)
 have hx0:Zaa.Ext H G0:=(Zaa.Ext.refl H).alloc.alloc.alloc
 have g2:G0.get H.next=some (.cells [.i 131072] 3):=by
  show(Zaa.alloc _ _).get _=_
  rw[Zaa.Zag (by simp only[nx];omega),Zaa.Zag (by simp only[nx];omega)];exact Zaa.Zae
 have g4:G0.get (H.next+1)=some (.cells [.sc (.pointer none)] 29):=by
  show(Zaa.alloc _ _).get _=_
  rw[Zaa.Zag (by simp only[nx];omega)];exact Zaa.Zae (H:=H.alloc _)
 have g5:G0.get (H.next+1+1)=some (.cells [.i 0] 30):=Zaa.Zae (H:=(H.alloc _).alloc _)
 refine Zak hE cf33 (zab rfl) fun Q qr qn=>?_
 have hZ:=d0;refine Bz3 ?_
 refine Zyc (ids:=ids) (ls:=ls) (t:=t) (a2:=.ptr H.next 0) (a4:=.ptr (H.next+1) 0) (a5:=.ptr (H.next+1+1) 0) rfl rfl rfl rfl rfl rfl rfl (hA.ext hx0) hC (by omega) hs fun F G f1 f2 f4 f5 hx=>?_
 refine Bz0 ?_
 have hM:MAt S T H H.next (H.next+1) (H.next+1+1) ids ls G:=⟨hx0.trans hx,hx.get _ _ g2,hx.get _ _ g4,hx.get _ _ g5,(hA.ext hx0).ext hx,hR,hw,h1,hl,hT⟩
 refine Zym hs hd f1 f2 f4 f5 hM ?_
 clear hM f1 f2 f4 f5 hx
 intro F G t' id q f1 f4 f5 hM
 have hrq:=hM.rw q (by simp)
 have hcq:=hC
 have cq:=hrq.Zx9 hs hd (zaB (ZxB q (by simp)) hM.ws)
 have ht:=hM.tot.one hrq
 have ha:=hM.ar.ar 0 _ _ rfl rfl
 obtain⟨_,_,_,hg⟩:=ha.eAr
 have hS:=ZlR hg (ZiG hs)
 have hw1:=cq.pr.k.w
 have hln:=cq.ln
 have hN:=fun G' (h:Zaa.Ext G G')=>Znx (ha.ext h) hw1.bounds.1 (by omega) hw1.small
 have hL:=fun u v G'=>Zyy u v (Za3 S) (Zcn S q.2).N G' (by omega) hw1.small
 have he:Zm5 (Za3 S) (Zcn S q.2).N=0:=ZtW (ZiG hs) (by decide) cq.ad
 have z0:(0:Int)<=0:=zcd 0
 have hZ:=an7 f1<|an7 f4<|an7 f5<|z0;refine Bz1 ?_
 refine Zap.use hS ?_
 rintro r G3 ⟨hx3,tk,rfl⟩
 have hZ:=an7 f1<|an7 f4<|f5;refine Bz1 ?_
 refine qcp (hN G3 hx3) fun k1=>?_
 have hZ:=an7 f1<|an7 f4<|f5;refine Bz1 ?_
 refine Zap.use (hL _ _ _) ?_
 rintro r G4 ⟨hx4,hr⟩
 rcases hr with⟨h,_⟩|⟨_,nid,rfl,hNew⟩
 ·exact absurd he h
 have hx5:Zaa.Ext G G4:=(hx3.bump).trans hx4
 have g4:=hx5.get _ _ hM.g4
 have g5:=hx5.get _ _ hM.g5
 obtain⟨tk2,tok2,hO,n1,n2⟩:=hNew
 have hA1:=hO.ara
 have hEH:=hM.ext.trans hx5
 have e4:(G4.set (H.next+1) (.cells [.ptr nid 0] 29)).get (H.next+1)=some (.cells [.ptr nid 0] 29):=Zaa.Zal (Zaa.lt g4)
 have e6:(G4.set (H.next+1) (.cells [.ptr nid 0] 29)).get (H.next+1+1)=some (.cells [.i 0] 30):=(Zaa.Zah (by omega)).trans g5
 have e5:((G4.set (H.next+1) (.cells [.ptr nid 0] 29)).set (H.next+1+1) (.cells [.i 0] 30)).get (H.next+1+1)=some (.cells [.i 0] 30):=Zaa.Zal (Zaa.lt e6)
 have hA2:=ZxH (o':=.cells [.i 0] 30) (ZxH (o':=.cells [.ptr nid 0] 29) hA1 g4 fun cs e=>by cases e) e6 fun cs e=>by cases e
 have hE2:=(hEH.set (id:=H.next+1) (o:=.cells [.ptr nid 0] 29) (by omega)).set (id:=H.next+1+1) (o:=.cells [.i 0] 30) (by omega)
 rw[<- ht]at hA2
 have hZ:=an7 f4<|an7 f5<|an7 g4<|an7 g5<|an7 e4<|an7 e5<|e6;refine Bz1 ?_
 exact Zaq ⟨hE2,nid,rfl,hA2⟩
set_option maxHeartbeats 8000000 in
theorem Zye (m:Int) (t:Tok) (H:Zaa):Zay Tryz.prog 33 [.i m,.sl t []] H (ZrY H (.tup [.sc (.pointer none),.i 2])):=by
 have d0:(((0:Nat):Int) == 0)=true:=rfl
 refine Zak hE cf33 (zab rfl) fun Q qr qn=>?_
 have hZ:=d0;refine Bz5 ?_
 exact Zaq ⟨rfl,by exact AXT⟩
set_option maxRecDepth 10000 in
set_option maxHeartbeats 8000000 in
theorem Zx7 (m:Int) (t:Tok) (rows:List (List AV)) (H:Zaa) (hl:rows.length<=1000):Zay Tryz.prog 33 [.i m,.sl t ([.sc (.pointer none)] :: rows)] H (ZrY H (.tup [.sc (.pointer none),.i 1])):=by
 have d0:(((rows.length+1:Nat):Int) == 0)=false:=beq_eq_false_iff_ne.2 (by omega)
 have d1:(((0:Nat):Int) == 0)=true:=rfl
 have h0:(0:Int)<=((0:Nat):Int):=by omega
 have hS:=fun G=>shape_no (H:=G) (a:=.sc (.pointer none)) (.inl rfl)
 refine Zak hE cf33 (zab rfl) fun Q qr qn=>?_
 have hZ:=d0;refine Bz5 ?_
 unfold c33_1
 refine ZbJ (N:=rows.length+1) (fun k F G=>k=0/\Fr.get F 17=.i (k:Int)/\Fr.get F 16=.i ((rows.length+1:Nat):Int)/\Fr.get F 15=.sl t ([.sc (.pointer none)] :: rows)/\Fr.get F 4=.ptr (H.next+1) 0/\Fr.get F 5=.ptr (H.next+1+1) 0/\G=((H.alloc (.cells [.i m] 3)).alloc (.cells [.sc (.pointer none)] 29)).alloc (.cells [.i 0] 30)) (by unfold maxLen;omega) (fun k F G h=>⟨h.2.1,h.2.2.1⟩) (GStep.refl _ _) ⟨rfl,rfl,rfl,rfl,rfl,rfl,rfl⟩ ?_ ?_
 ·rintro k F G hk ⟨rfl,f17,f16,f15,f4,f5,rfl⟩
  ((have hd:=tv;repeat' first|(first|apply Zad|apply Zac|apply Zab)<;>intro hd<;>try simp only[hd]|simp(disch:=first|assumption|omega|simp only[nx]<;>omega|fail)only[hd,qr,qn,c33_0,↓YA,YY,sevalprocAttr,f17,f16,f15,f4,f5,h0,List.getElem?_cons_zero])<;>try revert hd;refine ttr ?_)
  refine Zap.use (hS _) ?_
  rintro r G3 ⟨rfl,hx3⟩
  have g4:=hx3.get (H.next+1) (.cells [.sc (.pointer none)] 29) (by rw[Zaa.Zag (by simp only[nx];omega)];exact Zaa.Zae (H:=H.alloc _))
  have g5:=hx3.get (H.next+1+1) (.cells [.i 0] 30) (Zaa.Zae (H:=(H.alloc _).alloc _))
  have e4:(G3.set (H.next+1) (.cells [.sc (.pointer none)] 29)).get (H.next+1)=some (.cells [.sc (.pointer none)] 29):=Zaa.Zal (Zaa.lt g4)
  have e6:(G3.set (H.next+1) (.cells [.sc (.pointer none)] 29)).get (H.next+1+1)=some (.cells [.i 0] 30):=(Zaa.Zah (by omega)).trans g5
  have e5:((G3.set (H.next+1) (.cells [.sc (.pointer none)] 29)).set (H.next+1+1) (.cells [.i 1] 30)).get (H.next+1+1)=some (.cells [.i 1] 30):=Zaa.Zal (Zaa.lt e6)
  have hEH:Zaa.Ext H G3:=((Zaa.Ext.refl H).alloc.alloc.alloc).trans hx3
  have hE2:=(hEH.set (id:=H.next+1) (o:=.cells [.sc (.pointer none)] 29) (by omega)).set (id:=H.next+1+1) (o:=.cells [.i 1] 30) (by omega)
  have hZ:=an7 f17<|an7 f16<|an7 f15<|an7 f4<|an7 f5<|an7 d1<|an7 g4<|an7 g5<|an7 e4<|an7 e5<|e6;refine Bz1 ?_
  exact Zaq ⟨rfl,hE2⟩
 ·rintro F G ⟨h,_⟩
  exact absurd h (by omega)
theorem Zys {S:Sc} {T:List Fct}:∀(n:Nat) (ls:List (Nat×List Fct)),ls.length<=n->ls≠[]->(∀q∈ls,RW S q)->Zxr ls<=2000->Tot ls T->RW S (Zxr ls,T)
 | _,[],_,h,_,_,_=>absurd rfl h
 | _,[q],_,_,hR,_,hT=>by
  have hq:=hR q (by simp)
  rw[hT.one hq]
  have e:Zxr [q]=q.1:=by unfold Zxr;simp
  rw[e]
  exact hq
 | 0,a :: b :: r,h,_,_,_,_=>by simp at h
 | n+1,a :: b :: r,h,_,hR,hw,hT=>by
  have h1:=Zxz (a :: b :: r)
  simp only[List.length_cons]at h h1
  have h2:=Zys n (rnd (a :: b :: r)) (by omega) (fun e=>by rw[e]at h1;simp at h1;omega) (Zx8 _ hR hw) (by rw[Zxv];exact hw) (hT.rnd hR hw)
  rw[Zxv]at h2
  exact h2
theorem Zx3 {S:Sc} {most:Int} {facts:List Fct} {H G:Zaa} {r:AV} (h:ZdZ S most facts H r G) (h1:Zet S most facts=0) (h2:Ze6 S most facts=(Zcn S facts).N):Zaa.Ext H G/\∃id,r=.tup [.ptr id 0,.i 0]/\ArA G id (Za3 S) (Zcn S facts).N:=by
 obtain⟨hx,h⟩:=h
 rcases h with⟨h3,_⟩|⟨_,id,h4,h5⟩
 ·exact absurd h1 h3
 ·rw[h2]at h5
  exact⟨hx,id,h4,h5⟩
structure AllR (S:Sc) (ls:List (Nat×List Fct)):Prop where
 rw:∀q∈ls,RW S q
 ws:Zxr ls<=6
theorem AllR.keys {S:Sc} {ls:List (Nat×List Fct)} (h:AllR S ls) (hs:scE S=0) (hd:S.dims.length<=4):∀f∈flR ls,f.1.length<=1000000/\Zho f.2:=fun f hf=>by
 obtain⟨q,hq,hf⟩:=zbo.1 hf
 have hc:=(h.rw q hq).Zx9 hs hd (zaB (ZxB q hq) h.ws)
 have h1:=hc.fo.keys f hf
 have h2:=hc.fo.dims
 exact⟨by omega,hc.fo.ag f hf⟩
theorem ZxI {S:Sc}:∀{ls:List (Nat×List Fct)},(∀q∈ls,RW S q)->(flR ls).length<=8 * Zxr ls
 | [],_=>by simp[flR,Zxr]
 | a :: r,h=>by
  have h1:=(h a (by simp)).len
  have h2:=ZxI (ls:=r) fun q hq=>h q (zad _ hq)
  have e:Zxr (a :: r)=a.1+Zxr r:=by unfold Zxr;simp
  have e2:(flR (a :: r)).length=a.2.length+(flR r).length:=by simp[flR]
  omega
theorem flR_wide {ls:List (Nat×List Fct)} (h:∀q∈ls,∀f∈q.2,WAg 1 f.2):∀f∈flR ls,WAg 1 f.2:=fun f hf=>by
 obtain⟨q,hq,hf⟩:=zbo.1 hf
 exact h q hq f hf
def Zyz:Zar:=rs 112 [.M 7,.c 31 [113],.c 30 [114],.s 112,.e 112 0,.e 112 1,.m 7 116]<|rs 118 [.L 2 2,.M 7,.C 12 [.t 119,ik 131072,.t 120],.s 118,.e 118 0,.e 118 1,.m 16 122,.s 17]<|rr 123 [.i .eql 17 0,.y 125,.i .eql 13 0,.z,.y 129,.M 12,.c 18 [131],.M 16,.c 18 [133],.c 17 [132,134],.z,.y 136,.c 29 [],.z,.s 4]
def ZxK:Zar:=rs 82 [.M 6,.C 33 [ik 131072,.t 83],.s 82,.e 82 0,.e 82 1,.m 12 85,.s 13]<|rs 87 [.O (.bsl 1 [.c (.sc (.pointer none))]),.M 6,.a 29 1 8 88 89,.C 33 [ik 9,.t 90],.s 87,.e 87 0,.e 87 1,.m 14 92,.s 15]<|ri 93 [.M 14,.O (.eqn 0 true (.t 94) (.c (.sc (.pointer none)))),.h 95,.i .neq 15 1,.z] 99 (rr 0 [.K 4])<|ri 99 [.R 6,.B .eql 101 0] 102 (rr 102 [.M 12,.O (.eqn 0 false (.t 103) (.c (.sc (.pointer none)))),.y 104,.i .eql 13 2,.z,.y 108,.c 29 [],.z,.s 4])<|Zyz
set_option maxRecDepth 10000 in
set_option maxHeartbeats 8000000 in
theorem ZxN {S:Sc} {T:List Fct} {ls:List (Nat×List Fct)} {is did w:Nat} {tb:Tok} {Q:AEx->Fr->Zaa->Prop} {F:Fr} {G0:Zaa} (hs:scE S=0) (hd:S.dims.length<=4) (hS:Zh1 S) (hall:AllR S ls) (hT:ZnG [] (Znr (flR ls))=some T) (hRT:RW S (w,T)) (hw:w<=6)
  (f2:Fr.get F 2=.ptr is 0) (f7:Fr.get F 7=.sl tb (rF (flR ls))) (f12:Fr.get F 12=.ptr did 0) (f13:Fr.get F 13=.i 0) (gs:G0.get is=some (.cells (eSc S) 25)) (ha:ArA G0 did (Za3 S) (Zcn S T).N) (hQ:∀F G,Fr.get F 4=.b true->Q .ret F G):AW Tryz.prog Zyz Q F G0:=by
 obtain⟨e0,e1,e2,e3⟩:=ZbB S
 have hk:=hall.keys hs hd
 have hlen:=ZxI hall.rw
 have hws:=hall.ws
 have hil:∀f∈Znr (flR ls),f.1.length<=1000000/\Zho f.2:=fun f hf=>by
  have:=ZoC hk (flR ls).length (zaf _)
  rw[zaK]at this
  exact this f hf
 have hls:(Znr (flR ls)).length<=1000000:=by
  have:=ZoB (flR ls) (flR ls).length (zaf _)
  rw[zaK]at this
  omega
 have hso:=fun t G=>Zpa t (flR ls) G (by omega) fun f hf=>(hk f hf).1
 have hfo:=fun t G=>Zpu t (Znr (flR ls)) _ G hls hil hT
 have hc:=hRT.Zx9 hs hd hw
 have hz:=hRT.sz hw
 have hba:=fun G=>ZfY .no S 131072 T G hS (by have:=hz.1;simp only at this;omega) (fun _ _ _ _=>hc.fo)
 have hw1:=hc.pr.k.w
 have hln:(Zcn S T).N.length<=10000:=hc.ln
 have hb1:=hw1.bounds.1
 have hsm:∀n∈(Zcn S T).N,Zdb n:=hw1.small
 have hR:∀t u G,Zay Tryz.prog 17 [.sl t (rN (Zcn S T).N),.sl u (rN (Zcn S T).N)] G (Pure G (.b true)):=fun t u G=>by
  have h:=ZoI t u (Zcn S T).N (Zcn S T).N G (by omega) hsm
  rw[decide_eq_true rfl]at h
  exact h
 have qr:=trivial
 have qn:=trivial
 unfold Zyz
 have hZ:=f7;refine Bz1 ?_
 refine qcp (hso _ _) fun k1=>?_
 refine Bz0 ?_
 refine qcp (hfo _ _) fun k2=>?_
 have ha:=ha.ext (((Zaa.Ext.refl G0).bump (k:=k1)).bump (k:=k2))
 have hZ:=an7 f2<|an7 gs<|an7 e0<|e3;refine Bz1 ?_
 refine Zap.use (hba _) ?_
 rintro r G1 hr
 obtain⟨hx,cid,rfl,hcA⟩:=Zx3 hr hc.bl.1 hc.bl.2
 have ha:=ha.ext hx
 have hn3:=fun G (h:Zaa.Ext G1 G)=>Znx (ha.ext h) hb1 (by omega) hsm
 have hn4:=fun G (h:Zaa.Ext G1 G)=>Znx (hcA.ext h) hb1 (by omega) hsm
 have hZ:=an7 f12<|f13;refine Bz1 ?_
 refine qcp (hn3 G1 (Zaa.Ext.refl _)) fun k3=>?_
 refine Bz0 ?_
 refine qcp (hn4 (G1.bump k3) ((Zaa.Ext.refl G1).bump)) fun k4=>?_
 refine Bz0 ?_
 refine qcp (hR _ _ _) fun k5=>?_
 refine Bz0 ?_
 refine Zap.use (Zm1 _) ?_
 rintro r _ ⟨rfl,_⟩
 refine Bz0 ?_
 exact hQ _ _ rfl
set_option maxRecDepth 10000 in
set_option maxHeartbeats 8000000 in
theorem ZxD {S:Sc} {ids:List Nat} {ls:List (Nat×List Fct)} {is:Nat} {ta tb:Tok} {Q:AEx->Fr->Zaa->Prop} {F:Fr} {G0:Zaa} (hs:scE S=0) (hd:S.dims.length<=4) (hS:Zh1 S) (hall:AllR S ls) (hwd:∀q∈ls,∀f∈q.2,WAg 1 f.2) (hl6:ls.length<=6) (hA:Ars S G0 ids ls)
  (f2:Fr.get F 2=.ptr is 0) (f6:Fr.get F 6=.sl ta (rA ids)) (f7:Fr.get F 7=.sl tb (rF (flR ls))) (gs:G0.get is=some (.cells (eSc S) 25)) (hQ:∀F G,Fr.get F 4=.b true->Q .ret F G):AW Tryz.prog ZxK Q F G0:=by
 have hlen:=hA.len
 have qr:=trivial
 have qn:=trivial
 have q1:((2:Int) == 2)=true:=rfl
 by_cases he:ls=[]
 ·subst he
  have hid:ids=[]:=zbl.1 hlen
  subst hid
  have hm0:=fun t G=>Zye 131072 t G
  have hm1:=fun t G=>Zx7 9 t [] G (by simp)
  have d0:(((0:Nat):Int) == 0)=true:=rfl
  have f6:Fr.get F 6=.sl ta []:=f6
  unfold ZxK
  have hZ:=f6;refine Bz1 ?_
  refine Zap.use (hm0 _ _) ?_
  rintro r G1 ⟨rfl,hx1⟩
  ((have hd:=tv;repeat' first|(first|apply Zad|apply Zac|apply Zab)<;>intro hd<;>try simp only[hd]|simp(disch:=first|assumption|omega|simp only[nx]<;>omega|fail)only[hd,qr,qn,c7_0,↓YA,YY,sevalprocAttr,f6,Zgy])<;>try revert hd;refine ttr ?_)
  refine Zap.use (hm1 _ _) ?_
  rintro r G2 ⟨rfl,hx2⟩
  have hZ:=an7 f6<|an7 d0<|q1;refine Bz5 ?_
  refine Zap.use (Zm1 _) ?_
  rintro r _ ⟨rfl,_⟩
  refine Bz0 ?_
  exact hQ _ _ rfl
 ·obtain⟨T,hT,t1,t2,t3⟩:=fold_all (flR_wide hwd) (ZxP hall.rw) (by have:=ZxI hall.rw;have:=hall.ws;omega)
  have hTot:Tot ls T:=⟨t1,t2,t3⟩
  have hRT:=Zys ls.length ls (zaf _) he hall.rw (by have:=hall.ws;omega) hTot
  have h1:1<=ls.length:=by cases ls with
   | nil=>exact absurd rfl he
   | cons a r=>simp
  have hm0:=Zyb ta hs hd hA hall.rw hall.ws h1 (by omega) hTot
  have hm1:=fun t G=>Zx7 9 t (rA ids) G (by simp;omega)
  have d0:((ids.length:Int) == 0)=false:=beq_eq_false_iff_ne.2 (by omega)
  obtain⟨a,r,hcons⟩:∃a r,rA ids=a :: r:=by
   match ids,(show ids≠[]from fun e=>by rw[e]at hlen;simp at hlen;omega)with
   | a :: r,_=>exact⟨_,_,rfl⟩
  have hn:r.length+1=ids.length:=by
   have:=congrArg List.length hcons
   simpa using this.symm
  have e1:ZaE 1 (a :: r)=true:=hcons ▸ ZaU (f:=fun i=>[AV.ptr i 0]) (sz:=1) (fun _=>rfl) ids
  have b1:(1+(r.length+1)<=maxLen/\(1+(r.length+1)) * 8<=140737488355328/\ZaE 1 [[AV.sc (Value.pointer none)]]=true)=True:=eq_true ⟨by unfold maxLen;omega,by omega,rfl⟩
  have lgs:=Zaa.lt gs
  rw[hcons]at hm1
  unfold ZxK
  have hZ:=f6;refine Bz1 ?_
  refine Zap.use hm0 ?_
  rintro r1 G1 ⟨hx1,did,rfl,hd1⟩
  have hZ:=an7 f6<|an7 hcons<|an7 e1<|b1;refine Bz1 ?_
  refine Zap.use (hm1 _ _) ?_
  rintro r2 G2 ⟨rfl,hx2⟩
  have hZ:=an7 f6<|d0;refine Bz3 ?_
  have hx3:Zaa.Ext G1 G2:=((Zaa.Ext.refl G1).alloc).trans hx2
  exact ZxN (is:=is) (did:=did) (tb:=tb) hs hd hS hall hT hRT hall.ws (by simp[Fr.get,f2]) (by simp[Fr.get,f7]) (by simp[Fr.get]) (by simp[Fr.get]) ((hx1.trans hx3).get _ _ gs) (hd1.ext hx3) hQ
def Zyu:Zar:=rs 61 [.L 2 2,.M 9,.C 12 [.t 62,ik 20000,.t 63],.s 61,.e 61 0,.e 61 1,.m 10 65,.s 11]<|ri 66 [.i .neq 11 0] 68 (rr 68 [.i .eql 11 7,.y 70,.c 29 [],.z,.s 4])<|ry 73 [.M 6,.M 10,.A 29 1 8 74 75,.M 7,.M 9,.a 88 11 104 78 79,.m 6 77,.s 7]
def Zyn:Zar:=rs 0 [.D 6]<|rs 0 [.D 7]<|.seq (rs 39 [.R 1,.J 0]<|c7_1)<|ZxK
set_option maxRecDepth 10000 in
theorem pm_splt1:c7_1=.blk 0 (.loop (.seq (.reg [io 43 (.bin .lss (.t 42) (.t 41))]) (.seq (.cond (.t 43) .skip (.exit 0)) (.seq (.blk 1 (.seq (.reg [io 44 (.ixa 1 (.t 40) (.t 42)),io 45 (.ld 1 false (.t 44)),im 9 45]) (.seq (.seq (.reg [im 46 9,io 47 (.call (jf 28) [.t 46,ik 8]),io 48 (.un .not (.t 47)),im 49 48,ih 49 50 (.mv (.t 9)),ih 49 51 (.call (jf 20) [.t 50]),ih 49 52 (.un .not (.t 51)),io 53 (.pick (.t 49) (ib true) (.t 52)),im 54 53,ih 54 55 (.ld 2 true (.t 5)),ih 54 56 (.mv (.t 9)),ih 54 57 (.call (jf 14) [.t 55,.t 56]),ih 54 58 (.bin .neq (.t 57) (ik 0)),io 59 (.pick (.t 54) (ib true) (.t 58))]) (.cond (.t 59) (.seq (.reg [io 60 (.call (jf 29) []),im 4 60]) .ret) .skip)) Zyu))) (.reg [io 81 (.bin .add (.t 42) (ik 1)),im 42 81]))))):=rfl
set_option maxRecDepth 10000 in
theorem pm_split:c7_0=.seq (.reg [io 2 (.box 25 (.t 0)),io 4 (.mv (ib false))]) (.seq (.reg [io 18 (.ld 2 true (.t 2)),io 19 (.call (jf 15) [.t 18]),io 5 (.box 37 (.c (.agg [.sl .full [],.sc (.int .i64 0)]))),iz (.st 2 (.t 5) (.t 19))]) (.seq (.seq (.reg [io 20 (.ld 2 true (.t 2)),io 21 (.call (jf 27) [.t 20]),io 22 (.un .not (.t 21)),im 23 22,ih 23 24 (.fla 0 (.t 2)),ih 23 25 (.ld 1 false (.t 24)),ih 23 26 (.len false (.t 25)),ih 23 27 (.bin .gtr (.t 26) (ik 4)),io 28 (.pick (.t 23) (ib true) (.t 27)),im 29 28,ih 29 30 (.ld 2 true (.t 2)),ih 29 31 (.call (jf 13) [.t 30]),ih 29 32 (.bin .neq (.t 31) (ik 0)),io 33 (.pick (.t 29) (ib true) (.t 32)),im 34 33,ih 34 35 (.mv (.t 1)),ih 34 36 (.len false (.t 35)),ih 34 37 (.bin .gtr (.t 36) (ik 6)),io 38 (.pick (.t 34) (ib true) (.t 37))]) (.cond (.t 38) (.seq (.reg [io 39 (.call (jf 29) []),im 4 39]) .ret) .skip)) Zyn)):=rfl
abbrev eP (parts:List (List Fct)):List (List AV):=parts.map fun p=>[AV.sl .no (rF p)]
set_option maxRecDepth 10000 in
set_option maxHeartbeats 8000000 in
theorem ZxM {S:Sc} {part all:List Fct} {ids:List Nat} {is ta tb:Nat} {a5 a40 a41 a42:AV} {Q:AEx->Fr->Zaa->Prop} {F:Fr} {G:Zaa} (hs:scE S=0) (hd:S.dims.length<=4) (hS:Zh1 S) (hR:RW S (1,part))
  (f9:Fr.get F 9=.sl .no (rF part)) (f2:Fr.get F 2=.ptr is 0) (f5:Fr.get F 5=a5) (f40:Fr.get F 40=a40) (f41:Fr.get F 41=a41) (f42:Fr.get F 42=a42) (f6:Fr.get F 6=.sl (.own ta) (rA ids)) (f7:Fr.get F 7=.sl (.own tb) (rF all))
  (gs:G.get is=some (.cells (eSc S) 25)) (gta:G.get ta=some (.tok ids.length 29 1)) (gtb:G.get tb=some (.tok all.length 88 11)) (hne:ta≠tb) (hli:ids.length<=1000) (hla:all.length<=1000)
  (hQ:∀F' G1 id,Fr.get F' 2=.ptr is 0->Fr.get F' 5=a5->Fr.get F' 40=a40->Fr.get F' 41=a41->Fr.get F' 42=a42->Fr.get F' 6=.sl (.own ta) (rA (ids++[id]))->Fr.get F' 7=.sl (.own tb) (rF (all++part))->Zaa.Ext G G1->ArA G1 id (Za3 S) (Zcn S part).N ->
   Q .normal F' ((G1.set ta (.tok (ids.length+1) 29 1)).set tb (.tok (all.length+part.length) 88 11))):AW Tryz.prog Zyu Q F G:=by
 obtain⟨e0,e1,e2,e3⟩:=ZbB S
 have hc:=hR.Zx9 hs hd (show 1<=6 from by decide)
 have hz:part.length<=48:=(hR.sz (show 1<=6 from by decide)).1
 have hb:=fun G=>ZfY .no S 20000 part G hS (by omega) (fun _ _ _ _=>hc.fo)
 have lgs:=Zaa.lt gs
 have qr:=trivial
 have qn:=trivial
 unfold Zyu
 have hZ:=an7 f9<|an7 f2<|an7 gs<|an7 e0<|e3;refine Bz1 ?_
 refine Zap.use (hb _) ?_
 rintro r G1 hr
 obtain⟨hx,id,rfl,hA⟩:=Zx3 hr hc.b2.1 hc.b2.2
 have gta:=hx.get _ _ gta
 have gtb:=hx.get _ _ gtb
 have l1:=Zaa.lt gta
 have l2:=Zaa.lt gtb
 have h6:(G1.set ta (.tok (ids.length+1) 29 1)).get tb=some (.tok all.length 88 11):=(Zaa.Zah (zbC hne)).trans gtb
 have i1:ZaE 1 (rA ids)=true:=ZaU (f:=fun i=>[AV.ptr i 0]) (sz:=1) (fun _=>rfl) ids
 have i2:(ZaE 1 [[AV.ptr id 0]]=true/\ids.length+1<=maxLen/\(ids.length+1) * 8<=140737488355328)=True:=eq_true ⟨rfl,by unfold maxLen;omega,by omega⟩
 have i3:rA ids++[[AV.ptr id 0]]=rA (ids++[id]):=by simp
 have j1:=Znt all
 have j4:=Znt part
 have j2:(all.length+part.length<=maxLen/\(all.length+part.length) * 104<=140737488355328)=True:=eq_true ⟨by unfold maxLen;omega,by omega⟩
 have j3:rF all++rF part=rF (all++part):=zaV.symm
 have hZ:=an7 f9<|an7 f2<|an7 f5<|an7 f40<|an7 f41<|an7 f42<|an7 f6<|an7 f7<|an7 gta<|an7 gtb<|an7 h6<|an7 i1<|an7 i2<|an7 i3<|an7 j1<|an7 j2<|an7 j3<|j4;refine Bz3 ?_
 exact hQ _ G1 id (by simp[Fr.get,f2]) (by simp[Fr.get,f5]) (by simp[Fr.get,f40]) (by simp[Fr.get,f41]) (by simp[Fr.get,f42]) (by simp[Fr.get]) (by simp[Fr.get]) hx hA
def lsK (parts:List (List Fct)) (k:Nat):List (Nat×List Fct):=(parts.take k).map fun p=>(1,p)
theorem Zx1 {parts:List (List Fct)} {k:Nat} (hk:k<parts.length):lsK parts (k+1)=lsK parts k++[(1,parts[k])]:=by
 have e:parts.take (k+1)=parts.take k++[parts[k]]:=by rw[zcp,zaa hk];rfl
 unfold lsK
 rw[e,zaV]
 rfl
theorem ZxJ (parts:List (List Fct)) (k:Nat):Zxr (lsK parts k)=(lsK parts k).length:=by
 unfold lsK Zxr
 rw[zbt]
 induction parts.take k with
 | nil=>rfl
 | cons a r ih=>rw[zas,List.sum_cons,ih];simp[zcF]
theorem Zyq (l m:List (Nat×List Fct)):flR (l++m)=flR l++flR m:=by simp[flR]
structure PmAt (S:Sc) (parts:List (List Fct)) (is ix ta tb k:Nat) (ids:List Nat) (G:Zaa):Prop where
 gs:G.get is=some (.cells (eSc S) 25)
 gx:G.get ix=some (.cells (Zc3 (Za3 S)) 37)
 gta:G.get ta=some (.tok ids.length 29 1)
 gtb:G.get tb=some (.tok (flR (lsK parts k)).length 88 11)
 all:AllR S (lsK parts k)
 wid:∀q∈lsK parts k,∀f∈q.2,WAg 1 f.2
 ar:Ars S G ids (lsK parts k)
theorem PmAt.step {S:Sc} {parts:List (List Fct)} {is ix ta tb k:Nat} {ids:List Nat} {G G':Zaa} (h:PmAt S parts is ix ta tb k ids G) (hx:Zaa.Ext G G'):PmAt S parts is ix ta tb k ids G' :=
 ⟨hx.get _ _ h.gs,hx.get _ _ h.gx,hx.get _ _ h.gta,hx.get _ _ h.gtb,h.all,h.wid,h.ar.ext hx⟩
theorem PmAt.push {S:Sc} {parts:List (List Fct)} {is ix ta tb k id:Nat} {ids:List Nat} {G:Zaa} (h:PmAt S parts is ix ta tb k ids G) (hk:k<parts.length) (h6:parts.length<=6) (hR:RW S (1,parts[k])) (hA:ArA G id (Za3 S) (Zcn S parts[k]).N) :
  PmAt S parts is ix ta tb (k+1) (ids++[id]) ((G.set ta (.tok (ids.length+1) 29 1)).set tb (.tok ((flR (lsK parts k)).length+parts[k].length) 88 11)):=by
 have hne:ta≠tb:=by
  rintro rfl
  have:=h.gta.symm.trans h.gtb
  simp at this
 have e:=Zx1 hk
 have l1:=Zaa.lt h.gta
 have l2:=Zaa.lt h.gtb
 have g6:(G.set ta (.tok (ids.length+1) 29 1)).get tb=some (.tok (flR (lsK parts k)).length 88 11):=(Zaa.Zah (zbC hne)).trans h.gtb
 have cell:∀i cs E,G.get i=some (.cells cs E)->((G.set ta (.tok (ids.length+1) 29 1)).set tb (.tok ((flR (lsK parts k)).length+parts[k].length) 88 11)).get i=some (.cells cs E):=fun i cs E hi=>by
  rw[Zaa.Zah ?_,Zaa.Zah ?_]
  ·exact hi
  ·rintro rfl;rw[h.gta]at hi;cases hi
  ·rintro rfl;rw[h.gtb]at hi;cases hi
 have ha:∀j l,ArA G j (Za3 S) l->ArA ((G.set ta (.tok (ids.length+1) 29 1)).set tb (.tok ((flR (lsK parts k)).length+parts[k].length) 88 11)) j (Za3 S) l:=fun j l hj=>by
  obtain⟨a,b,c,hj⟩:=hj
  exact⟨a,b,c,cell _ _ _ hj⟩
 refine⟨cell _ _ _ h.gs,cell _ _ _ h.gx,?_,?_,⟨fun q hq=>?_,?_⟩,fun q hq=>?_,?_⟩
 ·rw[Zaa.Zah hne,Zaa.Zal l1,zai];rfl
 ·rw[Zaa.Zal (by simpa using l2),e,Zyq,zai]
  simp[flR]
 ·rw[e]at hq
  rcases zav.1 hq with hq|hq
  ·exact h.all.rw q hq
  ·rw[zam.1 hq];exact hR
 ·rw[ZxJ];unfold lsK;simp;omega
 ·rw[e]at hq
  rcases zav.1 hq with hq|hq
  ·exact h.wid q hq
  ·rw[zam.1 hq];exact hR.wide
 ·have hp:(parts.map fun p=>((1:Nat),p))[k]?=some (1,parts[k]):=by simp[hk]
  have h1:Ars S G ids ((parts.map fun p=>((1:Nat),p)).take k):=by have:=h.ar;unfold lsK at this;rwa [zcs]at this
  have:=(h1.snoc hp hA).mono fun j _ l hj=>ha j l hj
  have e2:lsK parts (k+1)=(parts.map fun p=>((1:Nat),p)).take (k+1):=by unfold lsK;rw[zcs]
  rw[e2]
  exact this
set_option maxRecDepth 10000 in
set_option maxHeartbeats 8000000 in
theorem ZxG {S:Sc} {parts:List (List Fct)} {is ix:Nat} {Q:AEx->Fr->Zaa->Prop} {F:Fr} {G:Zaa} (hs:scE S=0) (hd:S.dims.length<=4) (hS:Zh1 S) (h6:parts.length<=6)
  (f2:Fr.get F 2=.ptr is 0) (f5:Fr.get F 5=.ptr ix 0) (f40:Fr.get F 40=.sl .no (eP parts)) (f41:Fr.get F 41=.i (parts.length:Int)) (f42:Fr.get F 42=.i ((0:Nat):Int)) (f6:Fr.get F 6=.sl .full []) (f7:Fr.get F 7=.sl .full []) {ta tb:Nat} (hta:ta=G.next) (htb:tb=G.next+1) (hP:PmAt S parts is ix ta tb 0 [] ((G.alloc (.tok 0 29 1)).alloc (.tok 0 88 11)))
  (qr':∀F G,Fr.get F 4=.b true->Q .ret F G)
  (hQ:∀F G ids,Fr.get F 2=.ptr is 0->Fr.get F 6=.sl (.own ta) (rA ids)->Fr.get F 7=.sl (.own tb) (rF (flR (lsK parts parts.length)))->PmAt S parts is ix ta tb parts.length ids G->Q .normal F G):AW Tryz.prog c7_1 Q F G:=by
 have hxl:(Za3 S).sizes.length<=1000000:=by unfold Za3;simp;omega
 obtain⟨e0,e1,e2,e3⟩:=ZbB S
 have d0:((0:Int) != 0)=false:=rfl
 have qr:=trivial
 have qn:=trivial
 rw[pm_splt1]
 refine ZbJ (N:=parts.length) (fun k F G=>Fr.get F 42=.i (k:Int)/\Fr.get F 41=.i (parts.length:Int)/\Fr.get F 40=.sl .no (eP parts)/\Fr.get F 2=.ptr is 0/\Fr.get F 5=.ptr ix 0/\∃ids,Fr.get F 6=.sl (.own ta) (rA ids)/\Fr.get F 7=.sl (.own tb) (rF (flR (lsK parts k)))/\PmAt S parts is ix ta tb k ids G) (by unfold maxLen;omega) (fun k F G h=>⟨h.1,h.2.1⟩) ((GStep.tok 6 29 1 f6).trans (GStep.tok 7 88 11 (by simp[Fr.get,Fr.put,f7]))) ⟨by simp[Fr.get,Fr.put,f42],by simp[Fr.get,Fr.put,f41],by simp[Fr.get,Fr.put,f40],by simp[Fr.get,Fr.put,f2],by simp[Fr.get,Fr.put,f5],[],by simp[Fr.get,Fr.put,hta],by simp[Fr.get,Fr.put,htb,lsK,flR],hP⟩ ?_ ?_
 ·rintro k F G hk ⟨f42,f41,f40,f2,f5,ids,f6,f7,hP⟩
  have hr:(eP parts)[k]?=some [.sl .no (rF parts[k])]:=by simp[hk]
  have hk0:(0:Int)<=(k:Int):=by omega
  have w1:IntKind.i64.wrap ((k:Int)+1)=((k+1:Nat):Int):=by rw[Zaw (by omega) (by omega)];omega
  have hf:=fun G=>Zfs .no parts[k] 8 G (by decide)
  have hw:=fun(h:parts[k].length<=1000000) G=>Zkx .no parts[k] G h
  have hrr:=fun(h:parts[k].length<=1000000) G=>ZfV .no (Za3 S) parts[k] G h hxl
  have hZ:=an7 f42<|an7 f41<|an7 f40<|an7 f2<|an7 f5<|an7 f6<|an7 f7<|an7 hr<|hk0;refine Bz1 ?_
  refine Zap.use (hf _) ?_
  rintro r H2 ⟨hx2,b,rfl,hl⟩
  have hP:=hP.step hx2.ext
  cases b with
  | false =>
   refine Bz0 ?_
   refine Zap.use (Zm1 _) ?_
   rintro r _ ⟨rfl,_⟩
   refine Bz0 ?_
   exact qr' _ _ rfl
  | true =>
  have hl:=hl rfl
  have hZ:=an7 f42<|an7 f41<|an7 f40<|an7 f2<|an7 f5<|an7 f6<|f7;refine Bz1 ?_
  refine Zap.use (hw (by omega) _) ?_
  rintro r H3 ⟨hx3,b,rfl,wl⟩
  have hP:=hP.step hx3.ext
  cases b with
  | false =>
   refine Bz0 ?_
   refine Zap.use (Zm1 _) ?_
   rintro r _ ⟨rfl,_⟩
   refine Bz0 ?_
   exact qr' _ _ rfl
  | true =>
  have wl:=wl rfl
  have gx:=hP.gx
  by_cases h2:Zd7 (Za3 S) none parts[k]=0
  case neg =>
   have d2:(Zd7 (Za3 S) none parts[k] != 0)=true:=by simpa using h2
   have hZ:=an7 f42<|an7 f41<|an7 f40<|an7 f2<|an7 f5<|an7 f6<|an7 f7<|gx;refine Bz1 ?_
   refine qcp (hrr (by omega) _) fun k3=>?_
   have hZ:=d2;refine Bz1 ?_
   refine Zap.use (Zm1 _) ?_
   rintro r _ ⟨rfl,_⟩
   refine Bz0 ?_
   exact qr' _ _ rfl
  have hZ:=an7 f42<|an7 f41<|an7 f40<|an7 f2<|an7 f5<|an7 f6<|an7 f7<|gx;refine Bz1 ?_
  refine qcp (hrr (by omega) _) fun k3=>?_
  have hZ:=an7 h2<|d0;refine Bz1 ?_
  have hR:RW S (1,parts[k]):=⟨h2,wl.wag (m:=(Za3 S).measures) fun f hf=>(Zcp (Zcu h2 f hf)).2.2,by simp only;omega⟩
  have hP:=hP.step ((Zaa.Ext.refl H3).bump (k:=k3))
  have hfl:=ZxI hP.all.rw
  have hws:=hP.all.ws
  have hidl:ids.length<=6:=by have:=hP.ar.len;rw[<- ZxJ]at this;omega
  have hne:ta≠tb:=by
   rintro rfl
   have:=hP.gta.symm.trans hP.gtb
   simp at this
  refine ZxM (part:=parts[k]) (all:=flR (lsK parts k)) (ids:=ids) (is:=is) (ta:=ta) (tb:=tb) (a5:=.ptr ix 0) (a40:=.sl .no (eP parts)) (a41:=.i (parts.length:Int)) (a42:=.i (k:Int)) hs hd hS hR (by simp[Fr.get]) (by simp[Fr.get,f2]) (by simp[Fr.get,f5]) (by simp[Fr.get,f40]) (by simp[Fr.get,f41]) (by simp[Fr.get,f42]) (by simp[Fr.get,f6]) (by simp[Fr.get,f7]) hP.gs hP.gta hP.gtb hne (by omega) (by omega) ?_
  intro F' G1 id f2 f5 f40 f41 f42 f6 f7 hx hA
  have hN:=(hP.step hx).push hk h6 hR hA
  have h7:rF (flR (lsK parts k)++parts[k])=rF (flR (lsK parts (k+1))):=by rw[Zx1 hk,Zyq];simp[flR]
  rw[h7]at f7
  have hZ:=an7 f2<|an7 f5<|an7 f40<|an7 f41<|an7 f42<|an7 f6<|an7 f7<|w1;refine Bz1 ?_
  exact⟨ids++[id],rfl,hN⟩
 ·rintro F G ⟨f42,f41,f40,f2,f5,ids,f6,f7,hP⟩
  exact hQ _ _ ids (by simp[Fr.get,f2]) (by simp[Fr.get,f6]) (by simp[Fr.get,f7]) hP
set_option maxRecDepth 10000 in
set_option maxHeartbeats 8000000 in
theorem ZxU {S:Sc} {parts:List (List Fct)} {is ix:Nat} {Q:AEx->Fr->Zaa->Prop} {F:Fr} {G:Zaa} (hs:scE S=0) (hd:S.dims.length<=4) (hS:Zh1 S) (h6:parts.length<=6)
  (f1:Fr.get F 1=.sl .no (eP parts)) (f2:Fr.get F 2=.ptr is 0) (f5:Fr.get F 5=.ptr ix 0) (gs:G.get is=some (.cells (eSc S) 25)) (gx:G.get ix=some (.cells (Zc3 (Za3 S)) 37))
  (hQ:∀F G,Fr.get F 4=.b true->Q .ret F G):AW Tryz.prog Zyn Q F G:=by
 have qr:=trivial
 have qn:=trivial
 have l1:=Zaa.lt gs
 have l2:=Zaa.lt gx
 unfold Zyn
 have hZ:=an7 f1<|an7 f2<|f5;refine Bz3 ?_
 have hx:Zaa.Ext G ((G.alloc (.tok 0 29 1)).alloc (.tok 0 88 11)):=(Zaa.Ext.refl G).alloc.alloc
 have e0:lsK parts 0=[]:=rfl
 refine ZxG (parts:=parts) (is:=is) (ix:=ix) (ta:=G.next) (tb:=G.next+1) hs hd hS h6 (by simp[Fr.get,f2]) (by simp[Fr.get,f5]) (by simp[Fr.get]) (by simp[Fr.get]) (by simp[Fr.get]) (by simp[Fr.get]) (by simp[Fr.get]) rfl rfl ⟨hx.get _ _ gs,hx.get _ _ gx,?_,?_,?_,?_,?_⟩ (fun F G h=>?_) ?_
 ·rw[Zaa.Zag (by simp)];exact Zaa.Zae
 ·exact Zaa.Zae (H:=G.alloc _)
 ·rw[e0];exact⟨fun q hq=>by simp at hq,by unfold Zxr;simp⟩
 ·rw[e0];exact fun q hq=>by simp at hq
 ·rw[e0];exact⟨rfl,fun i id q h=>by simp at h⟩
 ·refine Bz0 ?_
  exact hQ _ _ h
 ·intro F G2 ids f2 f6 f7 hP
  have hl:=ZxJ parts parts.length
  refine Bz0 ?_
  exact ZxD (ids:=ids) (ls:=lsK parts parts.length) (is:=is) hs hd hS hP.all hP.wid (by unfold lsK;simp;omega) hP.ar f2 f6 f7 hP.gs hQ
set_option maxRecDepth 10000 in
set_option maxHeartbeats 8000000 in
theorem pairmany_walk (S:Sc) (parts:List (List Fct)) (H:Zaa) (hd:S.dims.length<=4000000000000) (hdt:∀d∈S.dims,d.tiers.length<=4000000000000):Zay Tryz.prog 7 [.agg (eSc S),.sl .no (eP parts)] H fun r _=>r=.b true:=by
 obtain⟨f0,f1,f2,f3⟩:=ZbB S
 have g1:(H.alloc (.cells (eSc S) 25)).get H.next=some (.cells (eSc S) 25):=Zaa.Zae
 have hx0:Zaa.Ext H (H.alloc (.cells (eSc S) 25)):=(Zaa.Ext.refl H).alloc
 refine Zak hE cf7 (zab rfl) fun Q qr qn=>?_
 rw[pm_split]
 have hQf:∀F G,Fr.get F 4=.b true->Q .ret F G:=fun F G h=>by rw[qr];show ∃r2 H2,Zb6 (Fr.get F 4) G r2 H2/\r2=.b true;rw[h];exact Zaq rfl
 have hZ:=an7 f0<|f3;refine Bz1 ?_
 refine qcp (ZoZ S _ hd hdt) fun k1=>?_
 have hZ:=an7 f0<|f3;refine Bz1 ?_
 have g1:(((H.alloc (.cells (eSc S) 25)).bump k1).alloc (.cells (Zc3 (Za3 S)) 37)).get H.next=some (.cells (eSc S) 25):=by rw[Zaa.Zag (by simp only[nx];omega)];exact g1
 have g2:(((H.alloc (.cells (eSc S) 25)).bump k1).alloc (.cells (Zc3 (Za3 S)) 37)).get (H.next+1+k1)=some (.cells (Zc3 (Za3 S)) 37):=Zaa.Zae (H:=(H.alloc _).bump k1)
 refine Zap.use (ZiT S _) ?_
 rintro r H1 ⟨hx1,b,rfl,hb⟩
 have g1:=hx1.ext.get _ _ g1
 have g2:=hx1.ext.get _ _ g2
 cases b with
 | false =>
  refine Bz0 ?_
  refine Zap.use (Zm1 _) ?_
  rintro r H2 ⟨rfl,hx2⟩
  refine Bz0 ?_
  exact Zaq rfl
 | true =>
 have hfs:=hb rfl
 have hS:Zh1 S:=fun d hd t ht=>by have:=((hfs.2 d hd).2 t ht).2;unfold Zgr;omega
 by_cases h6:(S.dims.length:Int) > 4
 ·have d6:decide ((S.dims.length:Int) > 4)=true:=decide_eq_true h6
  have hZ:=an7 g1<|an7 f0<|an7 f1<|an7 f3<|d6;refine Bz3 ?_
  refine Zap.use (Zm1 _) ?_
  rintro r H2 ⟨rfl,hx2⟩
  refine Bz0 ?_
  exact Zaq rfl
 have d6:decide ((S.dims.length:Int) > 4)=false:=decide_eq_false h6
 by_cases h1:scE S=0
 case neg =>
  have d1:(scE S != 0)=true:=by simpa using h1
  have hZ:=an7 g1<|an7 f0<|an7 f1<|an7 f3<|d6;refine Bz3 ?_
  refine qcp (ZeE S _ hS) fun k2=>?_
  have hZ:=d1;refine Bz1 ?_
  refine Zap.use (Zm1 _) ?_
  rintro r H2 ⟨rfl,hx2⟩
  refine Bz0 ?_
  exact Zaq rfl
 have d0:((0:Int) != 0)=false:=rfl
 by_cases h7:(parts.length:Int) > 6
 ·have d7:decide ((parts.length:Int) > 6)=true:=decide_eq_true h7
  have hZ:=an7 g1<|an7 f0<|an7 f1<|an7 f3<|d6;refine Bz3 ?_
  refine qcp (ZeE S _ hS) fun k2=>?_
  have hZ:=an7 h1<|an7 d0<|d7;refine Bz3 ?_
  refine Zap.use (Zm1 _) ?_
  rintro r H2 ⟨rfl,hx2⟩
  refine Bz0 ?_
  exact Zaq rfl
 have d7:decide ((parts.length:Int) > 6)=false:=decide_eq_false h7
 have hZ:=an7 g1<|an7 f0<|an7 f1<|an7 f3<|d6;refine Bz3 ?_
 refine qcp (ZeE S _ hS) fun k2=>?_
 have hZ:=an7 h1<|an7 d0<|d7;refine Bz3 ?_
 have g1:(H1.bump k2).get H.next=_:=(Zaa.Ext.refl H1).bump.get _ _ g1
 have g2:=(Zaa.Ext.refl H1).bump (k:=k2) |>.get _ _ g2
 exact ZxU (parts:=parts) (is:=H.next) (ix:=H.next+1+k1) h1 (by omega) hS (by omega) (by simp[Fr.get]) (by simp[Fr.get]) (by simp[Fr.get]) g1 g2 hQf
theorem fits_fctss:(Sh.slice (.slice Zik)).Fits Tryz.prog (.inl 71):=⟨26,Tryz.underlying71,by kernel_rfl,by decide,Zyv⟩
theorem arg_fctss {W:World} {v:Value} {y:(Sh.slice (.slice Zik)).D} (h:(Sh.slice (.slice Zik)).Is W (·<W.heap.size) [v] y):∃l:List (List Fct),VR (Gh.ro (Zjd W)) W (.sl .no (eP l)) v:=by
 obtain⟨l,_,e,_⟩:=Zgi (s:=.slice Zik) (f:=fun p:List Fct=>[AV.sl .no (rF p)]) (p:=fun _=>True) (fun cs x hx=>by
  obtain⟨l,_,e,_⟩:=Zgi (f:=ZcI) (p:=FctIn) (fun cs x hx=>enc_fct hx) hx
  exact⟨l,e,trivial⟩) h
 exact⟨l,Ztd (by simp[Zik,ZsI,Zio,Zd9,Sh.pos,Sh.size]) h e⟩
end Go.Proofs.YtaapiigfmdhobaaGreat
