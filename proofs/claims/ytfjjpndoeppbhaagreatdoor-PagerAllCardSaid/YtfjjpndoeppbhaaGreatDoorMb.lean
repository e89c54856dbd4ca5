/- Texts of the walk. -/
import Derived.Test.YtfjjpndoeppbhaaGreatDoorMa
import Derived.Lib.AppendZerosOnto
import Derived.Lib.Overlaps
namespace Go.Proofs.YtfjjpndoeppbhaaGreatDoor
set_option linter.defProp false
set_option maxHeartbeats 64000000
set_option linter.unusedSimpArgs false
set_option linter.unusedVariables false
open Go.RowKit
section
variable {P:Program} {g g':Gh} {H H':Zaa} {w w':World} {N:Nat} {F:Fr} {a:Act}
theorem Zlc (hW:WR g H w) {id n n' cap' b' E sz:Nat} {carr':Array Value} (hget:H.get id=some (.tok n E sz)) (hn:n<n') (hother:∀x,x<w.heap.size->¬Zcy g id (.tok n E sz) x->w'.heap[x]?=w.heap[x]?)
  (hcell:∀x j,g.RO x j->w'.cell? ⟨x,j,none⟩=w.cell? ⟨x,j,none⟩) (hb':w.heap.size<=b'\/Zcy g id (.tok n E sz) b') (hbl:w'.heap[b']?=some (.cells carr' E (0,0))) (hcs:carr'.size=cap' * sz) (hnc:n'<=cap') (hcm:cap'<=maxLen)
  (hsz:w.heap.size<=w'.heap.size) (h1:w'.os=w.os) (h2:w'.tape=w.tape) (h3:w'.output=w.output) :
  WR (g.tok id n' cap' b' sz) (H.set id (.tok n' E sz)) w'/\Stp g H w (g.tok id n' cap' b' sz) (H.set id (.tok n' E sz)) w':=by
 have hlt:=Zaa.lt hget
 obtain⟨cap,b,hτ,hnc0,hcm0,hblk⟩:=hW.obj id _ hget
 have hle:g.le (g.tok id n' cap' b' sz) w w':=le_tok hW (fun fr c x h=>by rw[hτ]at h;simp at h;exact .inl Xa) hcell (fun x e=>(hother x (zao.1 e).1 (fun ho=>Zxt hW hget ho e)).trans e)
 have hlt':b'<w'.heap.size:=(zao.1 hbl).1
 have hg2:∀i x,(H.set id (.tok n' E sz)).get i=some x->(i=id/\x=.tok n' E sz)\/(i≠id/\H.get i=some x):=by
  intro i x h
  by_cases e:i=id
  ·subst e;rw[Zaa.Zal hlt]at h;injection h with h;exact .inl ⟨rfl,h.symm⟩
  ·rw[Zaa.Zah e]at h;exact .inr ⟨e,h⟩
 have hown:∀i o x,i≠id->(Zcy (g.tok id n' cap' b' sz) i o x ↔ Zcy g i o x):=fun i o x hne=>Zcy.le (by simp[Gh.tok,hne]) rfl
 have hnew:∀x,Zcy (g.tok id n' cap' b' sz) id (.tok n' E sz) x->x=b':=by
  rintro x ⟨fr,c,h,hc⟩
  simp[Gh.tok]at h
  omega
 have hapart:∀i o x,i≠id->H.get i=some o->Zcy g i o x->x≠b':=by
  rintro i o x hne hi ho rfl
  rcases hb' with hb'|hb'
  ·have:=hW.bd i o _ hi ho;omega
  ·exact hne (hW.inj i id o _ _ hi hget ho hb')
 have hkeep:∀i o x,i≠id->H.get i=some o->Zcy g i o x->w'.heap[x]?=w.heap[x]?:=by
  intro i o x hne hi ho
  exact hother x (hW.bd i o x hi ho) (fun hx=>hne (hW.inj i id o _ x hi hget ho hx))
 refine⟨⟨fun i x h=>?_,fun i i' x x' y k1 k2 k3 k4=>?_,fun i hi=>?_,fun i x y k1 k2=>?_,fun x j h=>?_⟩,⟨hle,zad _,h1,h2,h3,hsz,fun x hx hn'=>hother x hx (fun ho=>hn' ⟨id,_,hget,ho⟩),fun x hx ⟨i,o,k1,k2⟩=>?_,fun x j hx h=>by
   rcases h with h|⟨rfl,_⟩
   ·exact .inl h
   ·rcases hb' with hb'|hb'
    ·omega
    ·exact .inr ⟨id,_,hget,hb'⟩⟩⟩
 ·rcases hg2 i x h with⟨rfl,rfl⟩|⟨hne,h⟩
  ·refine⟨cap',b',by simp[Gh.tok],hnc,hcm,fun _=>⟨carr',hbl,hcs,fun j hj hr=>?_⟩⟩
   rcases hr with hr|⟨_,hr,_⟩
   ·rcases hb' with hb'|⟨fr,c,ho,hc⟩
    ·have:=hW.ro _ _ hr;omega
    ·rw[hτ]at ho
     simp at ho
     obtain⟨rfl,rfl,rfl⟩:=ho
     obtain⟨_,_,_,h9⟩:=hblk hc
     exact h9 j (zaG (zbe _ Xa) hj) hr
   ·omega
  ·refine(hW.obj i x h).mono hle (fun y hy=>hkeep i x y hne h hy) (fun y j hy hr=>?_) (by simp[Gh.tok,hne]) rfl (fun _=>rfl)
   rcases hr with hr|⟨rfl,_⟩
   ·exact hr
   ·exact absurd rfl (hapart i x _ hne h hy)
 ·rcases hg2 i x k1 with⟨e1,e2⟩|⟨hne,k1⟩
  ·rcases hg2 i' x' k2 with⟨e3,_⟩|⟨hne2,k2⟩
   ·omega
   ·have e:=hnew y (by have h:=k3;rw[e1,e2]at h;exact h)
    exact absurd e (hapart i' x' y hne2 k2 ((hown i' x' y hne2).1 k4))
  ·rcases hg2 i' x' k2 with⟨e3,e4⟩|⟨hne2,k2⟩
   ·have e:=hnew y (by have h:=k4;rw[e3,e4]at h;exact h)
    exact absurd e (hapart i x y hne k1 ((hown i x y hne).1 k3))
   ·exact hW.inj i i' x x' y k1 k2 ((hown i x y hne).1 k3) ((hown i' x' y hne2).1 k4)
 ·have h:=hW.dom i hi
  simp only[Zaa.ZaH]at hi
  refine⟨h.1,?_,h.2.2⟩
  simp[Gh.tok,h.2.1];omega
 ·rcases hg2 i x k1 with⟨rfl,rfl⟩|⟨hne,k1⟩
  ·rw[hnew y k2];exact hlt'
  ·have:=hW.bd i x y k1 ((hown i x y hne).1 k2);omega
 ·rcases h with h|⟨rfl,_⟩
  ·have:=hW.ro x j h;omega
  ·exact hlt'
 ·rcases hg2 i o k1 with⟨rfl,rfl⟩|⟨hne,k1⟩
  ·rw[hnew x k2]at hx ⊢
   rcases hb' with hb'|hb'
   ·omega
   ·exact⟨i,_,hget,hb'⟩
  ·exact⟨i,o,k1,(hown i o x hne).1 k2⟩
theorem set_same (hW:WR g H w) {id:Nat} {o:Zb3} (hget:H.get id=some o):WR g (H.set id o) w/\Stp g H w g (H.set id o) w:=by
 have hlt:=Zaa.lt hget
 have e:∀i x,(H.set id o).get i=some x ↔ H.get i=some x:=by
  intro i x
  by_cases e:i=id
  ·subst e;rw[Zaa.Zal hlt,hget]
  ·rw[Zaa.Zah e]
 refine⟨⟨fun i x h=>hW.obj i x ((e i x).1 h),fun i i' x x' b h1 h2=>hW.inj i i' x x' b ((e _ _).1 h1) ((e _ _).1 h2),hW.dom,fun i x b h=>hW.bd i x b ((e _ _).1 h),hW.ro⟩,⟨.refl _ _,zad _,rfl,rfl,rfl,zad _,fun _ _ _=>rfl,fun b _ ⟨i,x,h1,h2⟩=>⟨i,x,(e _ _).1 h1,h2⟩,fun _ _ _ h=>.inl h⟩⟩
theorem Zez (sz:Nat):∀(n:Nat) (cs:List AV),n * sz<=cs.length->(chunk sz n cs).flatten=cs.take (n * sz)/\(chunk sz n cs).length=n/\∀r∈chunk sz n cs,r.length=sz
 | 0,cs,_=>by simp[chunk]
 | n+1,cs,h=>by
  have e:(n+1) * sz=sz+n * sz:=by rw[zaX];omega
  obtain⟨h1,h2,h3⟩:=Zez sz n (cs.drop sz) Xf
  refine⟨?_,by simp[chunk,h2],fun r hr=>?_⟩
  ·simp only[chunk,List.flatten_cons,h1,e]
   rw[zcl]
  ·simp only[chunk,zay]at hr
   rcases hr with rfl|hr
   ·simp;omega
   ·exact h3 r hr
theorem src_ok (hW:WR g H w) {sz:Nat} {x:AV} {u:Value} {xs:List (List AV)} (hx:VR g w x u) (hr:ZaL H sz x=some xs) (hl:ZaE sz xs=true) :
  ∃A c news,u=.slice A xs.length c/\VRs g w xs.flatten news/\news.length=xs.length * sz/\(∀r∈xs,r.length=sz/\∀y∈r,y.one=true)/\(xs≠[]->∃ad,A=some ad/\∀j v,news[j]?=some v->w.cell? (ad.add j)=some v):=by
 have hlen:∀r∈xs,r.length=sz:=fun r hr=>by simpa using za6.1 hl r hr
 cases hx with
 | sl tok rows A c sz' b o f hc hm hA hsz hcell hv ht =>
  simp only[ZaL,zaa]at hr
  subst hr
  obtain⟨A',c',sz2,b',o',ys,e,_,_,hA',hsz',hV,hcell',_⟩:=ZjK (VR.sl tok rows A c sz' b o f hc hm hA hsz hcell hv ht)
  injection e with e1 e2 e3
  subst e1 e3
  refine⟨A,c,ys,rfl,hV,by rw[<- hV.1,Zjm hlen],fun r hr=>⟨hlen r hr,(hsz' r hr).2⟩,fun hne=>⟨_,hA' hne,fun j v hj=>?_⟩⟩
  rw[addr_add]
  exact(hcell' j v hj).1
 | arr id off len cap b hid hc hm =>
  simp only[ZaL]at hr
  cases ho:H.get id with
  | none=>rw[ho]at hr;cases hr
  | some ob =>
   rw[ho]at hr
   cases ob with
   | iter mi ni si=>cases hr
   | tok n E s=>cases hr
   | map kk es d=>cases hr
   | cells cs E =>
    simp only at hr
    split at hr
    ·rename_i hle
     injection hr with hr
     subst hr
     obtain⟨b',carr,h1,h2,h3,h4,h5⟩:=hW.obj id _ ho
     rw[hid]at h1
     injection h1 with h1
     subst h1
     obtain⟨k1,k2,k3⟩:=Zez sz len (cs.drop off) Xf
     have hcl:cs.length=carr.size:=by have:=h3.1;simpa using this
     refine⟨_,cap,(carr.toList.drop off).take (len * sz),by rw[k2],?_,by rw[k2];simp;omega,fun r hr=>⟨k3 r hr,fun y hy=>?_⟩,fun _=>⟨_,rfl,fun j v hj=>?_⟩⟩
     ·rw[k1];exact(h3.drop off).take _
     ·have:y∈(chunk sz len (cs.drop off)).flatten:=zbq.2 ⟨r,hr,hy⟩
      rw[k1]at this
      exact h4 y (zaW (zaB this))
     ·rw[addr_add]
      rw[zbc]at hj
      split at hj
      ·rw[zbd]at hj
       simp only[World.cell?,h2]
       simpa using hj
      ·cases hj
    ·cases hr
 | _=>cases hr
theorem Zf1:∀{rows:List (List AV)} {ns:List Int},Zef rows=some ns->rows.flatten=ns.map (fun n=>AV.sc (.int .u8 n))/\rows.length=ns.length/\ZaE 1 rows=true
 | [],ns,h=>by simp only[Zef,zaa]at h;subst h;exact⟨rfl,rfl,rfl⟩
 | r :: rs,ns,h=>by
  simp only[Zef]at h
  split at h
  ·rename_i n ns' h1 h2
   simp only[zaa]at h
   subst h
   obtain⟨k1,k2,k3⟩:=Zf1 h2
   unfold ZmD at h1
   split at h1
   ·simp only[zaa]at h1
    subst h1
    exact⟨by simp[k1],by simp[k2],by simpa [ZaE] using k3⟩
   ·cases h1
  ·cases h
theorem sob_ok (hW:WR g H w) {src dst e:TypeId} {x v:AV} {u:Value} (h1:P.underlying src=some (.slice e)) (h2:P.underlying dst=some .string) (h3:P.underlying e=some (.int .u8)) (hx:VR g w x u) (he:AOp.ev F H (.sob (.c x))=some (v,H')):Zbv P g H w (convert src dst u) v H':=by
 simp only[AOp.ev,AX.ev]at he
 split at he
 ·rename_i rows hr
  split at he
  ·rename_i ns hb
   simp only[zaa,zaf]at he
   obtain⟨rfl,rfl⟩:=he
   obtain⟨k1,k2,k3⟩:=Zf1 hb
   obtain⟨A,c,news,rfl,hV,hnl,_,hcell⟩:=src_ok hW hx hr k3
   rw[k1]at hV
   have hnews:news=ns.map (Value.int .u8):=by
    refine zcd fun i=>?_
    by_cases hi:i<ns.length
    ·have hi2:i<news.length:=by have:=hV.1;simp at this;omega
     have hv:=hV.2 i (.sc (.int .u8 ns[i])) news[i] (by simp[hi]) (zab hi2)
     rw[zab hi2]
     generalize news[i]=q at hv
     cases hv
     simp[hi]
    ·rw[zbT (by have:=hV.1;simp at this;omega),zbT Xf]
   refine .here (u:=.string (strOf ns)) ?_ (.sc _) hW
   rw[run_convert_bytes_string w src dst e A _ c h1 h3 h2]
   cases A with
   | none =>
    have:rows=[]:=by
     by_cases hn:rows=[]
     ·exact hn
     ·obtain⟨ad,h,_⟩:=hcell hn;cases h
    subst this
    simp only[Zef,zaa]at hb
    subst hb
    simp[Conv.bytesToString,strOf,Sem.run_pure]
   | some ad =>
    refine run_bytesToString w ad _ c ns ?_
    rw[k2,<- hnews]
    have hll:ns.length=news.length:=by rw[hnews];simp
    rw[hll]
    refine run_loadCells_list w ad news fun j v hj=>?_
    have hne:rows≠[]:=by
     intro h
     subst h
     have:=(zah.1 hj).1
     rw[<- hll,<- k2]at this
     simp at this
    obtain⟨ad',h,hc⟩:=hcell hne
    injection h with h
    subst h
    exact hc j v hj
  ·cases he
 ·cases he
theorem Zfx (t ty e:TypeId) (i:TypeInfo) (ht:P.underlying t=some (.slice e)) (hi:P.info? e=some i) (A B:Option Addr) (n c d:Nat) (hnc:n<=c):(Builtin.append_ #[t,t] ty #[.slice A n c,.slice B 0 d]).run P w=.ok (.slice A n c) w:=by
 cases A<;>cases B<;>simp[Builtin.append_,run_underlying ht,sizeOf,typeInfo,hi,Builtin.lenOf,Builtin.firstCells,hnc,storeCells,loadCells,loadCellsFrom]
theorem own_new {E sz n:Nat} {v:Value} {xs:List Value} {base:Nat} (h:w'.ownsRow base E sz v n xs) (hn:0<n):∃b cap carr,v=.slice (some ⟨b,0,none⟩) n cap/\base<=b/\w'.heap[b]?=some (.cells carr E (0,0))/\n<=cap/\cap<=maxLen/\carr.size=cap * sz/\carr.toList.take (n * sz)=xs/\xs.length=n * sz:=by
 rcases h.2 with⟨_,h0⟩|⟨b,cap,carr,h1,h2,h3,h4,h5,h6,h7⟩
 ·omega
 ·exact⟨b,cap,carr,h1,h2,h3,h4,h5,h6,h7,h.1⟩
theorem Zmm {b E:Nat} {carr:Array Value} {xs:List Value} {m:Nat} (hb:w'.heap[b]?=some (.cells carr E (0,0))) (ht:carr.toList.take m=xs) (hl:xs.length=m) (j:Nat) (u:Value) (hj:xs[j]?=some u):w'.cell? ⟨b,0+j,none⟩=some u/\j<m:=by
 have hjl:j<m:=by rw[<- hl];exact(zah.1 hj).1
 rw[<- ht,zbc,if_pos hjl]at hj
 refine⟨?_,hjl⟩
 simp only[World.cell?,hb,zax]
 simpa using hj
theorem ZiX {t ty e:TypeId} {i:TypeInfo} {z:Value} {A:Option Addr} {n c:Nat} {olds:List Value} {ad:Addr} {m d:Nat} {news:List Value} (ht:P.underlying t=some (.slice e)) (hi:P.info? e=some i) (hz:i.zero=some z) (hzs:z.cells.size=i.size) (h0:0<i.size)
  (holds:olds.length=n * i.size) (hA:(A=none/\n=0/\c=0)\/∃bd,A=some bd/\∀j v,olds[j]?=some v->w.cell? (bd.add j)=some v) (hnews:news.length=m * i.size) (hn:∀j v,news[j]?=some v->w.cell? (ad.add j)=some v) (h1:∀v∈news,v.oneCell'=true) (hm:0<m) (hc:c<n+m) (h63:n+m<=maxLen) (hby:(n+m) * i.bytes<=140737488355328) :
  ∃v' w',(Builtin.append_ #[t,t] ty #[.slice A n c,.slice (some ad) m d]).run P w=.ok v' w'/\w'.ownsRow w.heap.size e i.size v' (n+m) (olds++news)/\w.grownBy w' none:=by
 rcases hA with⟨rfl,rfl,rfl⟩|⟨bd,rfl,hold⟩
 ·have e0:olds=[]:=zaA (by simpa using holds)
  subst e0
  obtain⟨v',w',h3,h4,h5,h6,h7⟩:=run_append_own_at (P:=P) w w.heap.size t ty e i z i.size i.bytes ht hi hz rfl rfl hzs h0 (.slice none 0 0) 0 [] (World.ownsRow_nil _ _ _ _) ad m d news hnews hn h1 h63 hby (zad _)
  exact⟨v',w',h3,h4,h5⟩
 ·exact run_append_arg_grows (P:=P) w t ty e i z i.size i.bytes ht hi hz rfl rfl hzs h0 bd n c olds holds hold ad m d news hnews hn hc h63 hby
theorem app_ok (hW:WR g H w) {t ty e:TypeId} {i:TypeInfo} {z:Value} {x y v:AV} {u r:Value} (ht:P.underlying t=some (.slice e)) (hi:P.info? e=some i) (hz:i.zero=some z) (h0:0<i.size) (hzs:z.cells.size=i.size) (hx:VR g w x u) (hy:VR g w y r)
  (he:AOp.ev F H (.app e i.size i.bytes (.c x) (.c y))=some (v,H')):Zbv P g H w (Builtin.append_ #[t,t] ty #[u,r]) v H':=by
 simp only[AOp.ev,AX.ev]at he
 split at he
 case h_2=>cases he
 rename_i tok rows xs hro
 split at he
 case isFalse=>cases he
 rename_i hcond
 obtain⟨hal,h63,hby,hrl⟩:=hcond
 obtain⟨B,d,news,hB,hnV,hnl,hn1,hnA⟩:=src_ok hW hy hro hal
 obtain⟨A,c,szr,b,o,olds,hA,hrc,hcm,hAad,hr1,hrV,hrcell,htok⟩:=ZjK hx
 subst hA hB
 have hrl':∀q∈rows,q.length=i.size:=fun q hq=>by simpa using za6.1 hrl q hq
 have hr1':∀q∈rows,q.length=i.size/\∀y∈q,y.one=true:=fun q hq=>⟨hrl' q hq,(hr1 q hq).2⟩
 have hol:olds.length=rows.length * i.size:=by rw[<- hrV.1,Zjm hrl']
 have hall:∀q∈rows++xs,q.length=i.size/\∀y∈q,y.one=true:=by
  intro q hq
  rcases zaw.1 hq with hq|hq
  ·exact hr1' q hq
  ·exact hn1 q hq
 have hcellsV:VRs g w (rows++xs).flatten (olds++news):=by rw[List.flatten_append];exact hrV.app hnV
 have hnone:∀v∈news,v.oneCell'=true:=hnV.ones (fun y hy=>by
  obtain⟨q,hq,hyq⟩:=zbq.1 hy
  exact(hn1 q hq).2 y hyq)
 have hold:A=none/\rows.length=0\/∃bd,A=some bd/\∀j v,olds[j]?=some v->w.cell? (bd.add j)=some v:=by
  cases A with
  | none =>
   refine .inl ⟨rfl,?_⟩
   rcases rows with _|⟨q,rows⟩
   ·rfl
   ·have:=hAad Xc;cases this
  | some bd =>
   refine .inr ⟨bd,rfl,fun j v hj=>?_⟩
   have hne:rows≠[]:=by
    rintro rfl
    simp at hol
    subst hol
    simp at hj
   have:=hAad hne
   injection this with this
   subst this
   rw[addr_add]
   exact(hrcell j v hj).1
 -- nothing is appended
 have hempty:xs=[]->∀tk,Zip g tk rows.length A c->Zbv P g H w (Builtin.append_ #[t,t] ty #[.slice A rows.length c,.slice B xs.length d]) (.sl tk rows) H:=by
  rintro rfl tk htk
  refine .here (u:=.slice A rows.length c) (Zfx t ty e i ht hi A B rows.length c d hrc) ?_ hW
  cases hx with
  | sl _ _ _ _ sz' b' o' f hc' hm' hA' hsz' hcell' hv' ht'=>exact .sl tk rows A c sz' b' o' f hc' hm' hA' hsz' hcell' hv' htk
 -- a new block
 have hgrow:xs≠[]->c<rows.length+xs.length->(A=none->c=0)->∃b' cap' carr' w',(Builtin.append_ #[t,t] ty #[.slice A rows.length c,.slice B xs.length d]).run P w=.ok (.slice (some ⟨b',0,none⟩) (rows.length+xs.length) cap') w'/\w.grownBy w' none/\w.heap.size<=b'/\w'.heap[b']?=some (.cells carr' e (0,0))/\carr'.size=cap' * i.size/\rows.length+xs.length<=cap'/\cap'<=maxLen /\
   (∀g',g.le g' w w'->(∀j,j<(rows.length+xs.length) * i.size->g'.RO b' j)->∀tk,Zip g' tk (rows.length+xs.length) (some ⟨b',0,none⟩) cap'->VR g' w' (.sl tk (rows++xs)) (.slice (some ⟨b',0,none⟩) (rows.length+xs.length) cap')):=by
  intro hne hlt hcn
  obtain⟨ad,rfl,had⟩:=hnA hne
  have hm0:0<xs.length:=zbm.2 hne
  obtain⟨v',w',k1,k2,k3⟩:=ZiX (P:=P) (ty:=ty) (d:=d) ht hi hz hzs h0 hol (by
   rcases hold with⟨h1,h2⟩|h1
   ·exact .inl ⟨h1,h2,hcn h1⟩
   ·exact .inr h1) hnl had hnone hm0 hlt h63 hby
  obtain⟨b',cap',carr',rfl,q1,q2,q3,q4,q5,q6,q7⟩:=own_new k2 Xa
  refine⟨b',cap',carr',w',k1,k3,q1,q2,q5,q3,q4,fun g' hle hRO tk htk=>?_⟩
  have hlen:rows.length+xs.length=(rows++xs).length:=Xc
  rw[hlen]at htk ⊢
  refine Zi3 (xs:=olds++news) tk hall (hcellsV.mono hle) (fun j u hj=>?_) Xa q4 htk
  obtain⟨z1,z2⟩:=Zmm q2 q6 q7 j u hj
  exact⟨z1,by rw[zax];exact hRO j z2⟩
 cases tok with
 | no =>
  simp only at he
  split at he
  ·simp only[zaa,zaf]at he
   obtain⟨rfl,rfl⟩:=he
   exact hempty rfl .no trivial
  ·cases he
 | full =>
  have hcf:c=rows.length:=htok
  simp only at he
  split at he
  ·simp only[zaa,zaf]at he
   obtain⟨rfl,rfl⟩:=he
   exact hempty rfl .full htok
  ·rename_i hne
   simp only[zaa,zaf]at he
   obtain⟨rfl,rfl⟩:=he
   have hne':xs≠[]:=fun h=>hne h
   have hm0:0<xs.length:=zbm.2 hne'
   obtain⟨b',cap',carr',w',k1,k2,k3,k4,k5,k6,k7,k8⟩:=hgrow hne' Xa (fun hA=>by
    rcases hold with⟨_,h⟩|⟨bd,h,_⟩
    ·omega
    ·rw[hA]at h;cases h)
   obtain⟨q1,q2⟩:=Zjz (n:=rows.length+xs.length) (sz:=i.size) hW k2 k3 k4 k5 k6 k7
   refine⟨_,w',_,k1,k8 _ q2.le (fun j hj=>.inr ⟨rfl,hj,Xa⟩) (.own H.next) ⟨_,cap',b',by simp[Gh.tok],zad _,fun _=>⟨rfl,fun _=>rfl⟩⟩,q1,q2⟩
 | own id =>
  simp only at he
  cases hid:H.get id with
  | none=>rw[hid]at he;cases he
  | some ob =>
   rw[hid]at he
   cases ob with
   | cells cs E=>cases he
   | map kk es dl=>cases he
   | iter mi ni si=>cases he
   | tok n E' sz' =>
    simp only at he
    split at he
    ·rename_i hcd
     obtain⟨rfl,rfl,rfl⟩:=hcd
     simp only[zaa,zaf]at he
     obtain⟨rfl,rfl⟩:=he
     obtain⟨cap,blk,hτ,hncap,hcapm,hblk⟩:=hW.obj id _ hid
     obtain⟨fr,cap2,blk2,hτ2,hfr,htk⟩:=htok
     rw[hτ]at hτ2
     simp at hτ2
     obtain⟨rfl,rfl,rfl⟩:=hτ2
     obtain⟨rfl,hAb⟩:=htk rfl
     by_cases hxe:xs=[]
     ·subst hxe
      obtain⟨q1,q2⟩:=set_same hW hid
      obtain⟨u',w',g',k1,k2,k3,k4⟩:=hempty rfl (.own id) ⟨_,_,_,hτ,zad _,fun _=>⟨rfl,hAb⟩⟩
      have e1:(Builtin.append_ #[t,t] ty #[.slice A rows.length c,.slice B ([]:List (List AV)).length d]).run P w=.ok (.slice A rows.length c) w:=Zfx t ty E' i ht hi A B rows.length c d hrc
      rw[e1]at k1
      injection k1 with k1 k1'
      subst k1 k1'
      refine⟨_,w,g,e1,?_,by simpa using q1,by simpa using q2⟩
      simp only[zaI]
      cases hx with
      | sl _ _ _ _ sz' b' o' f hc' hm' hA' hsz' hcell' hv' ht'=>exact .sl _ rows A c sz' b' o' f hc' hm' hA' hsz' hcell' hv' ⟨_,_,_,hτ,zad _,fun _=>⟨rfl,hAb⟩⟩
     ·have hm0:0<xs.length:=zbm.2 hxe
      by_cases hroom:rows.length+xs.length<=c
      ·-- there is room
       obtain⟨ad,rfl,had⟩:=hnA hxe
       have hc0:0<c:=Xa
       have hAe:=hAb hc0
       subst hAe
       obtain⟨carr,j1,j2,j3⟩:=hblk hc0
       have hfit:rows.length * i.size+news.length<=carr.size:=by
        rw[hnl,j2,<- zaX];exact zbe _ hroom
       have hrun:=run_append_room (P:=P) w t ty E' i ht hi blk rows.length c carr j1 ad xs.length d news hnl had hnone hroom hfit
       have hnew:∀j,(carr.toList.take (rows.length * i.size)++news++carr.toList.drop (rows.length * i.size+news.length)).toArray[j]?=if j<rows.length * i.size then carr[j]? else if j<rows.length * i.size+news.length then news[j - rows.length * i.size]? else carr[j]?:=by
        intro j
        have hlt:(carr.toList.take (rows.length * i.size)).length=rows.length * i.size:=by simp;omega
        simp only[List.getElem?_toArray]
        split
        ·rename_i hj
         rw[zan,zaC Xa,zbc,if_pos hj]
         simp
        ·rename_i hj
         split
         ·rename_i hj2
          rw[zan,zaE Xa,hlt,zaC Xa]
         ·rename_i hj2
          rw[zaE Xf]
          simp only[zac,hlt,zbd]
          rw[show rows.length * i.size+news.length+(j - (rows.length * i.size+news.length))=j by omega]
          simp
       generalize hN:(carr.toList.take (rows.length * i.size)++news++carr.toList.drop (rows.length * i.size+news.length)).toArray=nc at hrun hnew
       have hncs:nc.size=carr.size:=by
        rw[<- hN];simp;omega
       have hbl:=setRow_heap w blk carr nc E' (0,0) j1
       have hcellold:∀x j,g.RO x j->(w.setRow blk nc).cell? ⟨x,j,none⟩=w.cell? ⟨x,j,none⟩:=by
        intro x j hr
        by_cases hxb:x=blk
        ·subst hxb
         have hj:j<rows.length * i.size:=by
          rcases zbK j (rows.length * i.size)with h|h
          ·exact h
          ·exact absurd hr (j3 j h)
         simp only[World.cell?,hbl,j1]
         rw[hnew j,if_pos hj]
        ·exact Zcb (setRow_other w blk x nc hxb) j
       obtain⟨q1,q2⟩:=Zlc (n':=rows.length+xs.length) (cap':=c) (b':=blk) hW hid Xa (fun x _ hx=>setRow_other w blk x nc (fun hxb=>hx (by subst hxb;exact⟨_,_,hτ,hc0⟩))) hcellold (.inr ⟨_,_,hτ,hc0⟩) hbl (by rw[hncs,j2]) hroom hcm (by simp[World.setRow]) rfl rfl rfl
       refine⟨_,_,_,hrun,?_,q1,q2⟩
       have hlen:rows.length+xs.length=(rows++xs).length:=Xc
       have holdV:∀(j:Nat) (v:Value),olds[j]?=some v->carr[j]?=some v:=by
        intro j v hj
        have hne:rows≠[]:=by
         rintro rfl
         simp at hol
         subst hol
         simp at hj
        have hb:=hAad hne
        injection hb with hb
        injection hb with hb1 hb2
        subst hb1 hb2
        have:=(hrcell j v hj).1
        simp only[World.cell?,j1,zax]at this
        simpa using this
       suffices hv:VR (g.tok id (rows.length+xs.length) c blk i.size) (w.setRow blk nc) (.sl (.own id) (rows++xs)) (.slice (some ⟨blk,0,none⟩) (rows++xs).length c) by
        rw[zac]at hv;exact hv
       refine Zi3 (xs:=olds++news) (.own id) hall (hcellsV.mono q2.le) (fun j v hj=>?_) (by rw[<- hlen];exact hroom) hcm ⟨rows.length+xs.length,c,blk,by simp[Gh.tok],Xc,fun _=>⟨rfl,fun _=>rfl⟩⟩
       have hjl:j<(rows.length+xs.length) * i.size:=by
        have:=(zah.1 hj).1
        rw[zac,hol,hnl,<- zaX]at this;exact this
       refine⟨?_,.inr ⟨rfl,by rw[zax];exact hjl,hc0⟩⟩
       simp only[World.cell?,hbl,zax]
       have:nc[j]?=some v:=by
        rw[hnew j]
        by_cases hj1:j<rows.length * i.size
        ·rw[if_pos hj1]
         rw[zaC Xa]at hj
         exact holdV j v hj
        ·rw[if_neg hj1]
         rw[zaE Xa,hol]at hj
         rw[if_pos (by have:=(zah.1 hj).1;omega)]
         exact hj
       simpa using this
      ·-- a new block
       obtain⟨b',cap',carr',w',k1,k2,k3,k4,k5,k6,k7,k8⟩:=hgrow hxe Xa (fun hA=>by
        rcases Nat.eq_zero_or_pos c with h|h
        ·exact h
        ·have:=hAb h;rw[hA]at this;cases this)
       obtain⟨q1,q2⟩:=Zlc (n':=rows.length+xs.length) (cap':=cap') (b':=b') hW hid Xa (fun x hx _=>k2.block x hx Xc) (fun x j hr=>Zcb (k2.block x (hW.ro x j hr) Xc) j) (.inl k3) k4 k5 k6 k7 k2.size k2.os k2.tape k2.output
       exact⟨_,w',_,k1,k8 _ q2.le (fun j hj=>.inr ⟨rfl,hj,Xa⟩) (.own id) ⟨_,cap',b',by simp[Gh.tok],zad _,fun _=>⟨rfl,fun _=>rfl⟩⟩,q1,q2⟩
    ·cases he
def Zk3 (H:Zaa) (E sz bytes:Nat) (zero:List AV) (s x:AV) (K:AV->Zaa->Prop):Prop:=match s,ZaL H sz x with
 | .sl .full [],some xs=>(xs≠[]/\ZaE sz xs=true/\xs.length<=maxLen/\xs.length * bytes<=140737488355328) /\
   ∀cap,xs.length<=cap->cap<=maxLen->K (.arr H.next 0 xs.length cap) (H.alloc (.cells (xs.flatten++(List.replicate (cap - xs.length) zero).flatten) E))
 | .arr id off len cap,some []=>bytes<=140737488355328/\len<=cap/\K (.arr id off len cap) H
 | .arr id off len cap,some (x0 :: xs0)=>match H.get id with
  | some (.cells cs E')=>(off=0/\E'=E/\x0 :: xs0≠[]/\ZaE sz (x0 :: xs0)=true/\cs.length=cap * sz/\len<=cap/\len+(x0 :: xs0).length<=maxLen/\(len+(x0 :: xs0).length) * bytes<=140737488355328) /\
    (len+(x0 :: xs0).length<=cap->K (.arr id 0 (len+(x0 :: xs0).length) cap) (H.set id (.cells (splice cs (len * sz) (x0 :: xs0).flatten) E))) /\
    (cap<len+(x0 :: xs0).length->∀cap',len+(x0 :: xs0).length<=cap'->cap'<=maxLen->K (.arr H.next 0 (len+(x0 :: xs0).length) cap') (H.alloc (.cells (cs.take (len * sz)++((x0 :: xs0).flatten++(List.replicate (cap' - (len+(x0 :: xs0).length)) zero).flatten)) E)))
  | _=>False
 | .arr id off len cap,none=>match x,H.get id with
  | .sc (.int _ k),some (.cells cs E')=>(off=0/\len=0/\E'=E/\0<k/\zero.length=sz+1/\k.toNat<=maxLen/\k.toNat * (bytes - 1152921504606846976)<=140737488355328/\cap<k.toNat) /\
    ∀cap',k.toNat<=cap'->cap'<=maxLen->K (.arr H.next 0 k.toNat cap') (H.alloc (.cells ((List.replicate k.toNat zero.dropLast).flatten++(List.replicate (cap' - k.toNat) zero.dropLast).flatten) E))
  | _,_=>False
 | _,_=>False
theorem Zk3.mono {E sz bytes:Nat} {zero:List AV} {s x:AV} {K K':AV->Zaa->Prop} (h:Zk3 H E sz bytes zero s x K) (hk:∀v H',K v H'->K' v H'):Zk3 H E sz bytes zero s x K':=by
 unfold Zk3 at h ⊢
 split at h
 ·exact⟨h.1,fun c h1 h2=>hk _ _ (h.2 c h1 h2)⟩
 ·exact⟨h.1,h.2.1,hk _ _ h.2.2⟩
 ·split at h
  ·exact⟨h.1,fun h1=>hk _ _ (h.2.1 h1),fun h1 c h2 h3=>hk _ _ (h.2.2 h1 c h2 h3)⟩
  ·exact h
 ·split at h
  ·exact⟨h.1,fun c h1 h2=>hk _ _ (h.2 c h1 h2)⟩
  ·exact h
 ·exact h
theorem Zjr (hW:WR g H w):WR g H w.drew/\Stp g H w g H w.drew:=by
 have hle:g.le g w w.drew:=⟨fun _ _ h=>h,fun _ _ _ _ h=>⟨_,_,_,h,.inr ⟨rfl,rfl,rfl⟩⟩,fun _ _ _ h=>h,fun _ _ h=>h,fun _ _ _=>rfl,fun _ h=>h,rfl⟩
 exact⟨⟨fun id o h=>(hW.obj id o h).mono hle (fun _ _=>rfl) (fun _ _ _ h=>h) rfl rfl (fun _=>rfl),hW.inj,hW.dom,hW.bd,hW.ro⟩,⟨hle,zad _,rfl,rfl,rfl,zad _,fun _ _ _=>rfl,fun _ _ h=>h,fun _ _ _ h=>.inl h⟩⟩
theorem Zim (z:Array Value) (n:Nat) (h0:0<z.size):(Builtin.zeroCells z n).toList=(List.replicate n z.toList).flatten:=Zh0 z n h0
theorem apv_ok (hW:WR g H w) {t ty e:TypeId} {i:TypeInfo} {z:Value} {zc:List AV} {x y:AV} {u r:Value} (ht:P.underlying t=some (.slice e)) (hi:P.info? e=some i) (hz:i.zero=some z) (h0:0<i.size) (hzs:z.cells.size=i.size) (hzc:(Zb5 z).cells=some zc) (hx:VR g w x u) (hy:VR g w y r)
  {K:AV->Zaa->Prop} (hk:Zk3 H e i.size i.bytes zc x y K):∃v a' H' w' g',(Builtin.append_ #[t,t] ty #[u,r]).run P w=.ok v w'/\K a' H'/\VR g' w' a' v/\WR g' H' w'/\Stp g H w g' H' w':=by
 obtain⟨hzv,hz1⟩:=(Zbt (g:=g) (w:=w) z).cells hzc
 have hrepone:∀n,∀q∈(List.replicate n zc).flatten,q.one=true:=by
  intro n q hq
  obtain⟨l,hl,hql⟩:=zbq.1 hq
  rw[(zaY.1 hl).2]at hql
  exact hz1 q hql
 unfold Zk3 at hk
 split at hk
 ·rename_i tok xs hro
  obtain⟨⟨hne,hal,h63,hby⟩,hk⟩:=hk
  cases hx with
  | sl _ _ A c sz' b o f hc hm hA hsz hcell hv htok =>
  have hc0:c=0:=htok
  subst hc0
  obtain⟨B,d,news,hB,hnV,hnl,hn1,hnA⟩:=src_ok hW hy hro hal
  subst hB
  obtain⟨ad,rfl,had⟩:=hnA hne
  have hm0:0<xs.length:=zbm.2 hne
  have hgc:=grownCap_ge w xs.length 0 e
  have hgm:=grownCap_le_maxLen w xs.length 0 e h63
  have hrun:(Builtin.append_ #[t,t] ty #[.slice A 0 0,.slice (some ad) xs.length d]).run P w=.ok (.slice (some ⟨w.heap.size,0,none⟩) xs.length (grownCap w xs.length 0 e)) (w.drew.alloc (.cells (news.toArray++Builtin.zeroCells z.cells (grownCap w xs.length 0 e - xs.length)) e)):=by
   cases A with
   | none=>exact run_append_nil (P:=P) w t ty e i z ht hi hz ad xs.length d news hnl had hm0 (by unfold maxLen at h63;omega) Xa
   | some bd =>
    have:=run_append_grow (P:=P) w t ty e i z ht hi hz bd 0 0 [] Xc (fun j v h=>by simp at h) ad xs.length d news hnl had Xa (by unfold maxLen at h63;omega) (by rw[zax];exact growslice_fits Xa hby)
    simpa using this
  obtain⟨d1,d2⟩:=Zjr hW
  have hV:VRs g w.drew (xs.flatten++(List.replicate (grownCap w xs.length 0 e - xs.length) zc).flatten) (news.toArray++Builtin.zeroCells z.cells (grownCap w xs.length 0 e - xs.length)).toList:=by
   rw[zbP,Zim _ _ Xa]
   exact(hnV.app (hzv.rep _)).mono d2.le
  obtain⟨k1,k2,k3⟩:=ZdF d1 e hV (by
   intro q hq
   rcases zaw.1 hq with hq|hq
   ·obtain⟨l,hl,hql⟩:=zbq.1 hq
    exact(hn1 l hl).2 q hql
   ·exact hrepone _ q hq)
  refine⟨_,_,_,_,_,hrun,hk _ hgc hgm,?_,k1,d2.trans k2⟩
  have hds:w.drew.heap.size=w.heap.size:=rfl
  cases k3 with
  | ptr _ _ _ h=>exact .arr _ _ _ _ _ h hgc hgm
 ·rename_i id off len cap hro
  obtain⟨_,hlc,hk⟩:=hk
  have hx':=hx
  cases hx with
  | arr _ _ _ _ b hid hc hm =>
  obtain⟨B,d,news,hB,hnV,hnl,hn1,hnA⟩:=src_ok hW hy hro rfl
  subst hB
  exact⟨_,_,_,_,_,Zfx (P:=P) t ty e i ht hi (some ⟨b,off,none⟩) B len cap d hlc,hk,hx',hW,.refl _ _ _⟩
 ·rename_i id off len cap x0 xs0 hro
  generalize hxs:x0 :: xs0=xs at *
  cases ho:H.get id with
  | none=>rw[ho]at hk;exact hk.elim
  | some ob =>
  rw[ho]at hk
  cases ob with
  | iter mi ni si=>exact hk.elim
  | tok n E' sz'=>exact hk.elim
  | map kk es del=>exact hk.elim
  | cells cs E' =>
  simp only at hk
  obtain⟨⟨rfl,rfl,hne,hal,hcl,hlc,h63,hby⟩,hkr,hkg⟩:=hk
  cases hx with
  | arr _ _ _ _ b hid hc hm =>
  obtain⟨b',carr,q1,q2,q3,q4,q5⟩:=hW.obj id _ ho
  rw[hid]at q1
  injection q1 with q1
  subst q1
  obtain⟨B,d,news,hB,hnV,hnl,hn1,hnA⟩:=src_ok hW hy hro hal
  subst hB
  obtain⟨ad,rfl,had⟩:=hnA hne
  have hm0:0<xs.length:=zbm.2 hne
  have hcz:carr.size=cap * i.size:=by have:=q3.1;simp at this;omega
  have hxone:∀y∈xs.flatten,y.one=true:=by
   intro q hq
   obtain⟨l,hl,hql⟩:=zbq.1 hq
   exact(hn1 l hl).2 q hql
  have hnone:∀v∈news,v.oneCell'=true:=hnV.ones hxone
  have hle1:len * i.size<=cap * i.size:=zbe _ hlc
  by_cases hroom:len+xs.length<=cap
  ·have hfit:len * i.size+news.length<=carr.size:=by
    rw[hnl,hcz,<- zaX];exact zbe _ hroom
   have hrun:=run_append_room (P:=P) w t ty E' i ht hi b len cap carr q2 ad xs.length d news hnl had hnone hroom hfit
   have hset:=ZfL (w':=w.setRow b (carr.toList.take (len * i.size)++news++carr.toList.drop (len * i.size+news.length)).toArray) (o':=.cells (splice cs (len * i.size) xs.flatten) E') hW ho (b:=b) hid (fun b'=>zae) (fun b' hb'=>setRow_other w b b' _ hb') (by simp[World.setRow]) rfl rfl rfl (fun j hj=>absurd hj (q5 j)) (fun hle2=>by
    refine⟨b,_,hid,setRow_heap w b carr _ E' _ q2,?_,?_,q5⟩
    ·have e:splice cs (len * i.size) xs.flatten=cs.take (len * i.size)++xs.flatten++cs.drop (len * i.size+xs.flatten.length):=rfl
     rw[e]
     have hvl:xs.flatten.length=news.length:=hnV.1
     rw[hvl]
     exact(((q3.mono hle2).take (len * i.size)).app (hnV.mono hle2)).app ((q3.mono hle2).drop (len * i.size+news.length))
    ·intro q hq
     unfold splice at hq
     simp only[zaw]at hq
     rcases hq with(hq|hq)|hq
     ·exact q4 q (zaB hq)
     ·exact hxone q hq
     ·exact q4 q (zaW hq))
   exact⟨_,_,_,_,_,hrun,hkr hroom,.arr id 0 _ cap b hid hroom hm,hset.1,hset.2⟩
  ·have hgl:cap<len+xs.length:=Xa
   have hgc:=grownCap_ge w (len+xs.length) cap E'
   have hgm:=grownCap_le_maxLen w (len+xs.length) cap E' h63
   have holds:∀j v,(carr.toList.take (len * i.size))[j]?=some v->w.cell? ((⟨b,0,none⟩:Addr).add j)=some v:=by
    intro j v hj
    rw[addr_add]
    rw[zbc]at hj
    split at hj
    ·simp only[World.cell?,q2,zax]
     simpa using hj
    ·cases hj
   have hrun:=run_append_grow (P:=P) w t ty E' i z ht hi hz ⟨b,0,none⟩ len cap (carr.toList.take (len * i.size)) Xf holds ad xs.length d news hnl had hgl (by unfold maxLen at h63;omega) (growslice_fits hgl hby)
   obtain⟨d1,d2⟩:=Zjr hW
   have hV:VRs g w.drew (cs.take (len * i.size)++(xs.flatten++(List.replicate (grownCap w (len+xs.length) cap E' - (len+xs.length)) zc).flatten)) ((carr.toList.take (len * i.size)).toArray++news.toArray++Builtin.zeroCells z.cells (grownCap w (len+xs.length) cap E' - (len+xs.length))).toList:=by
    rw[zbP,zbP,Zim _ _ Xa,zan]
    exact((q3.take (len * i.size)).app (hnV.app (hzv.rep _))).mono d2.le
   obtain⟨k1,k2,k3⟩:=ZdF d1 E' hV (by
    intro q hq
    rcases zaw.1 hq with hq|hq
    ·exact q4 q (zaB hq)
    ·rcases zaw.1 hq with hq|hq
     ·exact hxone q hq
     ·exact hrepone _ q hq)
   refine⟨_,_,_,_,_,hrun,hkg hgl _ hgc hgm,?_,k1,d2.trans k2⟩
   cases k3 with
   | ptr _ _ _ h=>exact .arr _ _ _ _ _ h hgc hgm
 ·split at hk
  ·obtain⟨⟨_,_,_,_,hzl,_⟩,_⟩:=hk
   have:=hzv.1
   simp only[Array.length_toList]at this
   omega
  ·exact hk.elim
 ·exact hk.elim
theorem apv_okI (hW:WR g H w) {t t' ty e:TypeId} {i:TypeInfo} {z:Value} {zc:List AV} {x y:AV} {u r:Value} {kn:IntKind} (ht:P.underlying t=some (.slice e)) (htn:P.underlying t'=some (.int kn)) (hi:P.info? e=some i) (hz:i.zero=some z) (h0:0<i.size) (hzs:z.cells.size=i.size) (hzc:(Zb5 z).cells=some zc) (hx:VR g w x u) (hy:VR g w y r)
  {K:AV->Zaa->Prop} (hk:Zk3 H e i.size (i.bytes+1152921504606846976) (zc++[.any]) x y K):∃v a' H' w' g',(Builtin.append_ #[t,t'] ty #[u,r]).run P w=.ok v w'/\K a' H'/\VR g' w' a' v/\WR g' H' w'/\Stp g H w g' H' w':=by
 obtain⟨hzv,hz1⟩:=(Zbt (g:=g) (w:=w) z).cells hzc
 have big:∀n m:Nat,0<n->n * (m+1152921504606846976)<=140737488355328->False:=fun n m h1 h2=>by
  have:=Nat.le_mul_of_pos_left (m+1152921504606846976) h1
  omega
 unfold Zk3 at hk
 split at hk
 ·obtain⟨⟨hne,_,_,hby⟩,_⟩:=hk
  exact(big _ _ (zbm.2 hne) hby).elim
 ·obtain⟨hby,_⟩:=hk
  omega
 ·split at hk
  ·obtain⟨⟨_,_,hne,_,_,_,_,hby⟩,_⟩:=hk
   exact(big _ _ (by have:=zbm.2 hne;omega) hby).elim
  ·exact hk.elim
 ·rename_i id off len cap hro
  split at hk
  ·rename_i kq k cs E' ho
   obtain⟨⟨rfl,rfl,rfl,hk0,hzl,h63,hby,hgl⟩,hk⟩:=hk
   rw[List.dropLast_concat]at hk
   rw[zb5]at hby
   cases hy with
   | sc _ =>
   cases hx with
   | arr _ _ _ _ b hid hc hm =>
   obtain⟨n,rfl⟩:∃n:Nat,k=(n:Int):=⟨k.toNat,Xa⟩
   rw[Int.toNat_natCast]at *
   have hrepone:∀n,∀q∈(List.replicate n zc).flatten,q.one=true:=by
    intro n q hq
    obtain⟨l,hl,hql⟩:=zbq.1 hq
    rw[(zaY.1 hl).2]at hql
    exact hz1 q hql
   have hgc:=grownCap_ge w (0+n) cap E'
   have hgm:=grownCap_le_maxLen w (0+n) cap E' (by rw[zax];exact h63)
   have hold:(Builtin.firstCells i.size 0 (.slice (some ⟨b,0,none⟩) 0 cap)).run P w.drew=.ok ([]:List Value).toArray w.drew:=run_firstCells_some w.drew i.size 0 ⟨b,0,none⟩ 0 cap [] Xc (fun j v h=>by simp at h)
   have hrun:=Go.Lib.run_append_grow_zeros (P:=P) w t t' ty E' i z kq kn ht htn hi hz (some ⟨b,0,none⟩) 0 cap [] hold n Xa h0 Xa (by unfold maxLen at h63;omega) Xa (growslice_fits Xa (by rw[zax];exact hby))
   rw[zax]at hrun hgc hgm
   obtain⟨d1,d2⟩:=Zjr hW
   have hV:VRs g w.drew ((List.replicate n zc).flatten++(List.replicate (grownCap w n cap E' - n) zc).flatten) (([]:List Value).toArray++Builtin.zeroCells z.cells n++Builtin.zeroCells z.cells (grownCap w n cap E' - n)).toList:=by
    rw[zbP,zbP,Zim _ _ Xa,Zim _ _ Xa,List.nil_append]
    exact((hzv.rep _).app (hzv.rep _)).mono d2.le
   obtain⟨k1,k2,k3⟩:=ZdF d1 E' hV (by
    intro q hq
    rcases zaw.1 hq with hq|hq
    ·exact hrepone _ q hq
    ·exact hrepone _ q hq)
   refine⟨_,_,_,_,_,hrun,hk _ hgc hgm,?_,k1,d2.trans k2⟩
   cases k3 with
   | ptr _ _ _ h=>exact .arr _ _ _ _ _ h hgc hgm
  ·exact hk.elim
 ·exact hk.elim
theorem apv_ok2 (hW:WR g H w) {t t' ty e:TypeId} {i:TypeInfo} {z:Value} {zc zero:List AV} {bytes:Nat} {x y:AV} {u r:Value} (ht:P.underlying t=some (.slice e)) (hi:P.info? e=some i) (hz:i.zero=some z) (h0:0<i.size) (hzs:z.cells.size=i.size) (hzc:(Zb5 z).cells=some zc)
  (hkd:(t'=t/\zero=zc/\bytes=i.bytes)\/∃kn,P.underlying t'=some (.int kn)/\zero=zc++[.any]/\bytes=i.bytes+1152921504606846976) (hx:VR g w x u) (hy:VR g w y r)
  {K:AV->Zaa->Prop} (hk:Zk3 H e i.size bytes zero x y K):∃v a' H' w' g',(Builtin.append_ #[t,t'] ty #[u,r]).run P w=.ok v w'/\K a' H'/\VR g' w' a' v/\WR g' H' w'/\Stp g H w g' H' w':=by
 rcases hkd with⟨rfl,rfl,rfl⟩|⟨kn,hkn,rfl,rfl⟩
 ·exact apv_ok hW ht hi hz h0 hzs hzc hx hy hk
 ·exact apv_okI hW ht hkn hi hz h0 hzs hzc hx hy hk
end
theorem Zmh (a b:ByteArray):(a == b)=true ↔ a=b:=by
 cases a with|mk x=>cases b with|mk y =>
 constructor
 ·intro h
  have:(x == y)=true:=h
  rw[beq_iff_eq]at this
  rw[this]
 ·intro h
  injection h with h
  subst h
  show(x == x)=true
  exact beq_self_eq_true x
theorem vEq_is {k:SK} {a b:Value} (ha:k.is a=true) (hb:k.is b=true):vEq a b=true ↔ a=b:=by
 cases k<;>cases a<;>simp[SK.is]at ha<;>cases b<;>simp[SK.is]at hb<;>simp[vEq]
 ·subst ha hb;simp
 ·exact Zmh _ _
theorem Zlj:∀{ks:List SK} {asx bs:List Value},asx.length=ks.length->bs.length=ks.length->(∀(i:Nat) (k:SK) (x:Value),ks[i]?=some k->asx[i]?=some x->k.is x=true)->(∀(i:Nat) (k:SK) (x:Value),ks[i]?=some k->bs[i]?=some x->k.is x=true)->(ZgE asx bs=true ↔ asx=bs)
 | [],[],[],_,_,_,_=>by simp[ZgE]
 | k :: ks,a :: asx,b :: bs,h1,h2,h3,h4=>by
  have ih:=Zlj (ks:=ks) (asx:=asx) (bs:=bs) (by simpa using h1) (by simpa using h2) (fun i k x hk hx=>h3 (i+1) k x (by simpa using hk) (by simpa using hx)) (fun i k x hk hx=>h4 (i+1) k x (by simpa using hk) (by simpa using hx))
  have h0:=vEq_is (h3 0 k a rfl rfl) (h4 0 k b rfl rfl)
  simp[ZgE,ih,h0]
 | [],a :: asx,_,h1,_,_,_=>by simp at h1
 | [],[],b :: bs,_,h2,_,_=>by simp at h2
 | k :: ks,[],_,h1,_,_,_=>by simp at h1
 | k :: ks,a :: asx,[],_,h2,_,_=>by simp at h2
theorem ZdY {kk:KK} {a b:Value} (ha:kk.isKey a) (hb:kk.isKey b):kEq a b=true ↔ a=b:=by
 cases kk with
 | one k =>
  have ha':k.is a=true:=ha
  have hb':k.is b=true:=hb
  rw[<- vEq_is ha' hb']
  have hna:∀cs,a≠.agg cs:=by rintro cs rfl;cases k<;>simp[SK.is]at ha'
  unfold kEq
  split
  ·exact absurd rfl (hna _)
  ·rfl
 | row ks =>
  obtain⟨asx,rfl,h1,h2⟩:=ha
  obtain⟨bs,rfl,h3,h4⟩:=hb
  simp only[kEq]
  rw[Zlj h1 h3 h2 h4]
  constructor
  ·rintro rfl;rfl
  ·intro h;injection h with h;simpa using h
section
variable {P:Program} {g g':Gh} {H H':Zaa} {w w':World} {N:Nat} {F:Fr} {a:Act}
def Ze5 (k:Value):List (Value×AV)->Option Nat
 | []=>none
 | (k',_) :: es=>bif kEq k k' then some 0 else (Ze5 k es).map (·+1)
theorem ZcO {k:Value}:∀{es:List (Value×AV)},Ze5 k es=none->ZdG k es=none/\(∀x,Ziw k x es=es++[(k,x)])/\ZSm k es=es/\∀p∈es,kEq k p.1=false
 | [],_=>by simp[ZdG,Ziw,ZSm]
 | (k',b) :: es,h=>by
  simp only[Ze5]at h
  cases hk:kEq k k' with
  | true=>rw[hk]at h;cases h
  | false =>
   rw[hk]at h
   simp at h
   obtain⟨h1,h2,h3,h4⟩:=ZcO h
   simp[ZdG,Ziw,ZSm,hk,h1,h2,h3]
   exact fun a b h=>h4 (a,b) h
theorem ZcK {k:Value}:∀{es:List (Value×AV)} {i:Nat},Ze5 k es=some i->∃k' b,es[i]?=some (k',b)/\kEq k k'=true/\ZdG k es=some b/\(∀x,Ziw k x es=es.set i (k,x))/\ZSm k es=es.eraseIdx i/\∀j p,j<i->es[j]?=some p->kEq k p.1=false
 | [],i,h=>by simp[Ze5]at h
 | (k',b) :: es,i,h=>by
  simp only[Ze5]at h
  cases hk:kEq k k' with
  | true =>
   rw[hk]at h
   simp at h
   subst h
   refine⟨k',b,rfl,hk,by simp[ZdG,hk],by simp[Ziw,hk],by simp[ZSm,hk],fun j p hj=>by omega⟩
  | false =>
   rw[hk]at h
   simp at h
   obtain⟨i',h,rfl⟩:=h
   obtain⟨k2,b2,h1,h2,h3,h4,h5,h6⟩:=ZcK h
   refine⟨k2,b2,by simpa using h1,h2,by simp[ZdG,hk,h3],by simp[Ziw,hk,h4],by simp[ZSm,hk,h5],fun j p hj hp=>?_⟩
   cases j with
   | zero=>simp at hp;subst hp;exact hk
   | succ j=>exact h6 j p Xa (by simpa using hp)
theorem ZgK {d:TypeDesc} {k:Value}:∀{es:List (Value×AV)} {en:List MapEntry} {o:Nat},en.length=es.length->(∀(i:Nat) k' x e,es[i]?=some (k',x)->en[i]?=some e->e.key=k')->(∀p∈es,Instr.sameNow d k p.1=some (kEq k p.1))->Instr.findNow d k en o=some ((Ze5 k es).bind fun i=>(en[i]?).map fun e=>(o+i,e.val))
 | [],[],o,_,_,_=>by simp[Instr.findNow,Ze5]
 | [],e :: en,o,h,_,_=>by simp at h
 | p :: es,[],o,h,_,_=>by simp at h
 | (k',x) :: es,e :: en,o,h,hk,hs=>by
  have hk0:=hk 0 k' x e rfl rfl
  have h0:=hs (k',x) Xc
  simp only[Instr.findNow,hk0,h0,Ze5]
  cases hq:kEq k k' with
  | true=>simp
  | false =>
   simp only[cond_false]
   rw[ZgK (es:=es) (by simpa using h) (fun i k2 x2 e2 h1 h2=>hk (i+1) k2 x2 e2 (by simpa using h1) (by simpa using h2)) (fun p hp=>hs p (by simp[hp]))]
   cases Ze5 k es with
   | none=>simp
   | some i=>simp[zbs,zbN 1 i]
theorem ZgJ {t:TypeId} {k:Value}:∀{es:List (Value×AV)} {en:List MapEntry} {o:Nat},en.length=es.length->(∀(i:Nat) k' x e,es[i]?=some (k',x)->en[i]?=some e->e.key=k')->(∀p∈es,(Op.equal t k p.1).run P w=.ok (kEq k p.1) w)->(Instr.findAsking t k en o).run P w=.ok ((Ze5 k es).bind fun i=>(en[i]?).map fun e=>(o+i,e.val)) w
 | [],[],o,_,_,_=>by simp[Instr.findAsking,Ze5]
 | [],e :: en,o,h,_,_=>by simp at h
 | p :: es,[],o,h,_,_=>by simp at h
 | (k',x) :: es,e :: en,o,h,hk,hs=>by
  have hk0:=hk 0 k' x e rfl rfl
  have h0:=hs (k',x) Xc
  simp only at h0
  simp only[Instr.findAsking,hk0,Sem.run_bind,h0,Result.andThen_ok,Ze5]
  cases hq:kEq k k' with
  | true=>simp
  | false =>
   simp only[cond_false,zb6,if_false]
   rw[ZgJ (es:=es) (by simpa using h) (fun i k2 x2 e2 h1 h2=>hk (i+1) k2 x2 e2 (by simpa using h1) (by simpa using h2)) (fun p hp=>hs p (by simp[hp]))]
   cases Ze5 k es with
   | none=>simp
   | some i=>simp[zbs,zbN 1 i]
def KeyT (P:Program) (kk:KK) (kt:TypeId):Prop :=
 (∃k,kk=.one k/\((∃ik,k=.int ik/\P.underlying kt=some (.int ik))\/(k=.str/\P.underlying kt=some .string)\/(k=.bool/\P.underlying kt=some .bool))) \/
 (∃ks d,kk=.row ks/\Ziv P kt ks/\P.underlying kt=some d/\((∃fs,d=.struct fs)\/∃n e,d=.array n e))
theorem ZfZ {eqT:EqT} (hE:∀t ks,eqT t=some ks->Ziv P t ks) {t:TypeId} {kk:KK} (h:keyK P eqT t=some kk):KeyT P kk t:=by
 unfold keyK at h
 split at h
 ·rename_i k hu
  injection h with h;subst h
  exact .inl ⟨_,rfl,.inl ⟨_,rfl,hu⟩⟩
 ·rename_i hu
  injection h with h;subst h
  exact .inl ⟨_,rfl,.inr (.inl ⟨rfl,hu⟩)⟩
 ·rename_i hu
  injection h with h;subst h
  exact .inl ⟨_,rfl,.inr (.inr ⟨rfl,hu⟩)⟩
 ·rename_i fs hu
  cases he:eqT t with
  | none=>rw[he]at h;cases h
  | some ks=>rw[he]at h;simp at h;subst h;exact .inr ⟨ks,_,rfl,hE t ks he,hu,.inl ⟨_,rfl⟩⟩
 ·rename_i n e hu
  cases he:eqT t with
  | none=>rw[he]at h;cases h
  | some ks=>rw[he]at h;simp at h;subst h;exact .inr ⟨ks,_,rfl,hE t ks he,hu,.inr ⟨_,_,rfl⟩⟩
 ·cases h
theorem KK.Zle {kk:KK} {x:AV} {u kv:Value} (hx:VR g w x u) (h:kk.of x=some kv):u=kv/\kk.isKey kv:=by
 cases kk with
 | one k =>
  cases x<;>simp only[KK.of]at h<;>try (cases h;done)
  cases hx
  cases hk:k.is u with
  | false=>rw[hk]at h;cases h
  | true=>rw[hk]at h;simp at h;subst h;exact⟨rfl,hk⟩
 | row ks =>
  cases x<;>simp only[KK.of]at h<;>try (cases h;done)
  rename_i cs
  cases hs:scs ks cs with
  | none=>rw[hs]at h;cases h
  | some us =>
   rw[hs]at h
   simp at h
   subst h
   cases hx with
   | agg _ vs hl hone hv =>
   obtain⟨h1,h2,h3⟩:=ZjC (g:=g) (w:=w) hs (vs:=vs.toList) ⟨by simpa using hl,fun i x u hx hu=>hv i x u hx (by simpa using hu)⟩
   refine⟨by rw[<- h1],us,rfl,h2,h3⟩
theorem ZcN {kk:KK} {kt:TypeId} {kv:Value} (ht:KeyT P kk kt) (hk:kk.isKey kv) (b:Bool):(Instr.checkKey b 10000 kt kv).run P w=.ok () w:=by
 rcases ht with⟨k,rfl,h⟩|⟨ks,d,rfl,hE,_⟩
 ·have key:∀n,(Instr.checkKey b (n+1) kt kv).run P w=.ok () w:=by
   intro n
   have hk':k.is kv=true:=hk
   rcases h with⟨ik,rfl,hu⟩|⟨rfl,hu⟩|⟨rfl,hu⟩<;>cases kv<;>simp[SK.is]at hk'<;>simp[Instr.checkKey,run_underlying hu]
  exact key 9999
 ·obtain⟨vs,rfl,h1,h2⟩:=hk
  exact(hE vs vs h1 h1 h2 h2 w).2 b
theorem find_ok {kk:KK} {kt:TypeId} {kv:Value} {es:List (Value×AV)} {en:Array MapEntry} (ht:KeyT P kk kt) (hk:kk.isKey kv) (hl:en.size=es.length) (hks:∀(i:Nat) k' x e,es[i]?=some (k',x)->en[i]?=some e->e.key=k') (hkk:∀p∈es,kk.isKey p.1) :
  (Instr.findKey kt kv en.toList).run P w=.ok ((Ze5 kv es).bind fun i=>(en[i]?).map fun e=>(i,e.val)) w:=by
 have hl':en.toList.length=es.length:=by simpa using hl
 have hks':∀(i:Nat) k' x e,es[i]?=some (k',x)->en.toList[i]?=some e->e.key=k':=fun i k' x e h1 h2=>hks i k' x e h1 (by simpa using h2)
 rcases ht with⟨k,rfl,h⟩|⟨ks,d,rfl,hE,hu,hd⟩
 ·have hk':k.is kv=true:=hk
  have key:∀d,P.underlying kt=some d->(∀p∈es,Instr.sameNow d kv p.1=some (kEq kv p.1))->(Instr.findKey kt kv en.toList).run P w=.ok ((Ze5 kv es).bind fun i=>(en[i]?).map fun e=>(i,e.val)) w:=by
   intro d hu hs
   have:=ZgK (o:=0) hl' hks' hs
   simp only[zax]at this
   simp only[Instr.findKey,Sem.run_bind,run_underlying hu,Result.andThen_ok,this,Sem.run_pure]
   simp
  rcases h with⟨ik,rfl,hu⟩|⟨rfl,hu⟩|⟨rfl,hu⟩
  ·refine key _ hu (fun p hp=>?_)
   have hp':(SK.int ik).is p.1=true:=hkk p hp
   obtain⟨pk,px⟩:=p
   cases kv<;>simp[SK.is]at hk'
   cases pk<;>simp[SK.is]at hp'
   subst hk' hp'
   simp[Instr.sameNow,kEq,vEq]
  ·refine key _ hu (fun p hp=>?_)
   have hp':SK.str.is p.1=true:=hkk p hp
   obtain⟨pk,px⟩:=p
   cases kv<;>simp[SK.is]at hk'
   cases pk<;>simp[SK.is]at hp'
   simp[Instr.sameNow,kEq,vEq]
  ·refine key _ hu (fun p hp=>?_)
   have hp':SK.bool.is p.1=true:=hkk p hp
   obtain⟨pk,px⟩:=p
   cases kv<;>simp[SK.is]at hk'
   cases pk<;>simp[SK.is]at hp'
   simp[Instr.sameNow,kEq,vEq]
 ·obtain⟨vs,rfl,h1,h2⟩:=hk
  have heq:∀p∈es,(Op.equal kt (.agg vs.toArray) p.1).run P w=.ok (kEq (.agg vs.toArray) p.1) w:=by
   intro p hp
   obtain⟨us,hpu,h3,h4⟩:=hkk p hp
   rw[hpu]
   have:=(hE vs us h1 h3 h2 h4 w).1
   simpa [kEq] using this
  have hask:=ZgJ (o:=0) hl' hks' heq
  simp only[zax]at hask
  have hnow:Instr.findNow d (.agg vs.toArray) en.toList 0=none\/Instr.findNow d (.agg vs.toArray) en.toList 0=some none/\en.toList=[]:=by
   cases hen:en.toList with
   | nil=>exact .inr ⟨rfl,rfl⟩
   | cons e r =>
    left
    rcases hd with⟨fs,rfl⟩|⟨n,e',rfl⟩<;>simp[Instr.findNow,Instr.sameNow]
  rcases hnow with hnow|⟨hnow,hnil⟩
  ·simp only[Instr.findKey,Sem.run_bind,run_underlying hu,Result.andThen_ok,hnow,hask]
   simp
  ·have hes:es=[]:=zaA (by rw[<- hl',hnil];rfl)
   subst hes
   simp only[Instr.findKey,Sem.run_bind,run_underlying hu,Result.andThen_ok,hnow,Sem.run_pure,Ze5]
   simp
theorem mkm_ok (hW:WR g H w) {t:TypeId} {kk:KK} {v:AV} (he:AOp.ev F H (.mkm kk)=some (v,H')):Zbv P g H w (Instr.makeMap t none) v H':=by
 simp only[AOp.ev,zaa,zaf]at he
 obtain⟨rfl,rfl⟩:=he
 have hid:(g.obj H.next w.heap.size).ι H.next=some w.heap.size:=by simp[Gh.obj]
 obtain⟨k1,k2⟩:=Zi0 hW (.map #[] 0) (.map kk [] false) (by intros;simp) ⟨_,#[],0,hid,heap_alloc_new w _,rfl,fun i k x e h=>by simp at h,fun i j e e' h=>by simp at h,(fun _ k n h=>by
  have h':g.β H.next k=some n:=h
  rw[(hW.dom H.next (zad _)).2.2 k]at h';cases h'),fun j hj=>absurd (hW.ro _ _ hj) Xa,fun _=>rfl⟩
 exact⟨.map (some w.heap.size),_,_,by simp[Instr.makeMap],.mp _ _ hid,k1,k2⟩
theorem ZeT (hW:WR g H w) {id:Nat} {kk:KK} {es:List (Value×AV)} {del:Bool} {u:Value} (hx:VR g w (.mp id) u) (ho:H.get id=some (.map kk es del)):∃b en cl,u=.map (some b)/\g.ι id=some b/\w.heap[b]?=some (.map en cl)/\en.size=es.length /\
  (∀(i:Nat) (k:Value) (x:AV) (e:MapEntry),es[i]?=some (k,x)->en[i]?=some e->e.key=k/\kk.isKey k/\VR g w x e.val/\e.born<cl/\(del=false->g.β id k=some e.born)) /\
  (∀(i j:Nat) (e e':MapEntry),en[i]?=some e->en[j]?=some e'->e.born=e'.born->i=j)/\(del=false->∀k n,g.β id k=some n->∃(i:Nat) (e:MapEntry),en[i]?=some e/\e.key=k)/\(∀j,¬g.RO b j)/\(∀p∈es,kk.isKey p.1):=by
 cases hx with
 | mp _ b h =>
 obtain⟨b',en,cl,h1,h2,h3,h4,h5,h6,h7⟩:=hW.obj id _ ho
 rw[h]at h1
 injection h1 with h1
 subst h1
 refine⟨b,en,cl,rfl,h,h2,h3,h4,h5,h6,h7.1,fun p hp=>?_⟩
 obtain⟨i,hi,rfl⟩:=zaK hp
 have hi2:i<en.size:=Xa
 exact(h4 i es[i].1 es[i].2 en[i] (zab hi) (zal hi2)).2.1
theorem Zf6 (hW:WR g H w) {id b:Nat} {kk:KK} {es:List (Value×AV)} {en:Array MapEntry} {cl:Nat} (ho:H.get id=some (.map kk es false)) (hb:g.ι id=some b) (hen:w.heap[b]?=some (.map en cl)):cl=es.length:=by
 obtain⟨b',en',cl',h1,h2,_,_,_,_,h7⟩:=hW.obj id _ ho
 rw[hb]at h1
 injection h1 with h1
 subst h1
 rw[hen]at h2
 injection h2 with h2
 injection h2 with _ h2
 rw[h2]
 exact h7.2 rfl
theorem lkp_ok (hW:WR g H w) {t kt et:TypeId} {kk:KK} {z:Value} {ok:Bool} {x y v:AV} {u r:Value} (hu:P.underlying t=some (.map kt et)) (hk:KeyT P kk kt) (hz:Zdt P et=some z) (hx:VR g w x u) (hy:VR g w y r)
  (he:AOp.ev F H (.lkp kk (Zb5 z) ok (.c x) (.c y))=some (v,H')):Zbv P g H w (Instr.lookup t u r ok) v H':=by
 simp only[AOp.ev,AX.ev]at he
 have hzero:(zeroValue et).run P w=.ok z w:=by
  unfold Zdt at hz
  cases hi:P.info? et with
  | none=>rw[hi]at hz;cases hz
  | some i=>rw[hi]at hz;simp at hz;simp[zeroValue,typeInfo,hi,hz]
 have vtup:∀{p q:AV} {p' q':Value},VR g w p p'->VR g w q q'->VR g w (.tup [p,q]) (.tuple #[p',q']):=by
  intro p q p' q' h1 h2
  have:=(VRs.nil.cons h2).cons h1
  exact .tup _ _ rfl (fun i x u hx hu=>this.2 i x u hx (by simpa using hu))
 split at he
 ·rename_i id kv hkv
  obtain⟨rfl,hkey⟩:=KK.Zle hy hkv
  cases ho:H.get id with
  | none=>rw[ho]at he;cases he
  | some ob =>
   rw[ho]at he
   cases ob with
   | cells cs E=>cases he
   | iter mi ni si=>cases he
   | tok n E s=>cases he
   | map kk' es del =>
    simp only at he
    split at he
    case isFalse=>cases he
    rename_i hkk
    subst hkk
    obtain⟨b,en,cl,rfl,h1,h2,h3,h4,h5,h6,h7,h8⟩:=ZeT hW hx ho
    have hf:=find_ok (P:=P) (w:=w) hk hkey h3 (fun i k' x e a b=>(h4 i k' x e a b).1) h8
    have hck:=ZcN (P:=P) (w:=w) hk hkey en.isEmpty
    have hgo:(getObj b).run P w=.ok (.map en cl) w:=by simp[getObj,Sem.run,h2]
    cases hm:Ze5 r es with
    | none =>
     obtain⟨m1,_⟩:=ZcO hm
     rw[hm]at hf
     simp only[Option.bind_none]at hf
     rw[m1]at he
     simp only[zaa,zaf]at he
     obtain⟨rfl,rfl⟩:=he
     cases ok
     ·exact .here (u:=z) (by simp[Instr.lookup,run_underlying hu,hgo,hck,hf,hzero]) (Zbt z) hW
     ·exact .here (u:=.tuple #[z,.bool false]) (by simp[Instr.lookup,run_underlying hu,hgo,hck,hf,hzero]) (vtup (Zbt z) (.sc _)) hW
    | some i =>
     obtain⟨k',a',m1,m2,m3,_⟩:=ZcK hm
     have hi:i<en.size:=by rw[h3];exact(zah.1 m1).1
     have hen:=zal hi
     rw[hm]at hf
     simp only[Option.bind_some,hen,Option.map_some]at hf
     rw[m3]at he
     simp only[zaa,zaf]at he
     obtain⟨rfl,rfl⟩:=he
     have hval:=(h4 i k' a' en[i] m1 hen).2.2.1
     cases ok
     ·exact .here (u:=en[i].val) (by simp[Instr.lookup,run_underlying hu,hgo,hck,hf]) hval hW
     ·exact .here (u:=.tuple #[en[i].val,.bool true]) (by simp[Instr.lookup,run_underlying hu,hgo,hck,hf]) (vtup hval (.sc _)) hW
 ·rename_i kv hkv
  obtain⟨rfl,hkey⟩:=KK.Zle hy hkv
  cases hx
  have hck:=ZcN (P:=P) (w:=w) hk hkey true
  have hf:=find_ok (P:=P) (w:=w) (es:=[]) (en:=#[]) hk hkey rfl (fun i k' x e h=>by simp at h) (fun p h=>by simp at h)
  simp only[Ze5,Option.bind_none]at hf
  simp only[zaa,zaf]at he
  obtain⟨rfl,rfl⟩:=he
  cases ok
  ·exact .here (u:=z) (by simp[Instr.lookup,run_underlying hu,hck,hf,hzero]) (Zbt z) hW
  ·exact .here (u:=.tuple #[z,.bool false]) (by simp[Instr.lookup,run_underlying hu,hck,hf,hzero]) (vtup (Zbt z) (.sc _)) hW
 ·cases he
end
theorem ZlI {k:SK} {v:Value} (h:k.is v=true) (n:Nat):Instr.sameBits n v v=true:=by
 cases k<;>cases v<;>simp[SK.is]at h<;>cases n<;>simp[Instr.sameBits]
 ·exact(Zmh _ _).2 rfl
 ·exact(Zmh _ _).2 rfl
theorem bits_key {kk:KK} {v:Value} (h:kk.isKey v):Instr.sameBits 10000 v v=true:=by
 cases kk with
 | one k=>exact ZlI h _
 | row ks =>
  obtain⟨vs,rfl,h1,h2⟩:=h
  have key:∀n,Instr.sameBits (n+1) (.agg vs.toArray) (.agg vs.toArray)=true:=by
   intro n
   simp only[Instr.sameBits,zbA,beq_self_eq_true,Bool.true_and,za6]
   rintro⟨x,y⟩ hxy
   rw[List.zip_eq_zipWith]at hxy
   obtain⟨i,hi,he⟩:=zaK hxy
   simp at he
   obtain⟨rfl,rfl⟩:=he
   simp at hi
   have hk:i<ks.length:=Xa
   exact ZlI (h2 i ks[i] vs[i] (zab hk) (zab hi)) n
  exact key 9999
section
variable {P:Program} {g g':Gh} {H H':Zaa} {w w':World} {N:Nat} {F:Fr} {a:Act}
theorem Zkc {kk:KK} {k:Value} (h:kk.isKey k):(Instr.keyThatStays k k).run P w=.ok k w:=by
 simp[Instr.keyThatStays,bits_key h]
theorem Zfn (hW:WR g H w) {id b:Nat} {kk:KK} {es es':List (Value×AV)} {del del':Bool} {en en':Array MapEntry} {cl cl':Nat} (β':Nat->Value->Option Nat) (hβ1:∀i k,i≠id->β' i k=g.β i k) (hβ2:∀k n,g.β id k=some n->β' id k=some n)
  (ho:H.get id=some (.map kk es del)) (hb:g.ι id=some b) (hen:w.heap[b]?=some (.map en cl)) (hro:∀j,¬g.RO b j) (hl:en'.size=es'.length)
  (h1:∀(i:Nat) (k:Value) (x:AV) (e:MapEntry),es'[i]?=some (k,x)->en'[i]?=some e->e.key=k/\kk.isKey k/\(∀w',g.le { g with β:=β' } w w'->VR { g with β:=β' } w' x e.val)/\e.born<cl'/\(del'=false->β' id k=some e.born))
  (h2:∀(i j:Nat) (e e':MapEntry),en'[i]?=some e->en'[j]?=some e'->e.born=e'.born->i=j) (h3:del'=false->∀k n,β' id k=some n->∃(i:Nat) (e:MapEntry),en'[i]?=some e/\e.key=k) (hcl:del'=false->cl'=es'.length) :
  WR { g with β:=β' } (H.set id (.map kk es' del')) { w with heap:=w.heap.setIfInBounds b (.map en' cl') }/\Stp g H w { g with β:=β' } (H.set id (.map kk es' del')) { w with heap:=w.heap.setIfInBounds b (.map en' cl') }:=by
 have hlt:b<w.heap.size:=(zao.1 hen).1
 refine ZhE hW (b:=b) β' hβ1 hβ2 ho hb (fun b'=>zae) (fun b' hne=>?_) Xc rfl rfl rfl (fun j hj=>absurd hj (hro j)) (fun hle=>?_)
 ·simp only[zaQ]
  rw[if_neg Xa]
 ·refine⟨b,en',cl',hb,by simp[zaQ,hlt],hl,fun i k x e hx he=>?_,h2,h3,hro,hcl⟩
  obtain⟨k1,k2,k3,k4,k5⟩:=h1 i k x e hx he
  exact⟨k1,k2,k3 _ hle,k4,k5⟩
theorem Zex {en:Array MapEntry} {i:Nat} {f:MapEntry->MapEntry} {j:Nat} {e:MapEntry} (h:(en.modify i f)[j]?=some e):∃e0,en[j]?=some e0/\e=if j=i then f e0 else e0:=by
 rw[zbU]at h
 split at h
 ·rename_i hij
  cases he:en[j]? with
  | none=>rw[he]at h;cases h
  | some e0=>rw[he]at h;simp at h;exact⟨e0,rfl,by simp[hij,h]⟩
 ·rename_i hij
  exact⟨e,h,by rw[if_neg Xa]⟩
theorem ZhR (hW:WR g H w) {id b:Nat} {kk:KK} {es:List (Value×AV)} {del:Bool} {en:Array MapEntry} {cl i:Nat} {kv k':Value} {x0 x:AV} {u:Value} {f:MapEntry->MapEntry} (ho:H.get id=some (.map kk es del)) (hb:g.ι id=some b) (hen:w.heap[b]?=some (.map en cl)) (hro:∀j,¬g.RO b j) (hl:en.size=es.length)
  (h4:∀(i:Nat) (k:Value) (x:AV) (e:MapEntry),es[i]?=some (k,x)->en[i]?=some e->e.key=k/\kk.isKey k/\VR g w x e.val/\e.born<cl/\(del=false->g.β id k=some e.born))
  (h5:∀(i j:Nat) (e e':MapEntry),en[i]?=some e->en[j]?=some e'->e.born=e'.born->i=j) (h6:del=false->∀k n,g.β id k=some n->∃(i:Nat) (e:MapEntry),en[i]?=some e/\e.key=k)
  (hi:es[i]?=some (k',x0)) (hk:kv=k') (hx:VR g w x u) (hf:∀e,e.key=kv->(f e).key=kv/\(f e).val=u/\(f e).born=e.born) :
  WR g (H.set id (.map kk (es.set i (kv,x)) del)) { w with heap:=w.heap.setIfInBounds b (.map (en.modify i f) cl) }/\Stp g H w g (H.set id (.map kk (es.set i (kv,x)) del)) { w with heap:=w.heap.setIfInBounds b (.map (en.modify i f) cl) }:=by
 subst hk
 have hlt:i<es.length:=(zah.1 hi).1
 have hkey:∀e,en[i]?=some e->e.key=kv:=fun e he=>(h4 i kv x0 e hi he).1
 refine Zfn hW g.β (fun _ _ _=>rfl) (fun _ _ h=>h) ho hb hen hro (by simp[hl]) (fun j k y e hy he=>?_) (fun p q e e' hp hq hbn=>?_) (fun hd k n hn=>?_) (fun hd=>by subst hd;rw[List.length_set];exact Zf6 hW ho hb hen)
 ·obtain⟨e0,he0,rfl⟩:=Zex he
  by_cases hji:j=i
  ·subst hji
   rw[if_pos rfl]
   simp[List.getElem?_set,hlt]at hy
   obtain⟨rfl,rfl⟩:=hy
   obtain⟨q1,q2,q3,q4,q5⟩:=h4 j kv x0 e0 hi he0
   obtain⟨f1,f2,f3⟩:=hf e0 q1
   exact⟨f1,q2,fun w' hle=>by rw[f2];exact hx.mono hle,by rw[f3];exact q4,fun hd=>by rw[f3];exact q5 hd⟩
  ·rw[if_neg hji]
   rw[zbF Xa]at hy
   obtain⟨q1,q2,q3,q4,q5⟩:=h4 j k y e0 hy he0
   exact⟨q1,q2,fun w' hle=>q3.mono hle,q4,q5⟩
 ·obtain⟨e0,he0,rfl⟩:=Zex hp
  obtain⟨e1,he1,rfl⟩:=Zex hq
  refine h5 p q e0 e1 he0 he1 ?_
  have fb:∀j e,en[j]?=some e->(if j=i then f e else e).born=e.born:=by
   intro j e he
   split
   ·rename_i hji
    subst hji
    exact(hf e (hkey e he)).2.2
   ·rfl
  rw[fb p e0 he0,fb q e1 he1]at hbn
  exact hbn
 ·obtain⟨j,e,he,hek⟩:=h6 hd k n hn
  refine⟨j,if j=i then f e else e,?_,?_⟩
  ·rw[zbU,he]
   by_cases hji:j=i
   ·subst hji;simp
   ·simp[hji,zbn hji]
  ·split
   ·rename_i hji
    subst hji
    rw[(hf e (hkey e he)).1,<- hkey e he];exact hek
   ·exact hek
theorem Zmf (hW:WR g H w) {id b:Nat} {kk:KK} {es:List (Value×AV)} {del:Bool} {en:Array MapEntry} {cl:Nat} {kv:Value} {x:AV} {u:Value} (ho:H.get id=some (.map kk es del)) (hb:g.ι id=some b) (hen:w.heap[b]?=some (.map en cl)) (hro:∀j,¬g.RO b j) (hl:en.size=es.length)
  (h4:∀(i:Nat) (k:Value) (x:AV) (e:MapEntry),es[i]?=some (k,x)->en[i]?=some e->e.key=k/\kk.isKey k/\VR g w x e.val/\e.born<cl/\(del=false->g.β id k=some e.born))
  (h5:∀(i j:Nat) (e e':MapEntry),en[i]?=some e->en[j]?=some e'->e.born=e'.born->i=j) (h6:del=false->∀k n,g.β id k=some n->∃(i:Nat) (e:MapEntry),en[i]?=some e/\e.key=k)
  (hnew:∀p∈es,kEq kv p.1=false) (hkey:kk.isKey kv) (hx:VR g w x u) :
  ∃g',WR g' (H.set id (.map kk (es++[(kv,x)]) del)) { w with heap:=w.heap.setIfInBounds b (.map (en.push { key:=kv,val:=u,born:=cl }) (cl+1)) }/\Stp g H w g' (H.set id (.map kk (es++[(kv,x)]) del)) { w with heap:=w.heap.setIfInBounds b (.map (en.push { key:=kv,val:=u,born:=cl }) (cl+1)) }/\(del=false->g'.β id kv=some cl):=by
 classical
 have hentry:∀(i:Nat) (e:MapEntry),en[i]?=some e->∃k y,es[i]?=some (k,y):=by
  intro i e he
  have hi:i<es.length:=by rw[<- hl];exact(zao.1 he).1
  exact⟨es[i].1,es[i].2,zab hi⟩
 have hbn:∀(i:Nat) (e:MapEntry),en[i]?=some e->e.born<cl:=by
  intro i e he
  obtain⟨k,y,hk⟩:=hentry i e he
  exact(h4 i k y e hk he).2.2.2.1
 have hnone:del=false->g.β id kv=none:=by
  intro hd
  cases hn:g.β id kv with
  | none=>rfl
  | some n =>
   obtain⟨i,e,he,hek⟩:=h6 hd kv n hn
   obtain⟨k,y,hk⟩:=hentry i e he
   have hk2:=h4 i k y e hk he
   have:=hnew (k,y) (zaN hk)
   have h7:kEq kv k=true:=(ZdY hkey hk2.2.1).2 (by rw[<- hk2.1];exact hek.symm)
   rw[h7]at this;cases this
 let β':Nat->Value->Option Nat:=fun i k=>if i=id/\del=false then (if kEq kv k=true/\kk.isKey k then some cl else g.β i k) else g.β i k
 have hpush:∀(i:Nat) (e:MapEntry),(en.push { key:=kv,val:=u,born:=cl })[i]?=some e->(en[i]?=some e)\/(i=en.size/\e={ key:=kv,val:=u,born:=cl }):=by
  intro i e he
  rw[zcx]at he
  split at he
  ·rename_i hi;injection he with he;exact .inr ⟨hi,he.symm⟩
  ·exact .inl he
 have hself:del=false->β' id kv=some cl:=by
  intro hd
  simp only[β',hd,and_self,if_true]
  rw[if_pos ⟨(ZdY hkey hkey).2 rfl,hkey⟩]
 refine⟨{ g with β:=β' },?_⟩
 have:=Zfn (del':=del) hW β' (fun i k hne=>by simp[β',hne]) (fun k n hn=>?_) ho hb hen hro (es':=es++[(kv,x)]) (en':=en.push { key:=kv,val:=u,born:=cl }) (cl':=cl+1) (by simp[hl]) (fun j k y e hy he=>?_) (fun p q e e' hp hq hbq=>?_) (fun hd k n hn=>?_) (fun hd=>by subst hd;rw[zac];exact congrArg (·+1) (Zf6 hW ho hb hen))
 ·exact⟨this.1,this.2,hself⟩
 ·by_cases hd:del=false
  ·simp only[β',hd,and_self,if_true]
   rw[if_neg]
   ·exact hn
   ·rintro⟨h7,h8⟩
    have:kv=k:=(ZdY hkey h8).1 h7
    subst this
    rw[hnone hd]at hn;cases hn
  ·simp[β',hd,hn]
 ·rcases hpush j e he with he|⟨rfl,rfl⟩
  ·have hj:j<es.length:=by rw[<- hl];exact(zao.1 he).1
   rw[zaC hj]at hy
   obtain⟨q1,q2,q3,q4,q5⟩:=h4 j k y e hy he
   refine⟨q1,q2,fun w' hle=>q3.mono hle,Xa,fun hd=>?_⟩
   simp only[β',hd,and_self,if_true]
   rw[if_neg]
   ·exact q5 hd
   ·rintro⟨h7,_⟩
    rw[hnew (k,y) (zaN hy)]at h7;cases h7
  ·rw[hl]at hy
   simp at hy
   obtain⟨rfl,rfl⟩:=hy
   exact⟨rfl,hkey,fun w' hle=>hx.mono hle,Nat.lt_succ_self _,hself⟩
 ·rcases hpush p e hp with hp|⟨rfl,rfl⟩
  ·rcases hpush q e' hq with hq|⟨rfl,rfl⟩
   ·exact h5 p q e e' hp hq hbq
   ·have:=hbn p e hp;simp only at hbq;omega
  ·rcases hpush q e' hq with hq|⟨rfl,rfl⟩
   ·have:=hbn q e' hq;simp only at hbq;omega
   ·rfl
 ·simp only[β',hd,and_self,if_true]at hn
  split at hn
  ·rename_i h7
   have hk:kv=k:=(ZdY hkey h7.2).1 h7.1
   exact⟨en.size,{ key:=kv,val:=u,born:=cl },Xc,hk⟩
  ·obtain⟨i,e,he,hek⟩:=h6 hd k n hn
   have hi:i<en.size:=(zao.1 he).1
   exact⟨i,e,by rw[zcx,if_neg Xa];exact he,hek⟩
theorem mup_ok (hW:WR g H w) {t kt et:TypeId} {kk:KK} {x y z v:AV} {u r q:Value} (hu:P.underlying t=some (.map kt et)) (hk:KeyT P kk kt) (hx:VR g w x u) (hy:VR g w y r) (hz:VR g w z q)
  (he:AOp.ev F H (.mup kk (.c x) (.c y) (.c z))=some (v,H')):v=ZaO/\ZmA P g H w (Instr.mapUpdate t u r q) H':=by
 simp only[AOp.ev,AX.ev]at he
 split at he
 ·rename_i id kv hkv
  obtain⟨rfl,hkey⟩:=KK.Zle hy hkv
  cases ho:H.get id with
  | none=>rw[ho]at he;cases he
  | some ob =>
   rw[ho]at he
   cases ob with
   | cells cs E=>cases he
   | iter mi ni si=>cases he
   | tok n E s=>cases he
   | map kk' es del =>
    simp only at he
    split at he
    case isFalse=>cases he
    rename_i hkk
    subst hkk
    simp only[zaa,zaf]at he
    obtain⟨rfl,rfl⟩:=he
    refine⟨rfl,?_⟩
    obtain⟨b,en,cl,rfl,h1,h2,h3,h4,h5,h6,h7,h8⟩:=ZeT hW hx ho
    have hf:=find_ok (P:=P) (w:=w) hk hkey h3 (fun i k' x e a b=>(h4 i k' x e a b).1) h8
    have hck:=ZcN (P:=P) (w:=w) hk hkey false
    have hgo:(getObj b).run P w=.ok (.map en cl) w:=by simp[getObj,Sem.run,h2]
    have hso:∀o,(setObj b o).run P w=.ok () { w with heap:=w.heap.setIfInBounds b o }:=fun o=>by simp[setObj,Sem.run,h2]
    cases hm:Ze5 r es with
    | none =>
     obtain⟨m1,m2,m3,m4⟩:=ZcO hm
     rw[hm]at hf
     simp only[Option.bind_none]at hf
     rw[m2]
     obtain⟨g',k1,k2,_⟩:=Zmf hW ho h1 h2 h7 h3 h4 h5 h6 m4 hkey hz
     exact⟨_,g',by simp[Instr.mapUpdate,run_underlying hu,hgo,hck,hf,hso],k1,k2⟩
    | some i =>
     obtain⟨k',a',m1,m2,m3,m4,_⟩:=ZcK hm
     have hi:i<en.size:=by rw[h3];exact(zah.1 m1).1
     have hen:=zal hi
     rw[hm]at hf
     simp only[Option.bind_some,hen,Option.map_some]at hf
     have hkk':=(h4 i k' a' en[i] m1 hen)
     have hkeq:r=k':=(ZdY hkey hkk'.2.1).1 m2
     have hst:(Instr.keyThatStays en[i].key r).run P w=.ok r w:=by rw[hkk'.1,<- hkeq];exact Zkc hkey
     rw[m4]
     obtain⟨k1,k2⟩:=ZhR (f:=fun e=>{ e with key:=r,val:=q }) hW ho h1 h2 h7 h3 h4 h5 h6 m1 hkeq hz (fun e _=>⟨rfl,rfl,rfl⟩)
     refine⟨_,g,?_,k1,k2⟩
     simp[Instr.mapUpdate,run_underlying hu,hgo,hck,hf,hen,hst,hso]
 ·cases he
theorem men_ok (hW:WR g H w) {t kt et:TypeId} {kk:KK} {z:Value} {x y v:AV} {u r:Value} (hu:P.underlying t=some (.map kt et)) (hk:KeyT P kk kt) (hz:Zdt P et=some z) (hx:VR g w x u) (hy:VR g w y r)
  (he:AOp.ev F H (.men kk (Zb5 z) (.c x) (.c y))=some (v,H')):Zbv P g H w (Instr.mapEntry t u r) v H':=by
 simp only[AOp.ev,AX.ev]at he
 have hzero:(zeroValue et).run P w=.ok z w:=by
  unfold Zdt at hz
  cases hi:P.info? et with
  | none=>rw[hi]at hz;cases hz
  | some i=>rw[hi]at hz;simp at hz;simp[zeroValue,typeInfo,hi,hz]
 have vtup:∀{g:Gh} {w:World} {p q:AV} {p' q':Value},VR g w p p'->VR g w q q'->VR g w (.tup [p,q]) (.tuple #[p',q']):=by
  intro g w p q p' q' h1 h2
  have:=(VRs.nil.cons h2).cons h1
  exact .tup _ _ rfl (fun i x u hx hu=>this.2 i x u hx (by simpa using hu))
 split at he
 ·rename_i id kv hkv
  obtain⟨rfl,hkey⟩:=KK.Zle hy hkv
  cases ho:H.get id with
  | none=>rw[ho]at he;cases he
  | some ob =>
   rw[ho]at he
   cases ob with
   | cells cs E=>cases he
   | iter mi ni si=>cases he
   | tok n E s=>cases he
   | map kk' es del =>
    cases del with
    | true=>cases he
    | false =>
    simp only at he
    split at he
    case isFalse=>cases he
    rename_i hkk
    subst hkk
    obtain⟨b,en,cl,rfl,h1,h2,h3,h4,h5,h6,h7,h8⟩:=ZeT hW hx ho
    have hf:=find_ok (P:=P) (w:=w) hk hkey h3 (fun i k' x e a b=>(h4 i k' x e a b).1) h8
    have hck:=ZcN (P:=P) (w:=w) hk hkey false
    have hgo:(getObj b).run P w=.ok (.map en cl) w:=by simp[getObj,Sem.run,h2]
    have hso:∀o,(setObj b o).run P w=.ok () { w with heap:=w.heap.setIfInBounds b o }:=fun o=>by simp[setObj,Sem.run,h2]
    cases hm:Ze5 r es with
    | none =>
     obtain⟨m1,m2,m3,m4⟩:=ZcO hm
     rw[hm]at hf
     simp only[Option.bind_none]at hf
     rw[m1]at he
     simp only[zaa,zaf]at he
     obtain⟨rfl,rfl⟩:=he
     rw[m2]
     obtain⟨g',k1,k2,k3⟩:=Zmf hW ho h1 h2 h7 h3 h4 h5 h6 m4 hkey (Zbt z)
     refine⟨.tuple #[z,goInt cl],_,g',by simp[Instr.mapEntry,run_underlying hu,hgo,hck,hf,hzero,hso],vtup (Zbt z) (.stp _ _ _ (k3 rfl)),k1,k2⟩
    | some i =>
     obtain⟨k',a',m1,m2,m3,m4,_⟩:=ZcK hm
     have hi:i<en.size:=by rw[h3];exact(zah.1 m1).1
     have hen:=zal hi
     rw[hm]at hf
     simp only[Option.bind_some,hen,Option.map_some]at hf
     have hkk':=(h4 i k' a' en[i] m1 hen)
     have hkeq:r=k':=(ZdY hkey hkk'.2.1).1 m2
     have hst:(Instr.keyThatStays en[i].key r).run P w=.ok r w:=by rw[hkk'.1,<- hkeq];exact Zkc hkey
     rw[m3]at he
     simp only[zaa,zaf]at he
     obtain⟨rfl,rfl⟩:=he
     have hsame:en.modify i (fun e=>{ e with key:=r })=en:=by
      apply Array.ext
      ·simp
      ·intro j h1 h2
       rw[Array.getElem_modify]
       split
       ·rename_i hij
        subst hij
        have:en[i].key=r:=by rw[hkk'.1];exact hkeq.symm
        have e2:∀e:MapEntry,e.key=r->({ e with key:=r }:MapEntry)=e:=by rintro⟨k,v,b⟩ rfl;rfl
        exact e2 _ this
       ·rfl
     have hw:({ w with heap:=w.heap.setIfInBounds b (.map en cl) }:World)=w:=by
      have:w.heap.setIfInBounds b (.map en cl)=w.heap:=by
       apply Array.ext
       ·simp
       ·intro j h1 h2
        rw[Array.getElem_setIfInBounds]
        split
        ·rename_i hij
         subst hij
         have:=(zao.1 ‹w.heap[b]?=some (.map en cl)›).2
         exact this.symm
        ·rfl
      rw[this]
     refine .here (u:=.tuple #[en[i].val,goInt en[i].born]) ?_ (vtup hkk'.2.2.1 (.stp _ _ _ (by rw[hkeq];exact hkk'.2.2.2.2 rfl))) hW
     simp[Instr.mapEntry,run_underlying hu,hgo,hck,hf,hen,hst,hso,hsame,hw]
 ·cases he
theorem est_ok (hW:WR g H w) {t:TypeId} {x y z v:AV} {u r q:Value} (hx:VR g w x u) (hy:VR g w y r) (hz:VR g w z q)
  (he:AOp.ev F H (.est (.c x) (.c y) (.c z))=some (v,H')):v=ZaO/\ZmA P g H w (Instr.entryStore t u r q) H':=by
 simp only[AOp.ev,AX.ev]at he
 split at he
 ·rename_i id id' kv
  cases ho:H.get id with
  | none=>rw[ho]at he;cases he
  | some ob =>
   rw[ho]at he
   cases ob with
   | cells cs E=>cases he
   | iter mi ni si=>cases he
   | tok n E s=>cases he
   | map kk es del =>
    cases del with
    | true=>cases he
    | false =>
    simp only at he
    split at he
    case isFalse=>cases he
    rename_i hid
    obtain⟨rfl,hsome⟩:=hid
    simp only[zaa,zaf]at he
    obtain⟨rfl,rfl⟩:=he
    refine⟨rfl,?_⟩
    obtain⟨b,en,cl,rfl,h1,h2,h3,h4,h5,h6,h7,h8⟩:=ZeT hW hx ho
    have hgo:(getObj b).run P w=.ok (.map en cl) w:=by simp[getObj,Sem.run,h2]
    have hso:∀o,(setObj b o).run P w=.ok () { w with heap:=w.heap.setIfInBounds b o }:=fun o=>by simp[setObj,Sem.run,h2]
    cases hy with
    | stp _ _ n hn =>
    cases hm:Ze5 kv es with
    | none=>rw[(ZcO hm).1]at hsome;cases hsome
    | some i =>
     obtain⟨k',a',m1,m2,m3,m4,_⟩:=ZcK hm
     have hi:i<en.size:=by rw[h3];exact(zah.1 m1).1
     have hen:=zal hi
     have hkk':=(h4 i k' a' en[i] m1 hen)
     obtain⟨j,e,hj,hjk⟩:=h6 rfl kv n hn
     have hj2:j<es.length:=by rw[<- h3];exact(zao.1 hj).1
     have hej:=h4 j es[j].1 es[j].2 e (zab hj2) hj
     have hkeyv:kk.isKey kv:=by rw[<- hjk,hej.1];exact hej.2.1
     have hkeq:kv=k':=(ZdY hkeyv hkk'.2.1).1 m2
     have hborn:en[i].born=n:=by
      have:=hkk'.2.2.2.2 rfl
      rw[<- hkeq,hn]at this
      injection this with this
      exact this.symm
     have hfi:en.findIdx? (fun e=>(e.born:Int) == (n:Int))=some i:=by
      rw[Array.findIdx?_eq_some_iff_getElem]
      refine⟨hi,by simp[hborn],fun j hj=>?_⟩
      have hj3:j<en.size:=Xa
      simp only[Bool.not_eq_true,beq_eq_false_iff_ne,ne_eq]
      intro hb
      have:j=i:=h5 j i en[j] en[i] (zal hj3) hen Xa
      omega
     rw[m4]
     obtain⟨k1,k2⟩:=ZhR (f:=fun e=>{ e with val:=q }) hW ho h1 h2 h7 h3 h4 h5 h6 m1 hkeq hz (fun e h=>⟨h,rfl,rfl⟩)
     refine⟨_,g,?_,k1,k2⟩
     simp only[Instr.entryStore,Sem.run_bind,hgo,Result.andThen_ok,asInt,asIntOf,Sem.run_pure,hfi,hso]
 ·cases he
theorem mln_ok (hW:WR g H w) {t kt et ty:TypeId} {x v:AV} {u:Value} (hu:P.underlying t=some (.map kt et)) (hx:VR g w x u) (he:AOp.ev F H (.mln (.c x))=some (v,H')):Zbv P g H w (Builtin.len_ #[t] ty #[u]) v H':=by
 simp only[AOp.ev,AX.ev]at he
 split at he
 ·rename_i id
  cases ho:H.get id with
  | none=>rw[ho]at he;cases he
  | some ob =>
   rw[ho]at he
   cases ob with
   | cells cs E=>cases he
   | iter mi ni si=>cases he
   | tok n E s=>cases he
   | map kk es del =>
    simp only[zaa,zaf]at he
    obtain⟨rfl,rfl⟩:=he
    obtain⟨b,en,cl,rfl,h1,h2,h3,h4,h5,h6,h7,h8⟩:=ZeT hW hx ho
    have hgo:(getObj b).run P w=.ok (.map en cl) w:=by simp[getObj,Sem.run,h2]
    exact .here (u:=.int .i64 es.length) (by simp[Builtin.len_,run_underlying hu,hgo,goInt,h3]) (.sc _) hW
 ·simp only[zaa,zaf]at he
  obtain⟨rfl,rfl⟩:=he
  cases hx
  exact .here (u:=.int .i64 0) (by simp[Builtin.len_,run_underlying hu,goInt]) (.sc _) hW
 ·cases he
theorem clr_ok (hW:WR g H w) {t kt et ty:TypeId} {x v:AV} {u:Value} (hu:P.underlying t=some (.map kt et)) (hx:VR g w x u) (he:AOp.ev F H (.clr (.c x))=some (v,H')):Zbv P g H w (Builtin.clear_ #[t] ty #[u]) v H':=by
 simp only[AOp.ev,AX.ev]at he
 split at he
 ·rename_i id
  split at he
  ·rename_i kk es del ho
   simp only[zaa,zaf]at he
   obtain⟨rfl,rfl⟩:=he
   obtain⟨b,en,cl,rfl,h1,h2,h3,h4,h5,h6,h7,h8⟩:=ZeT hW hx ho
   have hgo:(getObj b).run P w=.ok (.map en cl) w:=by simp[getObj,Sem.run,h2]
   have hso:∀o,(setObj b o).run P w=.ok () { w with heap:=w.heap.setIfInBounds b o }:=fun o=>by simp[setObj,Sem.run,h2]
   have vt:∀{g:Gh} {w:World},VR g w (.tup []) (.tuple #[]):=.tup _ _ rfl (fun i x u h=>by simp at h)
   obtain⟨k1,k2⟩:=Zfn (del':=true) (cl':=cl) (es':=[]) (en':=#[]) hW g.β (fun _ _ _=>rfl) (fun _ _ h=>h) ho h1 h2 h7 rfl (fun i k x e hx he=>by simp at hx) (fun i j e e' h=>by simp at h) (fun h=>by cases h) (fun h=>by cases h)
   exact⟨.tuple #[],_,g,by simp[Builtin.clear_,run_underlying hu,hgo,hso],vt,k1,k2⟩
  ·cases he
 ·cases he
theorem ZhU {α:Type} {sz:Nat}:∀{rows:List (List α)} {n:Nat},(∀r∈rows,r.length=sz)->(rows.take n).flatten=rows.flatten.take (n * sz)
 | [],n,_=>by simp
 | r :: rows,0,_=>by simp
 | r :: rows,n+1,h=>by
  have hr:=h r zak
  have e:(n+1) * sz=sz+n * sz:=by rw[zaX];omega
  have e2:r.take (sz+n * sz)=r:=zav (by rw[hr];exact zbW _ _)
  rw[List.take_succ_cons,List.flatten_cons,List.flatten_cons,ZhU (n:=n) (fun q hq=>h q (zar _ hq)),e,List.take_append,e2,hr,zca]
theorem cpy_ok (hW:WR g H w) {t t2 e ty:TypeId} {sz:Nat} {x y v:AV} {u r:Value} (hu:P.underlying t=some (.slice e)) (hs:ZdE P e=some sz) (hx:VR g w x u) (hy:VR g w y r) (he:AOp.ev F H (.cpy sz (.c x) (.c y))=some (v,H')) :
  Zbv P g H w (Builtin.copy_ #[t,t2] ty #[u,r]) v H':=by
 simp only[AOp.ev,AX.ev]at he
 cases hr:ZaL H sz y with
 | none=>rw[hr]at he;cases hx<;>simp at he
 | some rows =>
  rw[hr]at he
  cases hx with
  | arr id off len cap b hid hc hm =>
   simp only at he
   cases ho:H.get id with
   | none=>rw[ho]at he;cases he
   | some o =>
    rw[ho]at he
    cases o with
    | iter mi ni si=>cases he
    | tok n E s=>cases he
    | map kk es d=>cases he
    | cells cs E =>
     simp only at he
     split at he
     ·rename_i hle
      obtain⟨hal,hfit⟩:=hle
      simp only[zaa,zaf]at he
      obtain⟨rfl,rfl⟩:=he
      obtain⟨A,c,news,rfl,hV,hnl,hrow,hcell⟩:=src_ok hW hy hr hal
      obtain⟨b',carr,h1,h2,h3,h4,h5⟩:=hW.obj id _ ho
      rw[hid]at h1
      injection h1 with h1
      subst h1
      have hl2:carr.size=cs.length:=by have:=h3.1;simp at this;omega
      generalize hn:Nat.min rows.length len=n at *
      have hnr:n<=rows.length:=by rw[<- hn];exact Nat.min_le_left _ _
      have hcl:(news.take (n * sz)).length=n * sz:=by
       rw[zaj,hnl]
       exact zaP (zbe _ hnr)
      have hfirst:(Builtin.firstCells sz n (.slice A rows.length c)).run P w=.ok (news.take (n * sz)).toArray w:=by
       cases A with
       | none =>
        have h0:rows=[]:=Classical.byContradiction fun h=>by obtain⟨ad,h,_⟩:=hcell h;cases h
        subst h0
        have:news=[]:=by simpa using hnl
        subst this
        rw[run_firstCells_none]
        simp
       | some ad =>
        refine run_firstCells_some w sz n ad _ _ _ hcl fun j v hj=>?_
        rw[zbc]at hj
        split at hj
        ·by_cases h0:rows=[]
         ·subst h0
          have:news=[]:=by simpa using hnl
          subst this
          simp at hj
         ·obtain⟨ad',e1,h⟩:=hcell h0
          injection e1 with e1
          subst e1
          exact h j v hj
        ·cases hj
      have hone:∀z∈(rows.take n).flatten,z.one=true:=fun z hz=>by
       obtain⟨q,hq,hz⟩:=zbq.1 hz
       exact(hrow q (zaB hq)).2 z hz
      have hVn:VRs g w (rows.take n).flatten (news.take (n * sz)):=by
       rw[ZhU fun q hq=>(hrow q hq).1]
       exact hV.take _
      have hrun:=run_storeCells_at P b off E (news.take (n * sz)) 0 carr w h2 Xa (hVn.ones hone)
      simp only[Nat.add_zero]at hrun
      refine⟨.int .i64 n,w.setRow b (carr.toList.take off++news.take (n * sz)++carr.toList.drop (off+(news.take (n * sz)).length)).toArray,g,?_,.sc _,?_⟩
      ·simp[Builtin.copy_,run_underlying hu,Builtin.lenOf,Zcl hs,hn,hfirst,hrun,goInt]
      ·refine ZfL hW ho (b:=b) hid (fun b'=>zae) (fun b' hb'=>setRow_other w b b' _ hb') (by simp[World.setRow]) rfl rfl rfl (fun j hj=>absurd hj (h5 j)) (fun hle2=>?_)
       refine⟨b,_,hid,setRow_heap w b carr _ E _ h2,?_,?_,h5⟩
       ·have e:splice cs off (rows.take n).flatten=cs.take off++(rows.take n).flatten++cs.drop (off+(rows.take n).flatten.length):=rfl
        rw[e,show(rows.take n).flatten.length=(news.take (n * sz)).length from hVn.1]
        exact(((h3.mono hle2).take off).app (hVn.mono hle2)).app ((h3.mono hle2).drop (off+(news.take (n * sz)).length))
       ·intro z hz
        unfold splice at hz
        simp only[zaw]at hz
        rcases hz with(hz|hz)|hz
        ·exact h4 z (zaB hz)
        ·exact hone z hz
        ·exact h4 z (zaW hz)
     ·cases he
  | _=>simp at he
theorem del_ok (hW:WR g H w) {t kt et ty t2:TypeId} {kk:KK} {x y v:AV} {u r:Value} (hu:P.underlying t=some (.map kt et)) (hk:KeyT P kk kt) (hx:VR g w x u) (hy:VR g w y r)
  (he:AOp.ev F H (.del kk (.c x) (.c y))=some (v,H')) (ts:List TypeId):Zbv P g H w (Builtin.delete_ (t :: ts).toArray ty #[u,r]) v H':=by
 simp only[AOp.ev,AX.ev]at he
 split at he
 ·rename_i id kv hkv
  obtain⟨rfl,hkey⟩:=KK.Zle hy hkv
  cases ho:H.get id with
  | none=>rw[ho]at he;cases he
  | some ob =>
   rw[ho]at he
   cases ob with
   | cells cs E=>cases he
   | iter mi ni si=>cases he
   | tok n E s=>cases he
   | map kk' es del =>
    simp only at he
    split at he
    case isFalse=>cases he
    rename_i hkk
    subst hkk
    simp only[zaa,zaf]at he
    obtain⟨rfl,rfl⟩:=he
    obtain⟨b,en,cl,rfl,h1,h2,h3,h4,h5,h6,h7,h8⟩:=ZeT hW hx ho
    have hf:=find_ok (P:=P) (w:=w) hk hkey h3 (fun i k' x e a b=>(h4 i k' x e a b).1) h8
    have hck:=ZcN (P:=P) (w:=w) hk hkey en.isEmpty
    have hgo:(getObj b).run P w=.ok (.map en cl) w:=by simp[getObj,Sem.run,h2]
    have hso:∀o,(setObj b o).run P w=.ok () { w with heap:=w.heap.setIfInBounds b o }:=fun o=>by simp[setObj,Sem.run,h2]
    have vt:∀{g:Gh} {w:World},VR g w (.tup []) (.tuple #[]):=.tup _ _ rfl (fun i x u h=>by simp at h)
    cases hm:Ze5 r es with
    | none =>
     obtain⟨m1,m2,m3,m4⟩:=ZcO hm
     rw[hm]at hf
     simp only[Option.bind_none]at hf
     rw[m3]
     obtain⟨k1,k2⟩:=Zfn (del':=true) (cl':=cl) hW g.β (fun _ _ _=>rfl) (fun _ _ h=>h) ho h1 h2 h7 h3 (fun i k x e hx he=>by
      obtain⟨q1,q2,q3,q4,q5⟩:=h4 i k x e hx he
      exact⟨q1,q2,fun w' hle=>q3.mono hle,q4,fun h=>by cases h⟩) h5 (fun h=>by cases h) (fun h=>by cases h)
     exact⟨.tuple #[],_,g,by simp[Builtin.delete_,run_underlying hu,hgo,hck,hf,hso],vt,k1,k2⟩
    | some i =>
     obtain⟨k',a',m1,m2,m3,m4,m5,_⟩:=ZcK hm
     have hi:i<en.size:=by rw[h3];exact(zah.1 m1).1
     have hen:=zal hi
     rw[hm]at hf
     simp only[Option.bind_some,hen,Option.map_some]at hf
     rw[m5]
     have hge:∀(j:Nat) (e:MapEntry),(en.eraseIdxIfInBounds i)[j]?=some e->en[if j<i then j else j+1]?=some e:=by
      intro j e he
      have:(en.eraseIdxIfInBounds i).toList=en.toList.eraseIdx i:=by simp[Array.eraseIdxIfInBounds,hi]
      have he2:(en.toList.eraseIdx i)[j]?=some e:=by rw[<- this,Array.getElem?_toList];exact he
      rw[List.getElem?_eraseIdx]at he2
      split at he2<;>rename_i hj<;>simp[hj]<;>simpa using he2
     have hlen:(en.eraseIdxIfInBounds i).size=(es.eraseIdx i).length:=by
      have:(en.eraseIdxIfInBounds i).toList=en.toList.eraseIdx i:=by simp[Array.eraseIdxIfInBounds,hi]
      rw[<- Array.length_toList,this,List.length_eraseIdx,List.length_eraseIdx]
      simp[h3]
     obtain⟨k1,k2⟩:=Zfn (del':=true) (cl':=cl) (en':=en.eraseIdxIfInBounds i) (es':=es.eraseIdx i) hW g.β (fun _ _ _=>rfl) (fun _ _ h=>h) ho h1 h2 h7 hlen (fun j k x e hx he=>by
      have he':=hge j e he
      rw[List.getElem?_eraseIdx]at hx
      have hx':es[if j<i then j else j+1]?=some (k,x):=by
       split at hx<;>rename_i hj<;>simp[hj]<;>exact hx
      obtain⟨q1,q2,q3,q4,q5⟩:=h4 _ k x e hx' he'
      exact⟨q1,q2,fun w' hle=>q3.mono hle,q4,fun h=>by cases h⟩) (fun p q e e' hp hq hb=>by
      have:=h5 _ _ e e' (hge p e hp) (hge q e' hq) hb
      split at this<;>split at this<;>omega) (fun h=>by cases h) (fun h=>by cases h)
     exact⟨.tuple #[],_,g,by simp[Builtin.delete_,run_underlying hu,hgo,hck,hf,hso],vt,k1,k2⟩
 ·cases he
theorem run_next_at (w:World) (ty:TypeId) (b bm since c0:Nat) (seen:Array Nat) (es:Array MapEntry) (clock:Nat) (hi:w.heap[b]?=some (.mapIter (some bm) since seen c0)) (hb:w.heap[bm]?=some (.map es clock)) (hold:∀x∈es.toList,x.born<since) (hsc:since<=c0) :
  ((leftOf es seen).size=0/\(Instr.next (.pointer (some ⟨b,0,none⟩)) false ty).run P w=.ok (.tuple #[.bool false]) w) \/
  ∃e∈(leftOf es seen).toList,∃w1:World,(w1=w\/w1=w.drew)/\(Instr.next (.pointer (some ⟨b,0,none⟩)) false ty).run P w=.ok (.tuple #[.bool true,e.key,e.val]) { w1 with heap:=w.heap.setIfInBounds b (.mapIter (some bm) since (seen.push e.born) clock) }:=by
 simp only[Instr.next,getObj,Sem.run_bind,Sem.run,hi,hb,Result.andThen,next_test_false seen es since c0 hold hsc,zb6,if_false]
 unfold leftOf
 have hmem:∀x∈(Array.filter (fun e=>!seen.contains e.born) es).toList,x.born<since:=fun x hx=>hold x (by simp at hx ⊢;exact hx.1)
 generalize Array.filter (fun e=>!seen.contains e.born) es=L at hmem ⊢
 have e1:L.filter (fun x=>decide (x.born<since))=L:=Array.filter_eq_self.2 (fun x hx=>by simpa using hmem x (by simpa using hx))
 have e2:L.filter (fun x=>decide (x.born≥since))=#[]:=by
  rw[Array.filter_eq_empty_iff]
  intro x hx
  have:=hmem x (by simpa using hx)
  simp
  omega
 simp only[e1,e2,Array.append_empty]
 by_cases h0:L.size=0
 ·left
  have:L=#[]:=Array.eq_empty_of_size_eq_zero h0
  subst this
  refine⟨rfl,?_⟩
  simp[choose,Sem.run,Question.forced]
 ·right
  have hne:L.isEmpty=false:=by simp[Array.isEmpty,h0]
  simp only[hne,zb6,if_false,Array.empty_append,Array.size_map]
  have hch:∃(j:Nat) (w1:World),j<L.size/\(w1=w\/w1=w.drew)/\(choose (Question.mapNext L.size)).run P w=.ok j w1:=by
   by_cases hf:L.size<=1
   ·exact⟨0,w,Xa,.inl rfl,by simp[choose,Sem.run,Question.forced,hf]⟩
   ·exact⟨_,w.drew,zbG _ Xa,.inr rfl,by
     simp only[choose,Sem.run,Question.forced,decide_eq_true_eq,hf,if_false,Question.cut]
     rfl⟩
  obtain⟨j,w1,hj,hal,hrun⟩:=hch
  refine⟨L[j],Xc,w1,hal,?_⟩
  have hw1:w1.heap=w.heap:=by rcases hal with rfl|rfl<;>rfl
  have hset:∀o':Obj,(setObj b o').run P w1=.ok () { w1 with heap:=w.heap.setIfInBounds b o' }:=fun o'=>by
   simp only[setObj,Sem.run,hw1,hi]
  simp only[hrun,Array.getElem?_map,zal hj,Option.map_some,Sem.run_bind,hset,Result.andThen]
  rfl
theorem rng_ok (hW:WR g H w) {t kt et:TypeId} {x v:AV} {u:Value} (hu:P.underlying t=some (.map kt et)) (hx:VR g w x u) (he:AOp.ev F H (.rng (.c x))=some (v,H')):Zbv P g H w (Instr.range t u) v H':=by
 simp only[AOp.ev,AX.ev]at he
 split at he
 ·rename_i id
  split at he
  ·rename_i kk es ho
   simp only[zaa,zaf]at he
   obtain⟨rfl,rfl⟩:=he
   obtain⟨b,en,cl,rfl,h1,h2,h3,h4,h5,h6,h7,h8⟩:=ZeT hW hx ho
   have hcl:=Zf6 hW ho h1 h2
   have hid:(g.obj H.next w.heap.size).ι H.next=some w.heap.size:=by simp[Gh.obj]
   obtain⟨k1,k2⟩:=Zi0 hW (.mapIter (some b) cl #[] cl) (.iter id es.length []) (by intros;simp) ⟨_,b,#[],hid,(ZmG hW (.mapIter none 0 #[] 0)).ι _ _ h1,by rw[hcl];exact heap_alloc_new w _,rfl,fun i k m h=>by simp at h,fun j hj=>absurd (hW.ro _ _ hj) Xa⟩
   exact⟨.pointer (some ⟨w.heap.size,0,none⟩),_,_,run_range_map w t kt et b en cl hu h2,.ptr _ _ _ hid,k1,k2⟩
  ·cases he
 ·cases he
theorem ZmH (hW:WR g H w) {id mid n:Nat} {seen:List Value} {kk:KK} {es:List (Value×AV)} {u:Value} {off:Nat} (hx:VR g w (.ptr id off) u) (hi:H.get id=some (.iter mid n seen)) (hm:H.get mid=some (.map kk es false)) (hn:es.length=n) :
  ∃b bm en born,u=.pointer (some ⟨b,off,none⟩)/\g.ι id=some b/\g.ι mid=some bm/\w.heap[b]?=some (.mapIter (some bm) n born n)/\w.heap[bm]?=some (.map en n)/\en.size=es.length/\born.size=seen.length /\
   (∀(i:Nat) (k:Value) (x:AV) (e:MapEntry),es[i]?=some (k,x)->en[i]?=some e->e.key=k/\kk.isKey k/\VR g w x e.val/\e.born<n/\g.β mid k=some e.born) /\
   (∀(i j:Nat) (e e':MapEntry),en[i]?=some e->en[j]?=some e'->e.born=e'.born->i=j) /\
   (∀(i:Nat) (k:Value) (m:Nat),seen[i]?=some k->born[i]?=some m->g.β mid k=some m) /\
   (∀k m,g.β mid k=some m->kk.isKey k/\∃(i:Nat) (e:MapEntry) (x:AV),en[i]?=some e/\e.key=k/\es[i]?=some (k,x)/\e.born=m)/\∀j,¬g.RO b j:=by
 cases hx with
 | ptr _ _ b hb =>
 obtain⟨b',bm,born,h1,h2,h3,h4,h5,h6⟩:=hW.obj id _ hi
 rw[hb]at h1
 injection h1 with h1
 subst h1
 obtain⟨b',en,cl,q1,q2,q3,q4,q5,q6,q7⟩:=hW.obj mid _ hm
 rw[h2]at q1
 injection q1 with q1
 subst q1
 have hcl:cl=n:=(q7.2 rfl).trans hn
 subst hcl
 refine⟨b,bm,en,born,rfl,hb,h2,h3,q2,q3,h4,fun i k x e e1 e2=>?_,q5,h5,fun k m hk=>?_,h6⟩
 ·obtain⟨r1,r2,r3,r4,r5⟩:=q4 i k x e e1 e2
  exact⟨r1,r2,r3,r4,r5 rfl⟩
 ·obtain⟨i,e,he,hek⟩:=q6 rfl k m hk
  have hlt:i<es.length:=by rw[<- q3];exact(zao.1 he).1
  obtain⟨r1,r2,r3,r4,r5⟩:=q4 i es[i].1 es[i].2 e (zab hlt) he
  have hkk:es[i].1=k:=r1.symm.trans hek
  have hm2:=r5 rfl
  rw[hkk]at r2 hm2
  rw[hk]at hm2
  injection hm2 with hm2
  exact⟨r2,i,e,es[i].2,he,hek,by rw[zab hlt,<- hkk],hm2.symm⟩
theorem ent_ok (hW:WR g H w) {x v:AV} {u:Value} (hx:VR g w x u) (he:AOp.ev F H (.ent (.c x))=some (v,H')):Zbv P g H w (Instr.entry u) v H':=by
 simp only[AOp.ev,AX.ev]at he
 split at he
 ·rename_i id
  split at he
  ·rename_i mid n seen hi
   split at he
   ·rename_i k kk es hlast hm
    split at he
    ·rename_i hn
     split at he
     ·rename_i a hf
      simp only[zaa,zaf]at he
      obtain⟨rfl,rfl⟩:=he
      obtain⟨b,bm,en,born,rfl,h1,h2,h3,h4,h5,h6,h7,h8,h9,h10,h11⟩:=ZmH hW hx hi hm hn
      have hsl:seen[seen.length - 1]?=some k:=by rw[<- List.getLast?_eq_getElem?];exact hlast
      have hlt:seen.length - 1<seen.length:=(zah.1 hsl).1
      have hlb:born.size - 1<born.size:=Xa
      have hback:born.back?=some born[born.size - 1]:=by rw[Array.back?_eq_getElem?];exact zal hlb
      have hb9:=h9 (seen.length - 1) k born[born.size - 1] hsl (by rw[<- h6];exact zal hlb)
      obtain⟨hkey,i,e,x,e1,e2,e3,e4⟩:=h10 _ _ hb9
      obtain⟨r1,r2,r3,r4,r5⟩:=h7 i k x e e3 e1
      have hfind:en.find? (fun e=>e.born == born[born.size - 1])=some e:=by
       cases hfi:en.find? (fun e=>e.born == born[born.size - 1])with
       | none =>
        rw[Array.find?_eq_none]at hfi
        have:=hfi e (zco e1)
        simp[e4]at this
       | some e' =>
        have hp:=Array.find?_some hfi
        obtain⟨j,hj,rfl⟩:=zcs (Array.mem_of_find?_eq_some hfi)
        have hji:j=i:=h8 j i _ _ (zal hj) e1 (by simpa [e4] using hp)
        subst hji
        rw[zal hj]at e1
        exact e1
      have hax:a=x:=by
       cases hmi:Ze5 k es with
       | none=>obtain⟨m1,_⟩:=ZcO hmi;rw[m1]at hf;cases hf
       | some i' =>
        obtain⟨k',a',m1,m2,m3,_⟩:=ZcK hmi
        rw[m3]at hf
        injection hf with hf
        subst hf
        have hi':i'<en.size:=by rw[h5];exact(zah.1 m1).1
        obtain⟨s1,s2,s3,s4,s5⟩:=h7 i' k' a' en[i'] m1 (zal hi')
        obtain rfl:=(ZdY hkey s2).1 m2
        rw[s5]at r5
        injection r5 with r5
        have:=h8 i' i _ _ (zal hi') e1 r5
        subst this
        rw[m1]at e3
        injection e3 with e3
        injection e3
      subst hax
      have hgo:(getObj b).run P w=.ok (.mapIter (some bm) n born n) w:=by simp[getObj,Sem.run,h3]
      have hgm:(getObj bm).run P w=.ok (.map en n) w:=by simp[getObj,Sem.run,h4]
      refine .here (u:=.tuple #[e.key,e.val]) ?_ ?_ hW
      ·simp[Instr.entry,hgo,hgm,hback,hfind]
      ·rw[e2]
       have:=(VRs.nil.cons r3).cons (VR.sc (g:=g) (w:=w) k)
       exact .tup _ _ rfl (fun i x u hx hu=>this.2 i x u hx (by simpa using hu))
     ·cases he
    ·cases he
   ·cases he
  ·cases he
 ·cases he
def Zj7 (H:Zaa) (str:Bool) (x:AV) (K:AV->Zaa->Prop):Prop:=match str,x with
 | false,.ptr id 0=>match H.get id with
  | some (.iter mid n seen)=>match H.get mid with
   | some (.map (.one _) es false)=>es.length=n/\(Zgc es seen=[]->K (.tup [.b false]) H)/\∀p∈Zgc es seen,K (.tup [.b true,.sc p.1,p.2]) (H.set id (.iter mid n (seen++[p.1])))
   | _=>False
  | _=>False
 | _,_=>False
theorem Zj7.mono {str:Bool} {x:AV} {K K':AV->Zaa->Prop} (h:Zj7 H str x K) (hk:∀v H',K v H'->K' v H'):Zj7 H str x K':=by
 unfold Zj7 at h ⊢
 split at h
 ·split at h
  ·split at h
   ·exact⟨h.1,fun e=>hk _ _ (h.2.1 e),fun p hp=>hk _ _ (h.2.2 p hp)⟩
   ·exact h
  ·exact h
 ·exact h
theorem Zj7.of_ev {str:Bool} {x:AX} {v:AV} {K:AV->Zaa->Prop} (he:AOp.ev F H (.nxt str x)=some (v,H')) (hk:K v H'):Zj7 H str (x.ev F) K:=by
 simp only[AOp.ev]at he
 unfold Zj7
 generalize x.ev F=xv at he ⊢
 split at he
 ·rename_i id
  simp only
  split at he
  ·rename_i mid n seen hi
   rw[hi]
   simp only
   split at he
   ·rename_i kk es hm
    rw[hm]
    simp only
    split at he
    ·rename_i hn
     split at he
     ·rename_i hl
      simp only[zaa,zaf]at he
      obtain⟨rfl,rfl⟩:=he
      exact⟨hn,fun _=>hk,fun p hp=>by rw[hl]at hp;cases hp⟩
     ·rename_i p hl
      simp only[zaa,zaf]at he
      obtain⟨rfl,rfl⟩:=he
      refine⟨hn,fun e=>(by rw[hl]at e;cases e),fun q hq=>?_⟩
      rw[hl]at hq
      obtain rfl:=zbr.1 hq
      exact hk
     ·cases he
    ·cases he
   ·cases he
  ·cases he
 ·cases he
theorem nxt_ok (hW:WR g H w) {str:Bool} {ty:TypeId} {x:AV} {u:Value} (hx:VR g w x u) {K:AV->Zaa->Prop} (hk:Zj7 H str x K):∃v a' H' w' g',(Instr.next u str ty).run P w=.ok v w'/\K a' H'/\VR g' w' a' v/\WR g' H' w'/\Stp g H w g' H' w':=by
 unfold Zj7 at hk
 split at hk
 ·rename_i id
  cases hi:H.get id with
  | none=>rw[hi]at hk;exact hk.elim
  | some oi =>
  rw[hi]at hk
  cases oi with
  | cells cs E=>exact hk.elim
  | tok n E sz=>exact hk.elim
  | map kk es d=>exact hk.elim
  | iter mid n seen =>
  simp only at hk
  split at hk
  ·rename_i kk es hm
   obtain⟨hn,hk0,hk1⟩:=hk
   obtain⟨b,bm,en,born,rfl,h1,h2,h3,h4,h5,h6,h7,h8,h9,h10,h11⟩:=ZmH hW hx hi hm hn
   have hent:∀(i:Nat) (e:MapEntry),en[i]?=some e->∃k y,es[i]?=some (k,y):=by
    intro i e he
    have hlt:i<es.length:=by rw[<- h5];exact(zao.1 he).1
    exact⟨es[i].1,es[i].2,zab hlt⟩
   have hold:∀y∈en.toList,y.born<n:=by
    intro y hy
    obtain⟨i,hlt,rfl⟩:=zaK hy
    have hlt':i<en.size:=by simpa using hlt
    obtain⟨k,z,hz⟩:=hent i en[i] (zal hlt')
    simpa using (h7 i k z en[i] hz (zal hlt')).2.2.2.1
   have hsk:∀k'∈seen,∃m,m∈born/\g.β mid k'=some m:=by
    intro k' hk'
    obtain⟨j,hj,rfl⟩:=zaK hk'
    have hjb:j<born.size:=Xa
    exact⟨born[j],Array.getElem_mem hjb,h9 j _ _ (zab hj) (zal hjb)⟩
   have hleft:∀(i:Nat) (k:Value) (y:AV) (e:MapEntry),es[i]?=some (k,y)->en[i]?=some e->((k,y)∈Zgc es seen ↔ e∈leftOf en born):=by
    intro i k y e he1 he2
    obtain⟨r1,r2,r3,r4,r5⟩:=h7 i k y e he1 he2
    unfold Zgc leftOf
    rw[zbv,Array.mem_filter]
    have hm1:(k,y)∈es:=zaN he1
    have hm2:e∈en:=zco he2
    simp only[hm1,hm2,true_and]
    have:(seen.any fun k'=>kEq k' k)=born.contains e.born:=by
     rw[zbQ,List.any_eq_true]
     constructor
     ·rintro⟨k',hk',hkk⟩
      obtain⟨m,hmb,hβ⟩:=hsk k' hk'
      obtain⟨hkey',_⟩:=h10 k' m hβ
      obtain rfl:=(ZdY hkey' r2).1 hkk
      rw[r5]at hβ
      injection hβ with hβ
      subst hβ
      simpa using hmb
     ·intro hc
      have hmb:e.born∈born:=by simpa using hc
      obtain⟨j,hj,hje⟩:=zcs hmb
      have hjs:j<seen.length:=Xa
      have hβ:=h9 j seen[j] e.born (zab hjs) (by rw[zal hj,hje])
      obtain⟨hkey',i',e',x',q1,q2,q3,q4⟩:=h10 _ _ hβ
      have:=h8 i' i e' e q1 he2 q4
      subst this
      rw[he1]at q3
      injection q3 with q3
      injection q3 with q3 _
      refine⟨seen[j],zau hjs,?_⟩
      rw[<- q3]
      exact(ZdY r2 r2).2 rfl
    rw[this]
   rcases run_next_at (P:=P) w ty b bm n n born en n h3 h4 hold (zad _)with⟨hs,hrun⟩|⟨e,he,w1,hw1,hrun⟩
   ·refine⟨_,_,_,_,g,hrun,hk0 ?_,?_,hW,.refl _ _ _⟩
    ·refine zbR.2 fun p hp=>?_
     have hpe:p∈es:=(zbv.1 hp).1
     obtain⟨i,hlt,hpi⟩:=zaK hpe
     have hlt':i<en.size:=Xa
     have:=(hleft i p.1 p.2 en[i] (by rw[zab hlt,hpi]) (zal hlt')).1 hp
     have:=Array.size_pos_of_mem this
     omega
    ·have:=(VRs.nil (g:=g) (w:=w)).cons (VR.sc (g:=g) (w:=w) (.bool false))
     exact .tup _ _ rfl (fun i x u hx hu=>this.2 i x u hx (by simpa using hu))
   ·have hem:e∈leftOf en born:=by simpa using he
    have hee:e∈en:=(Array.mem_filter.1 hem).1
    obtain⟨i,hlt,hei⟩:=zcs hee
    have hen:en[i]?=some e:=by rw[zal hlt,hei]
    obtain⟨k,y,hky⟩:=hent i e hen
    obtain⟨r1,r2,r3,r4,r5⟩:=h7 i k y e hky hen
    have hp:=(hleft i k y e hky hen).2 hem
    have hK:=hk1 (k,y) hp
    have hwd:WR g H w1/\Stp g H w g H w1:=by
     rcases hw1 with rfl|rfl
     ·exact⟨hW,.refl _ _ _⟩
     ·exact Zjr hW
    have hh1:w1.heap=w.heap:=by rcases hw1 with rfl|rfl<;>rfl
    have hlb:b<w.heap.size:=(zao.1 h3).1
    obtain⟨k1,k2⟩:=ZfL (w':={ w1 with heap:=w.heap.setIfInBounds b (.mapIter (some bm) n (born.push e.born) n) }) (o':=.iter mid n (seen++[k])) hwd.1 hi (b:=b) h1 (fun b'=>zae) (fun b' hb'=>by
      show(w.heap.setIfInBounds b _)[b']?=w1.heap[b']?
      rw[hh1,zaQ,if_neg (zbn hb')]) (by simp[hh1]) rfl rfl rfl (fun j hj=>absurd hj (h11 j)) (fun hle=>by
      refine⟨b,bm,born.push e.born,h1,h2,?_,by simp[h6],fun i' k' m e1 e2=>?_,h11⟩
      ·show(w.heap.setIfInBounds b _)[b]?=_
       rw[zaQ,if_pos rfl,if_pos hlb]
      ·rw[zcx]at e2
       rw[List.getElem?_append]at e1
       split at e2
       ·rename_i hii
        injection e2 with e2
        subst e2
        rw[if_neg Xa,hii,h6]at e1
        simp at e1
        subst e1
        exact r5
       ·have hii:i'<born.size:=(zao.1 e2).1
        rw[if_pos Xa]at e1
        exact h9 i' k' m e1 e2)
    refine⟨_,_,_,_,g,hrun,hK,?_,k1,hwd.2.trans k2⟩
    rw[r1]
    have h3':=(r3.mono hwd.2.le).mono k2.le
    have:=((VRs.nil.cons h3').cons (VR.sc k)).cons (VR.sc (.bool true))
    exact .tup _ _ rfl (fun i x u hx hu=>this.2 i x u hx (by simpa using hu))
  ·exact hk.elim
 ·exact hk.elim
end
section
variable {P:Program} {g g':Gh} {H H':Zaa} {w w':World} {N:Nat} {F:Fr} {a:Act}
theorem lnA_ok (hW:WR g H w) {t ty e:TypeId} {n:Nat} {u:Value} {v:AV} (hu:P.underlying t=some (.array n e)) (he:AOp.ev F H (.lnA n)=some (v,H')):Zbv P g H w (Builtin.len_ #[t] ty #[u]) v H':=by
 simp only[AOp.ev,zaa,zaf]at he
 obtain⟨rfl,rfl⟩:=he
 exact .here (u:=.int .i64 n) (by simp[Builtin.len_,run_underlying hu,goInt]) (.sc _) hW
theorem pick_ok (hW:WR g H w) {x y z v:AV} {u r q:Value} (hx:VR g w x u) (hy:VR g w y r) (hz:VR g w z q) (he:AOp.ev F H (.pick (.c x) (.c y) (.c z))=some (v,H')):Does P g H w (do pure (.value (if <- asBool u then r else q)):Sem Next) v H':=by
 simp only[AOp.ev,AX.ev]at he
 split at he
 ·rename_i t
  cases hx
  simp only[zaa,zaf]at he
  obtain⟨rfl,rfl⟩:=he
  cases t
  ·exact⟨_,q,w,g,by simp[asBool],.inl rfl,hz,hW,.refl _ _ _⟩
  ·exact⟨_,r,w,g,by simp[asBool],.inl rfl,hy,hW,.refl _ _ _⟩
 ·cases he
theorem info_of {t:TypeId} {s:Nat} (h:ZdE P t=some s):∃i,P.info? t=some i/\i.size=s:=by
 unfold ZdE at h
 cases hi:P.info? t with
 | none=>rw[hi]at h;cases h
 | some i=>rw[hi]at h;simp at h;exact⟨i,rfl,h⟩
theorem Zhk {t:TypeId} {z:Value} (h:Zdt P t=some z):∃i,P.info? t=some i/\i.zero=some z:=by
 unfold Zdt at h
 cases hi:P.info? t with
 | none=>rw[hi]at h;cases h
 | some i=>rw[hi]at h;exact⟨i,rfl,by simpa using h⟩
theorem Zao {α β:Type} {x:Option α} {f:α->Option β} {b:β} (h:(x >>= f)=some b):∃a,x=some a/\f a=some b:=by
 cases x with
 | none=>cases h
 | some a=>exact⟨a,rfl,h⟩
theorem ZhC (hW:WR g H w) {t ty:TypeId} {d:TypeDesc} {x v:AV} {u:Value} (hu:P.underlying t=some d) (hd:(∃e,d=.slice e)\/d=.string) (hx:VR g w x u) (he:AOp.ev F H (.len (bif (match d with|.string=>true|_=>false) then true else false) (.c x))=some (v,H')):Zbv P g H w (Builtin.len_ #[t] ty #[u]) v H':=by
 simp only[AOp.ev,AX.ev]at he
 rcases hd with⟨e,rfl⟩|rfl
 ·simp only[cond_false]at he
  cases hx with
  | sl tok rows A c sz b o f hc hm hA hsz hcell hv ht =>
   simp only[zaa,zaf]at he
   obtain⟨rfl,rfl⟩:=he
   exact .here (by simp[Builtin.len_,run_underlying hu,goInt]) (.sc _) hW
  | arr id off len cap b h hc hm =>
   simp only[zaa,zaf]at he
   obtain⟨rfl,rfl⟩:=he
   exact .here (by simp[Builtin.len_,run_underlying hu,goInt]) (.sc _) hW
  | _=>cases he
 ·simp only[cond_true]at he
  cases hx with
  | sc u =>
   cases u with
   | string s =>
    simp only[zaa,zaf]at he
    obtain⟨rfl,rfl⟩:=he
    exact .here (by simp[Builtin.len_,run_underlying hu,goInt]) (.sc _) hW
   | _=>cases he
  | _=>cases he
theorem eqs_ok (hW:WR g H w) {t e:TypeId} {neg:Bool} {x v:AV} {u:Value} {ox oy:Operand} (hu:P.underlying t=some (.slice e)) (hx:VR g w x u) (he:AOp.ev F H (.eqs neg (.c x))=some (v,H')) :
  Zbv P g H w (do eqGuard (bif neg then .neq else .eql) t ox oy u (.slice none 0 0);binOp (bif neg then .neq else .eql) t u (.slice none 0 0)) v H':=by
 have heq:∀A n c,(Op.equal t (.slice A n c) (.slice none 0 0)).run P w=.ok A.isNone w:=fun A n c=>Zcg fun k=>by
  cases A<;>simp[Op.equalIn,run_underlying hu]
 have hg:∀A n c op,(eqGuard op t ox oy (.slice A n c) (.slice none 0 0)).run P w=.ok () w:=fun A n c op=>by cases op<;>simp[eqGuard]
 simp only[AOp.ev,AX.ev]at he
 split at he
 ·simp only[zaa,zaf]at he
  obtain⟨rfl,rfl⟩:=he
  cases hx with
  | sl _ _ A c sz b o f hc hm hA hsz hcell hv ht=>exact .here (ZfN (hg _ _ _) rfl rfl (heq _ _ _)) (.ub _) hW
 ·simp only[zaa,zaf]at he
  obtain⟨rfl,rfl⟩:=he
  cases hx with
  | sl _ _ A c sz b o f hc hm hA hsz hcell hv ht =>
   have:=hA Xc
   subst this
   exact .here (ZfN (hg _ _ _) rfl rfl (heq _ _ _)) (.sc _) hW
 ·simp only[zaa,zaf]at he
  obtain⟨rfl,rfl⟩:=he
  cases hx with
  | arr id off len cap b h hc hm=>exact .here (ZfN (hg _ _ _) rfl rfl (heq _ _ _)) (.sc _) hW
 ·cases he
theorem cap_ok (hW:WR g H w) {t ty e:TypeId} {x v:AV} {u:Value} (hu:P.underlying t=some (.slice e)) (hx:VR g w x u) (he:AOp.ev F H (.cap (.c x))=some (v,H')):Zbv P g H w (Builtin.cap_ #[t] ty #[u]) v H':=by
 simp only[AOp.ev,AX.ev]at he
 split at he
 ·simp only[zaa,zaf]at he
  obtain⟨rfl,rfl⟩:=he
  cases hx with
  | sl _ _ A c sz b o f hc hm hA hsz hcell hv ht =>
   have:c=_:=ht
   subst this
   exact .here (by simp[Builtin.cap_,run_underlying hu,goInt]) (.sc _) hW
 ·simp only[zaa,zaf]at he
  obtain⟨rfl,rfl⟩:=he
  cases hx with
  | arr id off len cap b h hc hm=>exact .here (by simp[Builtin.cap_,run_underlying hu,goInt]) (.sc _) hW
 ·cases he
theorem clv_ok (hW:WR g H w) {t e ty:TypeId} {x v:AV} {u:Value} (hu:P.underlying t=some (.slice e)) (hs:ZdE P e=some 1) (hz:Zdt P e=some (.int .i64 0)) (hx:VR g w x u) (he:AOp.ev F H (.clv (.c x))=some (v,H')) :
  Zbv P g H w (Builtin.clear_ #[t] ty #[u]) v H':=by
 simp only[AOp.ev,AX.ev]at he
 cases hx with
 | arr id off len cap b hid hc hm =>
  simp only at he
  cases ho:H.get id with
  | none=>rw[ho]at he;cases he
  | some o =>
   rw[ho]at he
   cases o with
   | iter mi ni si=>cases he
   | tok n E s=>cases he
   | map kk es d=>cases he
   | cells cs E =>
    simp only at he
    split at he
    ·rename_i hle
     simp only[zaa,zaf]at he
     obtain⟨rfl,rfl⟩:=he
     obtain⟨b',carr,h1,h2,h3,h4,h5⟩:=hW.obj id _ ho
     rw[hid]at h1
     injection h1 with h1
     subst h1
     have hl2:carr.size=cs.length:=by have:=h3.1;simp at this;omega
     have vt:∀{g:Gh} {w:World},VR g w (.tup []) (.tuple #[]):=.tup _ _ rfl (fun i x u h=>by simp at h)
     have hzero:(zeroValue e).run P w=.ok (.int .i64 0) w:=by
      unfold Zdt at hz
      cases hi:P.info? e with
      | none=>rw[hi]at hz;simp at hz
      | some i=>rw[hi]at hz;simp at hz;simp[zeroValue,typeInfo,hi,hz]
     have hzc:(Builtin.zeroCells (Value.int .i64 0).cells len).toList=List.replicate len (Value.int .i64 0):=by
      rw[Zim _ _ Xb]
      show(List.replicate len [Value.int .i64 0]).flatten=_
      clear hc hm hle
      induction len with
      | zero=>rfl
      | succ n ih=>rw[List.replicate_succ,List.flatten_cons,ih,List.replicate_succ];rfl
     have hV:VRs g w (List.replicate len (AV.i 0)) (List.replicate len (Value.int .i64 0)):=⟨Xc,fun i x u h1 h2=>by
      rw[zcb]at h1 h2
      split at h1
      ·rename_i hi
       rw[if_pos hi]at h2
       injection h1 with h1
       injection h2 with h2
       subst h1 h2
       exact .sc _
      ·cases h1⟩
     have hone:∀z∈List.replicate len (AV.i 0),z.one=true:=fun z hz=>by rw[(zaY.1 hz).2];rfl
     have hrun:=run_storeCells_at P b off E (List.replicate len (Value.int .i64 0)) 0 carr w h2 (by rw[zaZ];omega) (hV.ones hone)
     simp only[Nat.add_zero]at hrun
     refine⟨.tuple #[],w.setRow b (carr.toList.take off++List.replicate len (Value.int .i64 0)++carr.toList.drop (off+(List.replicate len (Value.int .i64 0)).length)).toArray,g,?_,vt,?_⟩
     ·obtain⟨n,rfl⟩:∃n,len=n+1:=⟨len - 1,Xa⟩
      simp[Builtin.clear_,run_underlying hu,hzero,hzc,hrun]
     ·refine ZfL hW ho (b:=b) hid (fun b'=>zae) (fun b' hb'=>setRow_other w b b' _ hb') (by simp[World.setRow]) rfl rfl rfl (fun j hj=>absurd hj (h5 j)) (fun hle2=>?_)
      refine⟨b,_,hid,setRow_heap w b carr _ E _ h2,?_,?_,h5⟩
      ·have e:splice cs off (List.replicate len (AV.i 0))=cs.take off++List.replicate len (AV.i 0)++cs.drop (off+(List.replicate len (AV.i 0)).length):=rfl
       rw[e,show(List.replicate len (AV.i 0)).length=(List.replicate len (Value.int .i64 0)).length by simp]
       exact(((h3.mono hle2).take off).app (hV.mono hle2)).app ((h3.mono hle2).drop (off+(List.replicate len (Value.int .i64 0)).length))
      ·intro z hz
       unfold splice at hz
       simp only[zaw]at hz
       rcases hz with(hz|hz)|hz
       ·exact h4 z (zaB hz)
       ·exact hone z hz
       ·exact h4 z (zaW hz)
    ·cases he
 | _=>simp at he
theorem ovl_find {fn:Func} {t r:TypeId} (h1:fn.name=ZGr) (h2:fn.origin = "slices.overlaps") (h3:fn.params=#[t,t]) (h4:fn.resultTypes=#[r]):Extern.findNext fn=none/\Extern.find fn=some (Extern.SlicesOverlaps.overlaps #[t,t] #[r]):=by
 constructor
 ·unfold Extern.findNext
  rw[h1,h2,h3,h4]
  kernel_rfl
 ·unfold Extern.find
  rw[h1,h2,h3,h4]
  kernel_rfl
theorem ovl_ok (hW:WR g H w) {f:FuncId} {fn:Func} {x y v:AV} {u r:Value} (hf:P.funcs[f]?=some fn) (hok:ovlOk P fn=true) (hx:VR g w x u) (hy:VR g w y r) (he:AOp.ev F H (.ovl (.c x) (.c y))=some (v,H')) :
  (callFunc f #[u,r]).run P w=.ok (.value (.bool false)) w/\v=.b false/\H'=H:=by
 simp only[AOp.ev,AX.ev]at he
 split at he
 ·rename_i i oi li ci j oj lj cj
  split at he
  ·rename_i cs E cj' E' hi hj
   split at he
   ·rename_i hc
    simp only[zaa,zaf]at he
    obtain⟨rfl,rfl⟩:=he
    refine⟨?_,rfl,rfl⟩
    cases hx with
    | arr _ _ _ _ b hib _ _ =>
    cases hy with
    | arr _ _ _ _ b2 hjb _ _ =>
    obtain⟨b',carr,q1,q2,q3,q4,q5⟩:=hW.obj i _ hi
    obtain⟨b2',carr2,r1,r2,r3,r4,r5⟩:=hW.obj j _ hj
    have e1:b'=b:=by rw[hib]at q1;injection q1 with q1;exact q1.symm
    have e2:b2'=b2:=by rw[hjb]at r1;injection r1 with r1;exact r1.symm
    subst e1 e2
    have hne:b'≠b2':=fun e=>hc.1 (hW.inj i j _ _ b' hi hj hib (by rw[e];exact hjb))
    have hk2:carr2.size≠0:=by have:=r3.1;simp at this;omega
    unfold ovlOk at hok
    simp only[zaV,decide_eq_true_eq]at hok
    obtain⟨h1,h2,h3,h4⟩:=hok
    split at h4
    ·rename_i t t' rr hp hr
     have hp:fn.params=#[t,t']:=by apply za9;simpa using hp
     have hr:fn.resultTypes=#[rr]:=by apply za9;simpa using hr
     rw[zaV,decide_eq_true_eq]at h4
     obtain⟨rfl,h4⟩:=h4
     split at h4
     ·rename_i e hu
      obtain⟨ti,hti⟩:=zb3.1 h4
      obtain⟨hn,hfd⟩:=ovl_find h1 h2 hp hr
      rw[run_callFunc_extern hf (by rw[h1];rfl) h3 hn hfd,Lib.run_overlaps_apart w t rr e hu ti.size (fun w=>by simp[sizeOf,typeInfo,hti]) ⟨b',oi,none⟩ ⟨b2',oj,none⟩ li ci lj cj hne E E' carr.size carr2.size (by simp[World.shape?,q2]) (by simp[World.shape?,r2]) hk2 (by simp[World.frozen?,q2]) (by simp[World.frozen?,q2])]
      rfl
     ·cases h4
    ·cases h4
   ·cases he
  ·cases he
 ·cases he
theorem op_sound {eqT:EqT} (hE:∀t ks,eqT t=some ks->Ziv P t ks) (o:Oper) {ao:AOp} {v:AV} (hc:cOp P eqT o.op=some ao) (hF:FR g w N F a) (hW:WR g H w) (he:AOp.ev F H ao=some (v,H')):Does P g H w (execOp a.eval o) v H':=by
 obtain⟨dst,op,type,pos,after,guard⟩:=o
 simp only at hc
 cases op with
 | move x =>
  simp only[cOp,zaa]at hc
  subst hc
  simp only[AOp.ev,zaa,zaf]at he
  obtain⟨rfl,rfl⟩:=he
  exact .pure (ZaG hF x) hW
 | assign x =>
  simp only[cOp,zaa]at hc
  subst hc
  simp only[AOp.ev,zaa,zaf]at he
  obtain⟨rfl,rfl⟩:=he
  exact .pure (ZaG hF x) hW
 | pick c x y =>
  simp only[cOp,zaa]at hc
  subst hc
  exact pick_ok (F:=F) hW (ZaG hF c) (ZaG hF x) (ZaG hF y) he
 | alloc E =>
  simp only[cOp]at hc
  obtain⟨z,hz,hc⟩:=Zao hc
  simp only[zaa]at hc
  subst hc
  obtain⟨i,hi,hz⟩:=Zhk hz
  have:=box_ok (P:=P) (F:=F) (E:=E) hW (ZwB (eqT.vec E) z) he
  obtain⟨u,w',g',h1,h2⟩:=this
  refine Zbv.does ⟨u,w',g',?_,h2⟩
  simp[Instr.box]at h1
  simp[Instr.alloc,zeroValue,typeInfo,hi,hz,h1]
 | box E x =>
  simp only[cOp,zaa]at hc
  subst hc
  exact(box_ok (P:=P) (F:=F) hW (ZaG hF x) he).does
 | build t parts =>
  simp only[cOp]at hc
  obtain⟨z,hz,hc⟩:=Zao hc
  obtain⟨zc,hzc,hc⟩:=Zao hc
  obtain⟨d,hu,hc⟩:=Zao hc
  obtain⟨i,hi,hz⟩:=Zhk hz
  cases d with
  | struct fs =>
   simp only at hc
   split at hc
   ·rename_i hall
    obtain⟨ps,hps,hc⟩:=Zao hc
    simp only[zaa]at hc
    subst hc
    exact(bld_ok (P:=P) (F:=F) hF hW hi hz hzc (.inl ⟨fs,hu,hall,hps⟩) he).does
   ·cases hc
  | array n e =>
   simp only at hc
   obtain⟨s,hs,hc⟩:=Zao hc
   obtain⟨ps,hps,hc⟩:=Zao hc
   simp only[zaa]at hc
   subst hc
   exact(bld_ok (P:=P) (F:=F) hF hW hi hz hzc (.inr ⟨n,e,s,hu,hs,hps⟩) he).does
  | _=>cases hc
 | buildSlice t len parts =>
  simp only[cOp]at hc
  obtain⟨d,hu,hc⟩:=Zao hc
  cases d with
  | slice e =>
   simp only at hc
   obtain⟨s,hs,hc⟩:=Zao hc
   obtain⟨z,hz,hc⟩:=Zao hc
   split at hc
   ·rename_i hcd
    obtain⟨i,hi,hz⟩:=Zhk hz
    obtain⟨i',hi',hs⟩:=info_of hs
    rw[hi]at hi'
    injection hi' with hi'
    subst hi'
    split at hc
    ·simp only[zaa]at hc
     subst hc
     exact(bsv_ok (P:=P) (F:=F) hF hW hu hi hz hs hcd.2.1 hcd.1 hcd.2.2.1 hcd.2.2.2 he).does
    ·simp only[zaa]at hc
     subst hc
     exact(bsl_ok (P:=P) (F:=F) hF hW hu hi hz hs hcd.2.1 hcd.1 hcd.2.2.1 hcd.2.2.2 he).does
   ·cases hc
  | _=>cases hc
 | load t x =>
  simp only[cOp]at hc
  obtain⟨s,hs,hc⟩:=Zao hc
  obtain⟨ag,ha,hc⟩:=Zao hc
  simp only[zaa]at hc
  subst hc
  obtain⟨rfl,r,h1,h2⟩:=ld_ok (P:=P) (F:=F) hW hs ha (ZaG hF x) he
  exact .still h1 h2 hW
 | store t x y =>
  simp only[cOp]at hc
  obtain⟨s,hs,hc⟩:=Zao hc
  simp only[zaa]at hc
  subst hc
  obtain⟨rfl,h⟩:=st_ok (P:=P) (F:=F) hW hs (ZaG hF x) (ZaG hF y) he
  exact h.does
 | nilCheck x =>
  simp only[cOp,zaa]at hc
  subst hc
  exact nck_ok (F:=F) hW (ZaG hF x) he _ x rfl rfl
 | binOp op t x y t' =>
  simp only[cOp]at hc
  obtain⟨d,hu,hc⟩:=Zao hc
  cases d with
  | int k =>
   simp only[zaa]at hc
   subst hc
   exact(bin_ok (P:=P) (F:=F) (t:=t) hW (ZaG hF x) (ZaG hF y) he).does
  | string =>
   simp only[zaa]at hc
   subst hc
   exact(bin_ok (P:=P) (F:=F) (t:=t) hW (ZaG hF x) (ZaG hF y) he).does
  | bool =>
   cases op<;>simp only[zaa]at hc<;>first
    | (subst hc;exact(bnb_ok (neg:=false) (P:=P) (F:=F) hW hu (ZaG hF x) (ZaG hF y) he).does)
    | (subst hc;exact(bnb_ok (neg:=true) (P:=P) (F:=F) hW hu (ZaG hF x) (ZaG hF y) he).does)
    | cases hc
  | pointer e =>
   cases op<;>simp only[zaa]at hc<;>first
    | (subst hc;exact(ZgF (neg:=false) (P:=P) (F:=F) hW hu (.inl ⟨rfl,_,rfl⟩) (ZaG hF x) (ZaG hF y) he).does)
    | (subst hc;exact(ZgF (neg:=true) (P:=P) (F:=F) hW hu (.inl ⟨rfl,_,rfl⟩) (ZaG hF x) (ZaG hF y) he).does)
    | cases hc
  | map k e =>
   cases op<;>simp only[zaa]at hc<;>first
    | (subst hc;exact(ZgF (neg:=false) (P:=P) (F:=F) hW hu (.inr (.inl ⟨rfl,_,_,rfl⟩)) (ZaG hF x) (ZaG hF y) he).does)
    | (subst hc;exact(ZgF (neg:=true) (P:=P) (F:=F) hW hu (.inr (.inl ⟨rfl,_,_,rfl⟩)) (ZaG hF x) (ZaG hF y) he).does)
    | cases hc
  | slice e =>
   simp only at hc
   split at hc
   ·rename_i hnil
    have hy:a.eval y=.slice none 0 0:=by
     unfold isNilC at hnil
     split at hnil
     ·rfl
     ·cases hnil
    cases op<;>simp only[ZkL,zaa]at hc<;>first
     | (subst hc;have:=(eqs_ok (neg:=false) (P:=P) (F:=F) (ox:=x) (oy:=y) hW hu (ZaG hF x) he).does;rw[<- hy]at this;exact this)
     | (subst hc;have:=(eqs_ok (neg:=true) (P:=P) (F:=F) (ox:=x) (oy:=y) hW hu (ZaG hF x) he).does;rw[<- hy]at this;exact this)
     | cases hc
   ·cases hc
  | func p q z =>
   cases op<;>simp only[zaa]at hc<;>first
    | (subst hc;exact(ZgF (neg:=false) (P:=P) (F:=F) hW hu (.inr (.inr ⟨rfl,_,_,_,rfl⟩)) (ZaG hF x) (ZaG hF y) he).does)
    | (subst hc;exact(ZgF (neg:=true) (P:=P) (F:=F) hW hu (.inr (.inr ⟨rfl,_,_,_,rfl⟩)) (ZaG hF x) (ZaG hF y) he).does)
    | cases hc
  | interface ms =>
   simp only at hc
   split at hc
   ·rename_i hnil
    cases op<;>simp only[ZzP,zaa]at hc<;>first
     | (subst hc;exact(eqi_ok (neg:=false) (P:=P) (F:=F) hW hu hnil (ZaG hF x) (ZaG hF y) he).does)
     | (subst hc;exact(eqi_ok (neg:=true) (P:=P) (F:=F) hW hu hnil (ZaG hF x) (ZaG hF y) he).does)
     | cases hc
   ·cases hc
  | struct fs =>
   simp only at hc
   split at hc
   ·cases hc
   ·rename_i hg
    obtain⟨ks,hks,hc⟩:=Zao hc
    cases op<;>simp only[zaa]at hc<;>first
     | (subst hc;exact(Zke (neg:=false) (P:=P) (F:=F) hW (hE t ks hks) (by simpa using hg) (ZaG hF x) (ZaG hF y) he).does)
     | (subst hc;exact(Zke (neg:=true) (P:=P) (F:=F) hW (hE t ks hks) (by simpa using hg) (ZaG hF x) (ZaG hF y) he).does)
     | cases hc
  | array n e =>
   simp only at hc
   split at hc
   ·cases hc
   ·rename_i hg
    obtain⟨ks,hks,hc⟩:=Zao hc
    cases op<;>simp only[zaa]at hc<;>first
     | (subst hc;exact(Zke (neg:=false) (P:=P) (F:=F) hW (hE t ks hks) (by simpa using hg) (ZaG hF x) (ZaG hF y) he).does)
     | (subst hc;exact(Zke (neg:=true) (P:=P) (F:=F) hW (hE t ks hks) (by simpa using hg) (ZaG hF x) (ZaG hF y) he).does)
     | cases hc
  | _=>cases hc
 | unOp op t x =>
  simp only[cOp,zaa]at hc
  subst hc
  exact(un_ok (P:=P) (F:=F) hW (ZaG hF x) he).does
 | convert src dst x =>
  simp only[cOp]at hc
  obtain⟨d1,h1,hc⟩:=Zao hc
  obtain⟨d2,h2,hc⟩:=Zao hc
  split at hc
  ·simp only[zaa]at hc
   subst hc
   exact(cnv_ok (P:=P) (F:=F) hW h1 h2 (ZaG hF x) he).does
  ·simp only[zaa]at hc
   subst hc
   exact(cvs_ok (P:=P) (F:=F) hW h1 h2 (ZaG hF x) he).does
  ·split at hc
   ·rename_i h3
    simp only[zaa]at hc
    subst hc
    exact(sob_ok (P:=P) (F:=F) hW h1 h2 h3 (ZaG hF x) he).does
   ·cases hc
  ·cases hc
 | makeFunc fn first caps =>
  cases fn with
  | func f =>
   simp only[cOp,zaa]at hc
   subst hc
   have:=mkf_ok (P:=P) (F:=F) hW (Zl3 hF first.toList) (Zl3 hF caps.toList) he
   have e1:(first.toList.map a.eval).toArray=first.map a.eval:=by apply za9;simp
   have e2:(caps.toList.map a.eval).toArray=caps.map a.eval:=by apply za9;simp
   rw[e1,e2]at this
   exact this.does
  | _=>cases hc
 | makeSlice t l c =>
  simp only[cOp]at hc
  obtain⟨d,hu,hc⟩:=Zao hc
  cases d with
  | slice e =>
   simp only at hc
   obtain⟨i,hi,hc⟩:=Zao hc
   obtain⟨z,hz,hc⟩:=Zao hc
   obtain⟨zc,hzc,hc⟩:=Zao hc
   split at hc
   ·rename_i hcd
    simp only[zaa]at hc
    subst hc
    exact(mks_ok (P:=P) (F:=F) hW hu hi hz hzc hcd.1 hcd.2 (ZaG hF l) (ZaG hF c) he).does
   ·cases hc
  | _=>cases hc
 | slice t x lo hi mx =>
  simp only[cOp]at hc
  obtain⟨d,hu,hc⟩:=Zao hc
  cases d with
  | slice e =>
   simp only at hc
   obtain⟨s,hs,hc⟩:=Zao hc
   split at hc
   ·cases hc
   ·rename_i hmh
    simp only[zaa]at hc
    subst hc
    exact(slc_ok (P:=P) (F:=F) hF hW hu hs hmh (ZaG hF x) he).does
  | array n e =>
   simp only at hc
   obtain⟨s,hs,hc⟩:=Zao hc
   split at hc
   ·cases hc
   ·rename_i hmh
    simp only[zaa]at hc
    subst hc
    exact(sla_ok (P:=P) (F:=F) hF hW hu hs hmh (ZaG hF x) he).does
  | string =>
   cases mx with
   | none =>
    simp only[zaa]at hc
    subst hc
    exact(slS_ok (P:=P) (F:=F) hF hW hu (ZaG hF x) he).does
   | some y=>cases hc
  | _=>cases hc
 | fieldAddr s x f =>
  simp only[cOp]at hc
  obtain⟨d,hu,hc⟩:=Zao hc
  cases d with
  | struct fs =>
   simp only at hc
   obtain⟨fd,hf,hc⟩:=Zao hc
   obtain⟨sz,hs,hc⟩:=Zao hc
   split at hc
   ·cases hc
   ·rename_i h0
    simp only[zaa]at hc
    subst hc
    exact(fla_ok (P:=P) (F:=F) hW hu hf hs h0 (ZaG hF x) he).does
  | _=>cases hc
 | field t x f =>
  simp only[cOp]at hc
  obtain⟨d,hu,hc⟩:=Zao hc
  cases d with
  | struct fs =>
   simp only at hc
   obtain⟨fd,hf,hc⟩:=Zao hc
   obtain⟨s,hs,hc⟩:=Zao hc
   obtain⟨ag,ha,hc⟩:=Zao hc
   simp only[zaa]at hc
   subst hc
   exact(fld_ok (P:=P) (F:=F) hW hu hf hs ha (ZaG hF x) he).does
  | _=>cases hc
 | indexAddr t x i =>
  simp only[cOp]at hc
  obtain⟨d,hu,hc⟩:=Zao hc
  cases d with
  | slice e =>
   simp only at hc
   obtain⟨s,hs,hc⟩:=Zao hc
   simp only[zaa]at hc
   subst hc
   exact(ixa_ok (P:=P) (F:=F) hW hu hs (ZaG hF x) (ZaG hF i) he).does
  | array n e =>
   simp only at hc
   obtain⟨s,hs,hc⟩:=Zao hc
   simp only[zaa]at hc
   subst hc
   exact(ixA_ok (P:=P) (F:=F) hW hu hs (ZaG hF x) (ZaG hF i) he).does
  | _=>cases hc
 | index t x i =>
  simp only[cOp]at hc
  obtain⟨d,hu,hc⟩:=Zao hc
  cases d with
  | array n e =>
   simp only at hc
   obtain⟨s,hs,hc⟩:=Zao hc
   obtain⟨ag,ha,hc⟩:=Zao hc
   simp only[zaa]at hc
   subst hc
   exact(ixv_ok (P:=P) (F:=F) hW hu hs ha (ZaG hF x) (ZaG hF i) he).does
  | string =>
   simp only[zaa]at hc
   subst hc
   exact(ixs_ok (P:=P) (F:=F) hW hu (ZaG hF x) (ZaG hF i) he).does
  | _=>cases hc
 | lookup t m k ok =>
  simp only[cOp]at hc
  obtain⟨d,hu,hc⟩:=Zao hc
  cases d with
  | map kt et =>
   simp only at hc
   obtain⟨kk,hk,hc⟩:=Zao hc
   obtain⟨z,hz,hc⟩:=Zao hc
   simp only[zaa]at hc
   subst hc
   exact(lkp_ok (P:=P) (F:=F) hW hu (ZfZ hE hk) hz (ZaG hF m) (ZaG hF k) he).does
  | _=>cases hc
 | mapUpdate t m k x =>
  simp only[cOp]at hc
  obtain⟨d,hu,hc⟩:=Zao hc
  cases d with
  | map kt et =>
   simp only at hc
   obtain⟨kk,hk,hc⟩:=Zao hc
   simp only[zaa]at hc
   subst hc
   obtain⟨rfl,h⟩:=mup_ok (P:=P) (F:=F) hW hu (ZfZ hE hk) (ZaG hF m) (ZaG hF k) (ZaG hF x) he
   exact h.does
  | _=>cases hc
 | insert t m k x =>
  simp only[cOp]at hc
  obtain⟨d,hu,hc⟩:=Zao hc
  cases d with
  | map kt et =>
   simp only at hc
   obtain⟨kk,hk,hc⟩:=Zao hc
   simp only[zaa]at hc
   subst hc
   obtain⟨rfl,h⟩:=mup_ok (P:=P) (F:=F) hW hu (ZfZ hE hk) (ZaG hF m) (ZaG hF k) (ZaG hF x) he
   exact h.does
  | _=>cases hc
 | mapEntry t m k =>
  simp only[cOp]at hc
  obtain⟨d,hu,hc⟩:=Zao hc
  cases d with
  | map kt et =>
   simp only at hc
   obtain⟨kk,hk,hc⟩:=Zao hc
   obtain⟨z,hz,hc⟩:=Zao hc
   simp only[zaa]at hc
   subst hc
   exact(men_ok (P:=P) (F:=F) hW hu (ZfZ hE hk) hz (ZaG hF m) (ZaG hF k) he).does
  | _=>cases hc
 | entryStore t m s x =>
  simp only[cOp,zaa]at hc
  subst hc
  obtain⟨rfl,h⟩:=est_ok (P:=P) (F:=F) (t:=t) hW (ZaG hF m) (ZaG hF s) (ZaG hF x) he
  exact h.does
 | range t x =>
  simp only[cOp]at hc
  obtain⟨d,hu,hc⟩:=Zao hc
  cases d with
  | map kt et =>
   simp only[zaa]at hc
   subst hc
   exact(rng_ok (P:=P) (F:=F) hW hu (ZaG hF x) he).does
  | _=>cases hc
 | entry x =>
  simp only[cOp,zaa]at hc
  subst hc
  exact(ent_ok (P:=P) (F:=F) hW (ZaG hF x) he).does
 | next x s =>
  simp only[cOp,zaa]at hc
  subst hc
  obtain⟨v',a',H2,w',g',k1,⟨rfl,rfl⟩,k3⟩:=nxt_ok (P:=P) (ty:=type) hW (ZaG hF x) (Zj7.of_ev (K:=fun v2 H2=>v2=v/\H2=H') he ⟨rfl,rfl⟩)
  exact Zbv.does ⟨v',w',g',k1,k3⟩
 | makeMap t r =>
  cases r with
  | none =>
   simp only[cOp]at hc
   obtain⟨d,hu,hc⟩:=Zao hc
   cases d with
   | map kt et =>
    simp only at hc
    obtain⟨kk,hk,hc⟩:=Zao hc
    simp only[zaa]at hc
    subst hc
    exact(mkm_ok (P:=P) (F:=F) (t:=t) hW he).does
   | _=>cases hc
  | some x=>simp[cOp]at hc
 | extract x i =>
  simp only[cOp,zaa]at hc
  subst hc
  exact(ext_ok (P:=P) (F:=F) hW (ZaG hF x) he).does
 | call c =>
  obtain⟨callee,args,argTypes⟩:=c
  cases callee with
  | value fo =>
   simp only[cOp]at hc
   rcases ZCA hc with rfl|⟨f,fn,x,y,rfl,hf,hargs,hok,rfl⟩
   ·cases he
   ·obtain rfl:args=#[x,y]:=by apply za9;simpa using hargs
    obtain⟨k1,rfl,rfl⟩:=ovl_ok (P:=P) (F:=F) hW hf hok (ZaG hF x) (ZaG hF y) he
    refine⟨_,_,w,g,?_,.inl rfl,⟨.sc _,hW,.refl _ _ _⟩⟩
    simp[execOp,resolve,Deferred.ofValue,invoke,show a.eval (.func f)=Value.func (.func f) #[] #[]from rfl,k1]
  | invoke r m=>cases hc
  | builtin bt =>
   have hx1:∀{x:Operand},args.toList=[x]->args=#[x]:=fun h=>by apply za9;simpa using h
   have hx2:∀{x y:Operand},args.toList=[x,y]->args=#[x,y]:=fun h=>by apply za9;simpa using h
   have ht1:∀{x:TypeId},argTypes.toList=[x]->argTypes=#[x]:=fun h=>by apply za9;simpa using h
   have ht2:∀{x y:TypeId},argTypes.toList=[x,y]->argTypes=#[x,y]:=fun h=>by apply za9;simpa using h
   cases bt with
   | len =>
    simp only[cOp]at hc
    split at hc
    ·rename_i x t hx ht
     obtain rfl:=hx1 hx
     obtain rfl:=ht1 ht
     obtain⟨d,hu,hc⟩:=Zao hc
     have fin:Zbv P g H w (Builtin.len_ #[t] type #[a.eval x]) v H'->Does P g H w (execOp a.eval ⟨dst,.call ⟨.builtin .len,#[x],#[t]⟩,type,pos,after,guard⟩) v H':=by
      intro h
      obtain⟨u,w',g',k1,k2⟩:=h
      refine⟨_,u,w',g',?_,.inl rfl,k2⟩
      simp[execOp,resolve,invoke,builtin,k1]
     cases d with
     | slice e =>
      simp only[zaa]at hc
      subst hc
      exact fin (ZhC (P:=P) (F:=F) hW hu (.inl ⟨e,rfl⟩) (ZaG hF x) he)
     | string =>
      simp only[zaa]at hc
      subst hc
      exact fin (ZhC (P:=P) (F:=F) hW hu (.inr rfl) (ZaG hF x) he)
     | array n e =>
      simp only[zaa]at hc
      subst hc
      exact fin (lnA_ok (P:=P) (F:=F) hW hu he)
     | map k e =>
      simp only[zaa]at hc
      subst hc
      exact fin (mln_ok (P:=P) (F:=F) hW hu (ZaG hF x) he)
     | _=>cases hc
    ·cases hc
   | append =>
    simp only[cOp]at hc
    split at hc
    ·rename_i s x t t' hx ht
     obtain rfl:=hx2 hx
     obtain rfl:=ht2 ht
     obtain⟨d,hu,hc⟩:=Zao hc
     cases d with
     | slice e =>
      simp only at hc
      obtain⟨i,hi,hc⟩:=Zao hc
      obtain⟨z,hz,hc⟩:=Zao hc
      split at hc
      ·rename_i hcd
       split at hc
       ·obtain⟨zc,_,hc⟩:=Zao hc
        simp only[zaa]at hc
        subst hc
        cases he
       simp only[zaa]at hc
       subst hc
       obtain⟨rfl,h0,hzs⟩:=hcd
       obtain⟨u,w',g',k1,k2⟩:=app_ok (P:=P) (F:=F) (ty:=type) hW hu hi hz h0 hzs (ZaG hF s) (ZaG hF x) he
       refine⟨_,u,w',g',?_,.inl rfl,k2⟩
       simp[execOp,resolve,invoke,builtin,k1]
      ·split at hc
       ·split at hc
        ·obtain⟨zc,_,hc⟩:=Zao hc
         simp only[zaa]at hc
         subst hc
         cases he
        ·cases hc
       ·cases hc
     | _=>cases hc
    ·cases hc
   | cap =>
    simp only[cOp]at hc
    split at hc
    ·rename_i x t hx ht
     obtain rfl:=hx1 hx
     obtain rfl:=ht1 ht
     obtain⟨d,hu,hc⟩:=Zao hc
     cases d with
     | slice e =>
      simp only[zaa]at hc
      subst hc
      obtain⟨u,w',g',k1,k2⟩:=cap_ok (P:=P) (F:=F) (ty:=type) hW hu (ZaG hF x) he
      refine⟨_,u,w',g',?_,.inl rfl,k2⟩
      simp[execOp,resolve,invoke,builtin,k1]
     | _=>cases hc
    ·cases hc
   | min =>
    simp only[cOp]at hc
    split at hc
    ·rename_i x y hx
     obtain rfl:=hx2 hx
     simp only[zaa]at hc
     subst hc
     obtain⟨u,w',g',k1,k2⟩:=mm_ok (P:=P) (F:=F) (ts:=argTypes) (ty:=type) hW (ZaG hF x) (ZaG hF y) he
     refine⟨_,u,w',g',?_,.inl rfl,k2⟩
     simp only[cond_false]at k1
     simp[execOp,resolve,invoke,builtin,k1]
    ·cases hc
   | max =>
    simp only[cOp]at hc
    split at hc
    ·rename_i x y hx
     obtain rfl:=hx2 hx
     simp only[zaa]at hc
     subst hc
     obtain⟨u,w',g',k1,k2⟩:=mm_ok (P:=P) (F:=F) (ts:=argTypes) (ty:=type) hW (ZaG hF x) (ZaG hF y) he
     refine⟨_,u,w',g',?_,.inl rfl,k2⟩
     simp only[cond_true]at k1
     simp[execOp,resolve,invoke,builtin,k1]
    ·cases hc
   | clear =>
    simp only[cOp]at hc
    split at hc
    ·rename_i m t hx ht
     obtain rfl:=hx1 hx
     have hts:argTypes=#[t]:=by apply za9;simpa using ht
     subst hts
     obtain⟨d,hu,hc⟩:=Zao hc
     cases d with
     | map kt et =>
      simp only[zaa]at hc
      subst hc
      obtain⟨u,w',g',k1,k2⟩:=clr_ok (P:=P) (F:=F) (ty:=type) hW hu (ZaG hF m) he
      refine⟨_,u,w',g',?_,.inl rfl,k2⟩
      simp[execOp,resolve,invoke,builtin,k1]
     | slice e =>
      simp only at hc
      split at hc
      ·rename_i hs hz
       simp only[zaa]at hc
       subst hc
       obtain⟨u,w',g',k1,k2⟩:=clv_ok (P:=P) (F:=F) (ty:=type) hW hu hs hz (ZaG hF m) he
       refine⟨_,u,w',g',?_,.inl rfl,k2⟩
       simp[execOp,resolve,invoke,builtin,k1]
      ·cases hc
     | _=>cases hc
    ·cases hc
   | copy =>
    simp only[cOp]at hc
    split at hc
    ·rename_i m k t t2 hx ht
     obtain rfl:=hx2 hx
     have hts:argTypes=#[t,t2]:=by apply za9;simpa using ht
     subst hts
     obtain⟨d,hu,hc⟩:=Zao hc
     cases d with
     | slice e =>
      simp only at hc
      obtain⟨s,hs,hc⟩:=Zao hc
      simp only[zaa]at hc
      subst hc
      obtain⟨u,w',g',k1,k2⟩:=cpy_ok (P:=P) (F:=F) (ty:=type) (t2:=t2) hW hu hs (ZaG hF m) (ZaG hF k) he
      refine⟨_,u,w',g',?_,.inl rfl,k2⟩
      simp[execOp,resolve,invoke,builtin,k1]
     | _=>cases hc
    ·cases hc
   | delete =>
    simp only[cOp]at hc
    split at hc
    ·rename_i m k t ts hx ht
     obtain rfl:=hx2 hx
     have hts:argTypes=(t :: ts).toArray:=by apply za9;simpa using ht
     subst hts
     obtain⟨d,hu,hc⟩:=Zao hc
     cases d with
     | map kt et =>
      simp only at hc
      obtain⟨kk,hk,hc⟩:=Zao hc
      simp only[zaa]at hc
      subst hc
      obtain⟨u,w',g',k1,k2⟩:=del_ok (P:=P) (F:=F) (ty:=type) (t2:=t) hW hu (ZfZ hE hk) (ZaG hF m) (ZaG hF k) he ts
      refine⟨_,u,w',g',?_,.inl rfl,k2⟩
      simp[execOp,resolve,invoke,builtin,k1]
     | _=>cases hc
    ·cases hc
   | _=>cases hc
 | _=>cases hc
theorem ZhI {eqT:EqT} (hE:∀t ks,eqT t=some ks->Ziv P t ks) (o:Oper) {v:AV} (hF:FR g w N F a) (hW:WR g H w) (he:AOp.ev F H (cOpB P eqT o.op)=some (v,H')):Does P g H w (execOp a.eval o) v H':=by
 unfold cOpB at he
 split at he
 ·rename_i ao hc;exact op_sound hE o hc hF hW he
 ·cases he
end
structure AI where
 gd:Option (Nat×Bool)
 dst:Option Nat
 op:AOp
def AI.want (i:AI) (F:Fr):Option Bool:=match i.gd with
 | none=>some true
 | some (s,b)=>match Fr.get F s with
  | .sc (.bool c)=>some (c == b)
  | .sc _=>some false
  | _=>none
def Zmq (P:Program) (f:FuncId):Prop:=∃fn,P.funcs[f]?=some fn/\fn.body.isNone=false/\(fn.name == "runtime.NumGoroutine")=false
structure Prg where
 p:Program
 pan:Value->Zaa->Prop
instance:Coe Program Prg:=⟨fun p=>⟨p,fun _ _=>False⟩⟩
def EndR (P:Prg) (g:Gh) (H:Zaa) (w:World) (R:AV->Zaa->Prop) (e:Ending) (w':World):Prop :=
 (∃v r H' g',e=.returned v/\R r H'/\VR g' w' r v/\WR g' H' w'/\Stp g H w g' H' w')\/∃u H' g',e=.panicked [{ v:=u,recovered:=false }]/\P.pan u H'/\WR g' H' w'/\Stp g H w g' H' w'
def Zay (P:Prg) (f:FuncId) (args:List AV) (H:Zaa) (R:AV->Zaa->Prop):Prop :=
 Zmq P.p f/\∀(g:Gh) (w:World) (vs:List Value),WR g H w->VRs g w args vs->EnvP g.RO w->Calls P.p f vs.toArray w (EndR P g H w R)
theorem Zay.ZON {P P':Prg} {f:FuncId} {args:List AV} {H:Zaa} {R R':AV->Zaa->Prop} (h:Zay P f args H R) (hp:P.p=P'.p) (hr:∀r H',R r H'->R' r H') (hq:∀u H',P.pan u H'->P'.pan u H'):Zay P' f args H R':=by
 obtain⟨p,pan⟩:=P
 obtain⟨p',pan'⟩:=P'
 have hp:p=p':=hp
 subst hp
 refine⟨h.1,fun g w vs hW hV hEn=>(h.2 g w vs hW hV hEn).mono fun e w' he=>?_⟩
 rcases he with⟨v,r,H',g',h1,h2,h3⟩|⟨u,H',g',h1,h2,h3⟩
 ·exact .inl ⟨v,r,H',g',h1,hr r H' h2,h3⟩
 ·exact .inr ⟨u,H',g',h1,hq u H' h2,h3⟩
theorem Zay.mono {P:Prg} {f:FuncId} {args:List AV} {H:Zaa} {R R':AV->Zaa->Prop} (h:Zay P f args H R) (hr:∀r H',R r H'->R' r H'):Zay P f args H R' :=
 h.ZON rfl hr fun _ _ h=>h
theorem Zay.up {p:Program} {pan:Value->Zaa->Prop} {f:FuncId} {args:List AV} {H:Zaa} {R:AV->Zaa->Prop} (h:Zay p f args H R):Zay ⟨p,pan⟩ f args H R :=
 h.ZON rfl (fun _ _ h=>h) fun _ _ h=>h.elim
def AI.step (P:Prg) (i:AI) (F:Fr) (H:Zaa) (K:Fr->Zaa->Prop):Prop:=match i.op with
 | .call f args=>match f.ev F with
  | .fn h first caps=>Zay P h (first++evs F args++caps) H fun r H'=>K (Fr.put F i.dst r) H'
  | _=>False
 | .apv E sz bytes zero s x=>Zk3 H E sz bytes zero (s.ev F) (x.ev F) fun r H'=>K (Fr.put F i.dst r) H'
 | .nxt str x=>Zj7 H str (x.ev F) fun r H'=>K (Fr.put F i.dst r) H'
 | op=>match op.ev F H with
  | some (v,H')=>K (Fr.put F i.dst v) H'
  | none=>False
def Zau (P:Prg):List AI->Fr->Zaa->(Fr->Zaa->Prop)->Prop
 | [],F,H,K=>K F H
 | i :: l,F,H,K=>match i.want F with
  | some true=>i.step P F H fun F' H'=>Zau P l F' H' K
  | some false=>Zau P l (Fr.put F i.dst ZaO) H K
  | none=>False
theorem AI.Zee {P : Prg} {i : AI} {F : Fr} {H : Zaa} {K K' : Fr -> Zaa -> Prop} (h : i.step P F H K) (hk : ∀ F H, K F H -> K' F H) : i.step P F H K' := by
  obtain ⟨gd, dst, op⟩ := i
  cases op <;> simp only [AI.step] at h ⊢ <;> (first
    | exact h.mono fun r H' hr => hk _ _ hr
    | (split at h
       · exact h.mono fun r H' hr => hk _ _ hr
       · exact h)
    | (split at h
       · exact hk _ _ h
       · exact h))
def cAI (P:Program) (eqT:EqT) (N:Nat) (ops:Array Oper) (o:Oper):Option AI:=do
 let op:=cOpB P eqT o.op
 if o.dst.all (·<N) then
  match o.guard with
  | none=>some ⟨none,o.dst,op⟩
  | some (j,b)=>do
   let oj <- ops[j]?
   let s <- oj.dst
   if s<N then some ⟨some (s,b),o.dst,op⟩ else none
 else none
section
variable {P:Program} {g g':Gh} {H H':Zaa} {w w':World} {N:Nat} {F:Fr} {a:Act} {eqT:EqT} {ops:Array Oper} {o:Oper} {i:AI}
theorem ZjT (h:cAI P eqT N ops o=some i):cOpB P eqT o.op=i.op/\i.dst=o.dst/\(∀k,o.dst=some k->k<N)/\((o.guard=none/\i.gd=none)\/∃j b oj s,o.guard=some (j,b)/\ops[j]?=some oj/\oj.dst=some s/\s<N/\i.gd=some (s,b)):=by
 unfold cAI at h
 have hop:cOpB P eqT o.op=cOpB P eqT o.op:=rfl
 simp only at h
 split at h
 ·rename_i hd
  have hdst:∀k,o.dst=some k->k<N:=fun k hk=>by rw[hk]at hd;simpa using hd
  split at h
  ·rename_i hg
   simp only[zaa]at h
   subst h
   exact⟨hop,rfl,hdst,.inl ⟨hg,rfl⟩⟩
  ·rename_i j b hg
   obtain⟨oj,hoj,h⟩:=Zao h
   obtain⟨s,hs,h⟩:=Zao h
   split at h
   ·rename_i hlt
    simp only[zaa]at h
    subst h
    exact⟨hop,rfl,hdst,.inr ⟨j,b,oj,s,hg,hoj,hs,hlt,rfl⟩⟩
   ·cases h
 ·cases h
theorem Zd0 (hF:FR g w N F a) (h:cAI P eqT N ops o=some i) {t:Bool} (hw:i.want F=some t):Region.wanted o (yielded ops a.tmps)=t:=by
 obtain⟨_,_,_,hg⟩:=ZjT h
 unfold AI.want at hw
 rcases hg with⟨h1,h2⟩|⟨j,b,oj,s,h1,h2,h3,h4,h5⟩
 ·rw[h2]at hw
  injection hw with hw
  subst hw
  simp[Region.wanted,h1]
 ·rw[h5]at hw
  simp only at hw
  have hs:=hF.get s
  have hlt:s<a.tmps.size:=by rw[hF.size];exact h4
  have hy:yielded ops a.tmps j=match a.tmps.getD s undef with|.bool c=>some c|_=>none:=by
   have hgd:a.tmps.getD s undef=a.tmps[s]:=by simp[Array.getD,hlt]
   unfold yielded
   rw[h2,hgd]
   simp only[Option.bind_some,h3,zal hlt]
   generalize a.tmps[s]=q
   cases q<;>rfl
  unfold Region.wanted
  rw[h1]
  simp only[hy]
  generalize a.tmps.getD s undef=u at hs
  split at hw
  ·rename_i c hc
   rw[hc]at hs
   cases hs
   injection hw with hw
  ·rename_i v hnb hc
   rw[hc]at hs
   cases hs
   injection hw with hw
   subst hw
   cases u<;>simp
   rename_i c
   exact absurd rfl (hnb c)
  ·cases hw
def KR (N:Nat) (g:Gh) (H:Zaa) (w:World) (K:Fr->Zaa->Prop) (a':Act) (w':World):Prop:=∃F' H' g',K F' H'/\FR g' w' N F' a'/\WR g' H' w'/\Stp g H w g' H' w'
theorem cOp_apv {op : Op} {E sz bytes : Nat} {zero : List AV} {s x : AX} (hop : cOp P eqT op = some (.apv E sz bytes zero s x)) : ∃ (os ox : Operand) (t t' : TypeId) (z : Value) (ti : TypeInfo) (args : Array Operand) (ats : Array TypeId) (zc : List AV), op = .call ⟨.builtin .append, args, ats⟩ /\ args.toList = [os, ox] /\ ats.toList = [t, t'] /\
    P.underlying t = some (.slice E) /\ P.info? E = some ti /\ ti.zero = some z /\ 0 < ti.size /\ z.cells.size = ti.size /\ (Zb5 z).cells = some zc /\ sz = ti.size /\ s = cX os /\ x = cX ox /\
    ((t' = t /\ zero = zc /\ bytes = ti.bytes) \/ ∃ kn, P.underlying t' = some (.int kn) /\ zero = zc ++ [.any] /\ bytes = ti.bytes + 1152921504606846976) := by
  cases op with
  | call c =>
    obtain ⟨callee, ar, ats⟩ := c
    cases callee with
    | value fo =>
      simp only [cOp] at hop
      rcases ZCA hop with h | ⟨_, _, _, _, _, _, _, _, h⟩ <;> cases h
    | invoke r m => cases hop
    | builtin bt =>
      cases bt with
      | append =>
        simp only [cOp] at hop
        split at hop
        · rename_i s' x' t t' hx ht
          obtain ⟨d, hu, hop⟩ := Zao hop
          cases d with
          | slice e =>
            simp only at hop
            obtain ⟨i, hi, hop⟩ := Zao hop
            obtain ⟨z, hz, hop⟩ := Zao hop
            split at hop
            · rename_i hcd
              split at hop
              · obtain ⟨zc, hzc, hop⟩ := Zao hop
                simp only [zaa, AOp.apv.injEq] at hop
                obtain ⟨rfl, rfl, rfl, rfl, rfl, rfl⟩ := hop
                obtain ⟨rfl, h0, hzs⟩ := hcd
                exact ⟨s', x', t, _, z, i, ar, ats, zc, rfl, hx, ht, hu, hi, hz, h0, hzs, hzc, rfl, rfl, rfl, .inl ⟨rfl, rfl, rfl⟩⟩
              · cases hop
            · split at hop
              · rename_i kn hkn
                split at hop
                · rename_i hcd
                  obtain ⟨zc, hzc, hop⟩ := Zao hop
                  simp only [zaa, AOp.apv.injEq] at hop
                  obtain ⟨rfl, rfl, rfl, rfl, rfl, rfl⟩ := hop
                  obtain ⟨_, h0, hzs⟩ := hcd
                  exact ⟨s', x', t, _, z, i, ar, ats, zc, rfl, hx, ht, hu, hi, hz, h0, hzs, hzc, rfl, rfl, rfl, .inr ⟨kn, hkn, rfl, rfl⟩⟩
                · cases hop
              · cases hop
          | _ => cases hop
        · cases hop
      | _ =>
        exfalso
        simp only [cOp] at hop
        first
          | cases hop
          | (split at hop
             · first
               | (obtain ⟨d, _, hop⟩ := Zao hop
                  cases d <;> simp only at hop <;> first
                    | cases hop
                    | (split at hop <;> cases hop)
                    | (obtain ⟨i, _, hop⟩ := Zao hop
                       first
                       | (obtain ⟨z, _, hop⟩ := Zao hop
                          split at hop
                          · cases hop
                          · cases hop)
                       | cases hop))
               | cases hop
             · cases hop)
  | build t parts =>
    exfalso
    simp only [cOp] at hop
    obtain ⟨z, _, hop⟩ := Zao hop
    obtain ⟨zc, _, hop⟩ := Zao hop
    obtain ⟨d, _, hop⟩ := Zao hop
    cases d <;> simp only at hop <;> first
      | cases hop
      | (split at hop
         · obtain ⟨ps, _, hop⟩ := Zao hop; cases hop
         · cases hop)
      | (obtain ⟨s, _, hop⟩ := Zao hop; obtain ⟨ps, _, hop⟩ := Zao hop; cases hop)
  | makeFunc fn first caps => exfalso; cases fn <;> simp [cOp] at hop
  | makeMap t r =>
    exfalso
    cases r with
    | none =>
      simp only [cOp] at hop
      obtain ⟨d, _, hop⟩ := Zao hop
      cases d <;> simp only at hop <;> first
        | cases hop
        | (obtain ⟨kk, _, hop⟩ := Zao hop; cases hop)
    | some x => simp [cOp] at hop
  | convert src dst x =>
    exfalso
    simp only [cOp] at hop
    obtain ⟨d1, _, hop⟩ := Zao hop
    obtain ⟨d2, _, hop⟩ := Zao hop
    split at hop <;> first | cases hop | (split at hop <;> cases hop)
  | binOp op t x y t' =>
    exfalso
    simp only [cOp] at hop
    obtain ⟨d, _, hop⟩ := Zao hop
    cases d <;> simp only at hop <;> first
      | cases hop
      | (cases op <;> cases hop)
      | (split at hop
         · cases op <;> simp [ZkL, ZzP] at hop
         · cases hop)
      | (split at hop
         · cases hop
         · obtain ⟨ks, _, hop⟩ := Zao hop
           cases op <;> cases hop)
  | slice t x lo hi mx =>
    exfalso
    simp only [cOp] at hop
    obtain ⟨d, _, hop⟩ := Zao hop
    cases d <;> simp only at hop <;> first
      | cases hop
      | (obtain ⟨s, _, hop⟩ := Zao hop
         split at hop <;> cases hop)
      | (cases mx <;> cases hop)
  | buildSlice t len parts =>
    exfalso
    simp only [cOp] at hop
    obtain ⟨d, _, hop⟩ := Zao hop
    cases d <;> simp only at hop <;> first
      | cases hop
      | (obtain ⟨s, _, hop⟩ := Zao hop
         obtain ⟨z, _, hop⟩ := Zao hop
         split at hop
         · split at hop <;> cases hop
         · cases hop)
  | makeSlice t l c =>
    exfalso
    simp only [cOp] at hop
    obtain ⟨d, _, hop⟩ := Zao hop
    cases d <;> simp only at hop <;> first
      | cases hop
      | (obtain ⟨s, _, hop⟩ := Zao hop
         obtain ⟨z, _, hop⟩ := Zao hop
         obtain ⟨zc, _, hop⟩ := Zao hop
         split at hop <;> cases hop)
  | fieldAddr s x f =>
    exfalso
    simp only [cOp] at hop
    obtain ⟨d, _, hop⟩ := Zao hop
    cases d <;> simp only at hop <;> first
      | cases hop
      | (obtain ⟨fd, _, hop⟩ := Zao hop
         obtain ⟨z, _, hop⟩ := Zao hop
         split at hop <;> cases hop)
  | _ =>
    exfalso
    simp only [cOp] at hop
    first
    | cases hop
    | (obtain ⟨d, _, hop⟩ := Zao hop
       first
       | cases hop
       | (obtain ⟨d2, _, hop⟩ := Zao hop; cases hop)
       | (cases d <;> simp only at hop <;> first
           | cases hop
           | (obtain ⟨s, _, hop⟩ := Zao hop
              first
              | cases hop
              | (obtain ⟨z, _, hop⟩ := Zao hop
                 first
                 | cases hop
                 | (obtain ⟨z2, _, hop⟩ := Zao hop; cases hop)))))
theorem cOp_nxt {op : Op} {str : Bool} {x : AX} (hop : cOp P eqT op = some (.nxt str x)) : ∃ ox : Operand, op = .next ox str /\ x = cX ox := by
  cases op with
  | next x s =>
    simp only [cOp, zaa, AOp.nxt.injEq] at hop
    obtain ⟨rfl, rfl⟩ := hop
    exact ⟨x, rfl, rfl⟩
  | call c =>
    obtain ⟨callee, ar, ats⟩ := c
    cases callee with
    | value fo =>
      simp only [cOp] at hop
      rcases ZCA hop with h | ⟨_, _, _, _, _, _, _, _, h⟩ <;> cases h
    | invoke r m => cases hop
    | builtin bt =>
      cases bt with
      | append =>
        simp only [cOp] at hop
        split at hop
        · rename_i s' x' t t' hx ht
          obtain ⟨d, hu, hop⟩ := Zao hop
          cases d with
          | slice e =>
            simp only at hop
            obtain ⟨i, hi, hop⟩ := Zao hop
            obtain ⟨z, hz, hop⟩ := Zao hop
            split at hop
            · rename_i hcd
              split at hop
              · obtain ⟨zc, hzc, hop⟩ := Zao hop; cases hop
              · cases hop
            · split at hop
              · split at hop
                · obtain ⟨zc, hzc, hop⟩ := Zao hop; cases hop
                · cases hop
              · cases hop
          | _ => cases hop
        · cases hop
      | _ =>
        exfalso
        simp only [cOp] at hop
        first
          | cases hop
          | (split at hop
             · first
               | (obtain ⟨d, _, hop⟩ := Zao hop
                  cases d <;> simp only at hop <;> first
                    | cases hop
                    | (split at hop <;> cases hop)
                    | (obtain ⟨i, _, hop⟩ := Zao hop
                       first
                       | (obtain ⟨z, _, hop⟩ := Zao hop
                          split at hop
                          · cases hop
                          · cases hop)
                       | cases hop))
               | cases hop
             · cases hop)
  | build t parts =>
    exfalso
    simp only [cOp] at hop
    obtain ⟨z, _, hop⟩ := Zao hop
    obtain ⟨zc, _, hop⟩ := Zao hop
    obtain ⟨d, _, hop⟩ := Zao hop
    cases d <;> simp only at hop <;> first
      | cases hop
      | (split at hop
         · obtain ⟨ps, _, hop⟩ := Zao hop; cases hop
         · cases hop)
      | (obtain ⟨s, _, hop⟩ := Zao hop; obtain ⟨ps, _, hop⟩ := Zao hop; cases hop)
  | makeFunc fn first caps => exfalso; cases fn <;> simp [cOp] at hop
  | makeMap t r =>
    exfalso
    cases r with
    | none =>
      simp only [cOp] at hop
      obtain ⟨d, _, hop⟩ := Zao hop
      cases d <;> simp only at hop <;> first
        | cases hop
        | (obtain ⟨kk, _, hop⟩ := Zao hop; cases hop)
    | some x => simp [cOp] at hop
  | convert src dst x =>
    exfalso
    simp only [cOp] at hop
    obtain ⟨d1, _, hop⟩ := Zao hop
    obtain ⟨d2, _, hop⟩ := Zao hop
    split at hop <;> first | cases hop | (split at hop <;> cases hop)
  | binOp op t x y t' =>
    exfalso
    simp only [cOp] at hop
    obtain ⟨d, _, hop⟩ := Zao hop
    cases d <;> simp only at hop <;> first
      | cases hop
      | (cases op <;> cases hop)
      | (split at hop
         · cases op <;> simp [ZkL, ZzP] at hop
         · cases hop)
      | (split at hop
         · cases hop
         · obtain ⟨ks, _, hop⟩ := Zao hop
           cases op <;> cases hop)
  | slice t x lo hi mx =>
    exfalso
    simp only [cOp] at hop
    obtain ⟨d, _, hop⟩ := Zao hop
    cases d <;> simp only at hop <;> first
      | cases hop
      | (obtain ⟨s, _, hop⟩ := Zao hop
         split at hop <;> cases hop)
      | (cases mx <;> cases hop)
  | buildSlice t len parts =>
    exfalso
    simp only [cOp] at hop
    obtain ⟨d, _, hop⟩ := Zao hop
    cases d <;> simp only at hop <;> first
      | cases hop
      | (obtain ⟨s, _, hop⟩ := Zao hop
         obtain ⟨z, _, hop⟩ := Zao hop
         split at hop
         · split at hop <;> cases hop
         · cases hop)
  | makeSlice t l c =>
    exfalso
    simp only [cOp] at hop
    obtain ⟨d, _, hop⟩ := Zao hop
    cases d <;> simp only at hop <;> first
      | cases hop
      | (obtain ⟨s, _, hop⟩ := Zao hop
         obtain ⟨z, _, hop⟩ := Zao hop
         obtain ⟨zc, _, hop⟩ := Zao hop
         split at hop <;> cases hop)
  | fieldAddr s x f =>
    exfalso
    simp only [cOp] at hop
    obtain ⟨d, _, hop⟩ := Zao hop
    cases d <;> simp only at hop <;> first
      | cases hop
      | (obtain ⟨fd, _, hop⟩ := Zao hop
         obtain ⟨z, _, hop⟩ := Zao hop
         split at hop <;> cases hop)
  | _ =>
    exfalso
    simp only [cOp] at hop
    first
    | cases hop
    | (obtain ⟨d, _, hop⟩ := Zao hop
       first
       | cases hop
       | (obtain ⟨d2, _, hop⟩ := Zao hop; cases hop)
       | (cases d <;> simp only at hop <;> first
           | cases hop
           | (obtain ⟨s, _, hop⟩ := Zao hop
              first
              | cases hop
              | (obtain ⟨z, _, hop⟩ := Zao hop
                 first
                 | cases hop
                 | (obtain ⟨z2, _, hop⟩ := Zao hop; cases hop)))))
end
def PanQ (P:Prg) (g:Gh) (H:Zaa) (w:World) (Q:Exit->Act->World->Prop):Prop:=EnvP g.RO w/\∀u H' g' (a':Act) w',Zyd g'.base w' a'.defers->P.pan u H'->WR g' H' w'->Stp g H w g' H' w'->Q (.panic [{ v:=u,recovered:=false }]) a' w'
section
variable {P:Prg} {g g':Gh} {H H':Zaa} {w w':World} {N:Nat} {F:Fr} {a:Act} {eqT:EqT} {ops:Array Oper} {o:Oper} {i:AI}
theorem ZzV {Q:Exit->Act->World->Prop} (he:EnvP g.RO w) (h:∀u H' g' (a':Act) w',Zyd g'.base w' a'.defers->P.pan u H'->WR g' H' w'->Stp g H w g' H' w'->Q (.panic [{ v:=u,recovered:=false }]) a' w'):PanQ P g H w Q:=⟨he,h⟩
theorem PanQ.next {Q:Exit->Act->World->Prop} (h:PanQ P g H w Q) (hst:Stp g H w g' H' w'):PanQ P g' H' w' Q:=⟨h.1.mono hst.le.RO hst.le.cell,fun u H2 g2 a2 w2 h1 h2 h3 h4=>h.2 u H2 g2 a2 w2 h1 h2 h3 (hst.trans h4)⟩
theorem ZjY (hE : ∀ t ks, eqT t = some ks -> Ziv P.p t ks) (h : cAI P.p eqT N ops o = some i) (hF : FR g w N F a) (hW : WR g H w) {K : Fr -> Zaa -> Prop} (hs : i.step P F H K) {K2 : Act -> World -> Prop} {Q : Exit -> Act -> World -> Prop} (hK : ∀ u w' H' g' F', F' = F' -> K F' H' -> FR g' w' N F' (a.put o.dst u) -> WR g' H' w' -> Stp g H w g' H' w' -> K2 (a.put o.dst u) w') (hQ : PanQ P g H w Q) : o.wp P.p a w K2 Q := by
  obtain ⟨hop, hdst, hlt, _⟩ := ZjT h
  have nocall : (∀ f args, i.op ≠ .call f args) -> (∀ E sz bytes zero s x, i.op ≠ .apv E sz bytes zero s x) -> (∀ str x, i.op ≠ .nxt str x) -> o.wp P.p a w K2 Q := by
    intro hnc hna hnn
    have hs' : match i.op.ev F H with | some (v, H') => K (Fr.put F i.dst v) H' | none => False := by
      unfold AI.step at hs
      split at hs
      · rename_i f args e; exact absurd e (hnc f args)
      · rename_i E sz bytes zero s x e; exact absurd e (hna E sz bytes zero s x)
      · rename_i str x e; exact absurd e (hnn str x)
      · exact hs
    split at hs'
    · rename_i v H' hev
      obtain ⟨nx, u, w', g', h1, h2, h3, h4, h5⟩ := ZhI hE o hF hW (by rw [hop]; exact hev)
      have hfin : K2 (a.put o.dst u) w' := hK u w' H' g' _ rfl hs' (by rw [hdst]; exact (hF.mono h5.le).put hlt h3) h4 h5
      unfold Oper.wp
      rw [h1]
      rcases h2 with rfl | ⟨rfl, rfl⟩
      · exact hfin
      · exact hfin
    · exact hs'.elim
  cases hio : i.op with
  | call f args =>
    rw [hio] at hop
    have hop : cOp P.p eqT o.op = some (.call f args) := by
      unfold cOpB at hop
      split at hop
      · rename_i ao hc; rw [hc, hop]
      · cases hop
    unfold AI.step at hs
    rw [hio] at hs
    simp only at hs
    obtain ⟨fo, ao, ats, ho, rfl, rfl⟩ : ∃ fo ao ats, o.op = .call ⟨.value fo, ao, ats⟩ /\ f = cX fo /\ args = ao.toList.map cX := by
      obtain ⟨dst, op, type, pos, after, guard⟩ := o
      simp only at hop ⊢
      cases op with
      | call c =>
        obtain ⟨callee, ar, ats⟩ := c
        cases callee with
        | value fo =>
          simp only [cOp] at hop
          rcases ZCA hop with h | ⟨_, _, _, _, _, _, _, _, h⟩
          · injection h with h1 h2
            exact ⟨fo, ar, ats, rfl, h1, h2⟩
          · cases h
        | invoke r m => cases hop
        | builtin bt =>
          exfalso
          cases bt <;> simp only [cOp] at hop <;> first
            | cases hop
            | (split at hop
               · first
                 | (obtain ⟨d, _, hop⟩ := Zao hop
                    cases d <;> simp only at hop <;> first
                      | cases hop
                      | (split at hop <;> cases hop)
                      | (obtain ⟨i, _, hop⟩ := Zao hop
                         first
                         | (obtain ⟨z, _, hop⟩ := Zao hop
                            split at hop
                            · first
                              | cases hop
                              | (split at hop
                                 · obtain ⟨zc, _, hop⟩ := Zao hop; cases hop
                                 · cases hop)
                            · first
                              | cases hop
                              | (split at hop
                                 · split at hop
                                   · obtain ⟨zc, _, hop⟩ := Zao hop; cases hop
                                   · cases hop
                                 · cases hop))
                         | cases hop))
                 | cases hop
               · cases hop)
      | build t parts =>
        exfalso
        simp only [cOp] at hop
        obtain ⟨z, _, hop⟩ := Zao hop
        obtain ⟨zc, _, hop⟩ := Zao hop
        obtain ⟨d, _, hop⟩ := Zao hop
        cases d <;> simp only at hop <;> first
          | cases hop
          | (split at hop
             · obtain ⟨ps, _, hop⟩ := Zao hop; cases hop
             · cases hop)
          | (obtain ⟨s, _, hop⟩ := Zao hop; obtain ⟨ps, _, hop⟩ := Zao hop; cases hop)
      | makeFunc fn first caps => exfalso; cases fn <;> simp [cOp] at hop
      | makeMap t r =>
        exfalso
        cases r with
        | none =>
          simp only [cOp] at hop
          obtain ⟨d, _, hop⟩ := Zao hop
          cases d <;> simp only at hop <;> first
            | cases hop
            | (obtain ⟨kk, _, hop⟩ := Zao hop; cases hop)
        | some x => simp [cOp] at hop
      | convert src dst x =>
        exfalso
        simp only [cOp] at hop
        obtain ⟨d1, _, hop⟩ := Zao hop
        obtain ⟨d2, _, hop⟩ := Zao hop
        split at hop <;> first | cases hop | (split at hop <;> cases hop)
      | binOp op t x y t' =>
        exfalso
        simp only [cOp] at hop
        obtain ⟨d, _, hop⟩ := Zao hop
        cases d <;> simp only at hop <;> first
          | cases hop
          | (cases op <;> cases hop)
          | (split at hop
             · cases op <;> simp [ZkL, ZzP] at hop
             · cases hop)
          | (split at hop
             · cases hop
             · obtain ⟨ks, _, hop⟩ := Zao hop
               cases op <;> cases hop)
      | slice t x lo hi mx =>
        exfalso
        simp only [cOp] at hop
        obtain ⟨d, _, hop⟩ := Zao hop
        cases d <;> simp only at hop <;> first
          | cases hop
          | (obtain ⟨s, _, hop⟩ := Zao hop
             split at hop <;> cases hop)
          | (cases mx <;> cases hop)
      | buildSlice t len parts =>
        exfalso
        simp only [cOp] at hop
        obtain ⟨d, _, hop⟩ := Zao hop
        cases d <;> simp only at hop <;> first
          | cases hop
          | (obtain ⟨s, _, hop⟩ := Zao hop
             obtain ⟨z, _, hop⟩ := Zao hop
             split at hop
             · split at hop <;> cases hop
             · cases hop)
      | makeSlice t l c =>
        exfalso
        simp only [cOp] at hop
        obtain ⟨d, _, hop⟩ := Zao hop
        cases d <;> simp only at hop <;> first
          | cases hop
          | (obtain ⟨s, _, hop⟩ := Zao hop
             obtain ⟨z, _, hop⟩ := Zao hop
             obtain ⟨zc, _, hop⟩ := Zao hop
             split at hop <;> cases hop)
      | fieldAddr s x f =>
        exfalso
        simp only [cOp] at hop
        obtain ⟨d, _, hop⟩ := Zao hop
        cases d <;> simp only at hop <;> first
          | cases hop
          | (obtain ⟨fd, _, hop⟩ := Zao hop
             obtain ⟨z, _, hop⟩ := Zao hop
             split at hop <;> cases hop)
      | _ =>
        exfalso
        simp only [cOp] at hop
        first
        | cases hop
        | (obtain ⟨d, _, hop⟩ := Zao hop
           first
           | cases hop
           | (obtain ⟨d2, _, hop⟩ := Zao hop; cases hop)
           | (cases d <;> simp only at hop <;> first
               | cases hop
               | (obtain ⟨s, _, hop⟩ := Zao hop
                  first
                  | cases hop
                  | (obtain ⟨z, _, hop⟩ := Zao hop
                     first
                     | cases hop
                     | (obtain ⟨z2, _, hop⟩ := Zao hop; cases hop)))))
    have hf := ZaG hF fo
    split at hs
    · rename_i fid first caps hfe
      rw [hfe] at hf
      generalize hfv : a.eval fo = fv at hf
      cases hf with
      | fn _ _ _ vf vc hl1 hl2 h1 h2 =>
      obtain ⟨⟨fn, hfn, hbody, hname⟩, hcall⟩ := hs
      have hV : VRs g w (first ++ evs F (ao.toList.map cX) ++ caps) (vf.toList ++ ao.toList.map a.eval ++ vc.toList) :=
        (VRs.app ⟨by simpa using hl1, fun i x u hx hu => h1 i x u hx (by simpa using hu)⟩ (Zl3 hF ao.toList)).app ⟨by simpa using hl2, fun i x u hx hu => h2 i x u hx (by simpa using hu)⟩
      have hC := hcall g w _ hW hV hQ.1
      have hrun : (execOp a.eval o).run P.p w = .ok (.enter fid (vf.toList ++ ao.toList.map a.eval ++ vc.toList).toArray) w := by
        unfold execOp
        simp only [ho, resolve, Deferred.ofValue, hfv, invoke, callFunc, Sem.run_bind, Sem.run_pure, Result.andThen_ok, run_program, hfn]
        rw [if_neg (by simpa using hname), if_neg (by intro h; rw [h] at hbody; cases hbody)]
        have : (vf ++ ao.map a.eval ++ vc) = (vf.toList ++ ao.toList.map a.eval ++ vc.toList).toArray := by apply za9; simp
        rw [this]
        rfl
      unfold Oper.wp
      rw [hrun, Oper.upon_enter]
      refine hC.mono fun e w' he => ?_
      rcases he with ⟨v, r, H', g', he, hR, k1, k2, k3⟩ | ⟨u, H', g', he, hR, k2, k3⟩
      · subst he
        exact hK v w' H' g' _ rfl hR (by rw [hdst]; exact (hF.mono k3.le).put hlt k1) k2 k3
      · subst he
        exact hQ.2 u H' g' a w' (hF.mono k3.le).df hR k2 k3
    · exact hs.elim
  | apv E sz bytes zero s x =>
    rw [hio] at hop
    have hop : cOp P.p eqT o.op = some (.apv E sz bytes zero s x) := by
      unfold cOpB at hop
      split at hop
      · rename_i ao hc; rw [hc, hop]
      · cases hop
    obtain ⟨os, ox, t, t', z, ti, args, ats, zc, ho, ha, hat, hu, hi, hz, h0, hzs, hzc, rfl, rfl, rfl, hkd⟩ := cOp_apv hop
    unfold AI.step at hs
    rw [hio] at hs
    simp only at hs
    obtain ⟨v, r, H', w', g', k1, k2, k3, k4, k5⟩ := apv_ok2 (P := P.p) (ty := o.type) hW hu hi hz h0 hzs hzc hkd (ZaG hF os) (ZaG hF ox) hs
    have e1 : args = #[os, ox] := by apply za9; simpa using ha
    have e2 : ats = #[t, t'] := by apply za9; simpa using hat
    subst e1 e2
    have hrun : (execOp a.eval o).run P.p w = .ok (.value v) w' := by
      simp [execOp, ho, resolve, invoke, builtin, k1]
    unfold Oper.wp
    rw [hrun]
    exact hK v w' H' g' _ rfl k2 (by rw [hdst]; exact (hF.mono k5.le).put hlt k3) k4 k5
  | nxt str x =>
    rw [hio] at hop
    have hop : cOp P.p eqT o.op = some (.nxt str x) := by
      unfold cOpB at hop
      split at hop
      · rename_i ao hc; rw [hc, hop]
      · cases hop
    obtain ⟨ox, ho, rfl⟩ := cOp_nxt hop
    unfold AI.step at hs
    rw [hio] at hs
    simp only at hs
    obtain ⟨v, r, H', w', g', k1, k2, k3, k4, k5⟩ := nxt_ok (P := P.p) (ty := o.type) hW (ZaG hF ox) hs
    have hrun : (execOp a.eval o).run P.p w = .ok (.value v) w' := by
      simp [execOp, ho, k1]
    unfold Oper.wp
    rw [hrun]
    exact hK v w' H' g' _ rfl k2 (by rw [hdst]; exact (hF.mono k5.le).put hlt k3) k4 k5
  | _ => exact nocall (by intro f args e; rw [hio] at e; cases e) (by intro E sz bytes zero s x e; rw [hio] at e; cases e) (by intro str x e; rw [hio] at e; cases e)
theorem ai_step (hE:∀t ks,eqT t=some ks->Ziv P.p t ks) (h:cAI P.p eqT N ops o=some i) (hF:FR g w N F a) (hW:WR g H w) {K:Fr->Zaa->Prop} (hs:i.step P F H K) {K2:Act->World->Prop} {Q:Exit->Act->World->Prop} (hK:∀a' w',KR N g H w K a' w'->K2 a' w') (hQ:PanQ P g H w Q):o.wp P.p a w K2 Q :=
 ZjY hE h hF hW hs (fun u w' H' g' F' _ h1 h2 h3 h4=>hK _ _ ⟨F',H',g',h1,h2,h3,h4⟩) hQ
theorem ZfG (hE:∀t ks,eqT t=some ks->Ziv P.p t ks) {Q:Exit->Act->World->Prop} {K:Fr->Zaa->Prop} {g0:Gh} {H0:Zaa} {w0:World} (hQ:∀a' w',KR N g0 H0 w0 K a' w'->Q .normal a' w') (hP:PanQ P g0 H0 w0 Q) :
  ∀(os:List Oper) (l:List AI) (g:Gh) (H:Zaa) (w:World) (F:Fr) (a:Act),os.mapM (cAI P.p eqT N ops)=some l->FR g w N F a->WR g H w->Stp g0 H0 w0 g H w->Zau P l F H K->Zxx P.p ops Q os a w
 | [],l,g,H,w,F,a,hl,hF,hW,hst,h=>by
  simp at hl
  subst hl
  exact hQ _ _ ⟨F,H,g,h,hF,hW,hst⟩
 | o :: os,l,g,H,w,F,a,hl,hF,hW,hst,h=>by
  simp only[zbS]at hl
  obtain⟨i,hi,hl⟩:=Zao hl
  obtain⟨l',hl',hl⟩:=Zao hl
  simp at hl
  subst hl
  simp only[Zau]at h
  unfold Zxx
  split at h
  ·rename_i hw
   rw[if_pos (Zd0 hF hi hw)]
   refine(ai_step hE hi hF hW h (fun a' w' ⟨F',H',g',k1,k2,k3,k4⟩=>?_) (hP.next hst))
   exact ZfG hE hQ hP os l' g' H' w' F' a' hl' k2 k3 (hst.trans k4) k1
  ·rename_i hw
   rw[if_neg (by rw[Zd0 hF hi hw];simp)]
   obtain⟨_,hd,hlt,_⟩:=ZjT hi
   exact ZfG hE hQ hP os l' g H w _ _ hl' (by rw[hd];exact hF.put hlt (.sc _)) hW hst h
  ·exact h.elim
end
def AX.tmps:AX->List Nat
 | .t n=>[n]
 | .c _=>[]
def ZgP (o:Option AX):List Nat:=match o with
 | some x=>x.tmps
 | none=>[]
def AOp.tmps:AOp->List Nat
 | .mv x|.box _ x|.ld _ _ x|.nck x|.un _ x|.cnv _ x|.cvs x|.sob x|.clr x|.clv x|.fla _ x|.fld _ _ _ x|.ext x _|.len _ x|.mln x|.rng x|.nxt _ x|.ent x|.eqs _ x|.cap x=>x.tmps
 | .pick c a b=>c.tmps++(a.tmps++b.tmps)
 | .bld _ ps=>ps.flatMap fun p=>p.2.2.tmps
 | .bsl _ xs|.bsv _ _ xs=>xs.flatMap AX.tmps
 | .st _ x y|.bin _ x y|.eqf _ _ x y|.bnb _ x y|.eqn _ _ x y|.cpy _ x y|.ixa _ x y|.ixA _ _ x y|.ixv _ _ _ x y|.ixs x y|.app _ _ _ x y|.apv _ _ _ _ x y|.mm _ x y|.lkp _ _ _ x y|.men _ _ x y|.del _ x y|.mks _ _ _ _ x y|.ovl x y=>x.tmps++y.tmps
 | .mkf _ xs ys=>xs.flatMap AX.tmps++ys.flatMap AX.tmps
 | .slc _ x lo hi mx=>x.tmps++(ZgP lo++(ZgP hi++ZgP mx))
 | .sla _ _ x lo hi mx=>x.tmps++(ZgP lo++(ZgP hi++ZgP mx))
 | .slS x lo hi=>x.tmps++(ZgP lo++ZgP hi)
 | .mup _ x y z|.est x y z=>x.tmps++(y.tmps++z.tmps)
 | .lnA _|.mkm _|.bad=>[]
 | .call f xs=>f.tmps++xs.flatMap AX.tmps
def Agr (ts:List Nat) (F F':Fr):Prop:=∀t∈ts,Fr.get F t=Fr.get F' t
theorem Agr.left {a b:List Nat} {F F':Fr} (h:Agr (a++b) F F'):Agr a F F':=fun t ht=>h t (zaJ _ ht)
theorem Agr.right {a b:List Nat} {F F':Fr} (h:Agr (a++b) F F'):Agr b F F':=fun t ht=>h t (zaR _ ht)
theorem AX.congr {x:AX} {F F':Fr} (h:Agr x.tmps F F'):x.ev F=x.ev F':=by
 cases x with
 | t n=>exact h n (by simp[AX.tmps])
 | c a=>rfl
theorem Zf0 {xs:List AX} {F F':Fr} (h:Agr (xs.flatMap AX.tmps) F F'):evs F xs=evs F' xs:=by
 induction xs with
 | nil=>rfl
 | cons x xs ih =>
  simp only[zbu]at h
  simp only[evs,zaD]
  rw[AX.congr h.left]
  have:=ih h.right
  simp only[evs]at this
  rw[this]
theorem Zcs {o:Option AX} {F F':Fr} {d:Nat} (h:Agr (ZgP o) F F'):Zdi F d o=Zdi F' d o:=by
 cases o with
 | none=>rfl
 | some x=>simp only[Zdi];rw[AX.congr h]
theorem ZfA {F F':Fr}:∀{ps:List (Nat×Nat×AX)} {cs:List AV},Agr (ps.flatMap fun p=>p.2.2.tmps) F F'->Zb9 F cs ps=Zb9 F' cs ps
 | [],_,_=>rfl
 | (o,s,x) :: ps,cs,h=>by
  simp only[zbu]at h
  simp only[Zb9]
  rw[AX.congr h.left]
  split
  ·rw[ZfA h.right]
  ·rfl
theorem ZdL {F F':Fr} {sz:Nat}:∀{xs:List AX},Agr (xs.flatMap AX.tmps) F F'->rowsOf F sz xs=rowsOf F' sz xs
 | [],_=>rfl
 | x :: xs,h=>by
  simp only[zbu]at h
  simp only[rowsOf]
  rw[AX.congr h.left,ZdL h.right]
theorem AOp.congr {op:AOp} {F F':Fr} {H:Zaa} (h:Agr op.tmps F F'):op.ev F H=op.ev F' H:=by
 cases op
 case bld=>simp only[AOp.ev];rw[ZfA h]
 case bsl=>simp only[AOp.ev];rw[ZdL h]
 case bsv=>simp only[AOp.ev];rw[ZdL h]
 case apv=>rfl
 case mkf=>simp only[AOp.ev];rw[Zf0 h.left,Zf0 h.right]
 case slc=>simp only[AOp.ev];rw[AX.congr h.left];simp only[Zcs h.right.left,Zcs h.right.right.left,Zcs h.right.right.right]
 case sla=>simp only[AOp.ev];rw[AX.congr h.left];simp only[Zcs h.right.left,Zcs h.right.right.left,Zcs h.right.right.right]
 case slS=>simp only[AOp.ev];rw[AX.congr h.left];simp only[Zcs h.right.left,Zcs h.right.right]
 case pick=>simp only[AOp.ev];rw[AX.congr h.left,AX.congr h.right.left,AX.congr h.right.right]
 case mup=>simp only[AOp.ev];rw[AX.congr h.left,AX.congr h.right.left,AX.congr h.right.right]
 case est=>simp only[AOp.ev];rw[AX.congr h.left,AX.congr h.right.left,AX.congr h.right.right]
 case call=>rfl
 case lnA=>rfl
 case mkm=>rfl
 case bad=>rfl
 case len s x=>cases s<;>(simp only[AOp.ev];rw[AX.congr h])
 case eqn k n x y=>rcases k with _|_|_|_|k<;>(simp only[AOp.ev];rw[AX.congr h.left,AX.congr h.right])
 all_goals first
  | (simp only[AOp.ev];rw[AX.congr h];done)
  | (simp only[AOp.ev];rw[AX.congr h.left,AX.congr h.right];done)
def AOp.kind:AOp->Nat
 | .ld ..|.lkp ..|.mln _|.sob _|.ent _=>1
 | .box ..|.st ..|.mks ..|.app ..|.apv ..|.rng _|.nxt ..|.bsv ..|.mkm _|.mup ..|.men ..|.est ..|.del ..|.clr _|.clv _|.cpy ..|.call ..|.ovl ..=>2
 | _=>0
theorem ZjI {op:AOp} {F:Fr} (H H2:Zaa) (hk:op.kind=0):op.ev F H2=(op.ev F H).map fun p=>(p.1,H2):=by
 cases op<;>simp only[AOp.kind]at hk<;>try (cases hk;done)
 case mm mx x y =>
  simp only[AOp.ev]
  split
  ·split<;>rfl
  ·rfl
 case len s x=>cases s<;>(simp only[AOp.ev];split<;>rfl)
 case eqn k n x y=>rcases k with _|_|_|_|k<;>(simp only[AOp.ev];split<;>rfl)
 all_goals
  simp only[AOp.ev]
  first
   | rfl
   | (split<;>rfl)
   | (split<;>first|rfl|(split<;>rfl))
   | (split<;>first|rfl|(split<;>first|rfl|(split<;>rfl)))
   | (split<;>first|rfl|(split<;>first|rfl|(split<;>first|rfl|(split<;>rfl))))
   | (split<;>first|rfl|(simp;rfl))
   | (split<;>first|rfl|(split<;>first|rfl|(simp;rfl)))
theorem Zi7 {op:AOp} {F:Fr} {H H':Zaa} {v:AV} (hk:op.kind=0) (h:op.ev F H=some (v,H')):H'=H/\∀H2,op.ev F H2=some (v,H2):=by
 constructor
 ·have:=ZjI (F:=F) H H hk
  rw[h]at this
  simp at this
  exact this
 ·intro H2
  rw[ZjI (F:=F) H H2 hk,h]
  rfl
theorem read_ev {op:AOp} {F:Fr} {H H':Zaa} {v:AV} (hk:op.kind=1) (h:op.ev F H=some (v,H')):H'=H:=by
 cases op<;>simp only[AOp.kind]at hk<;>try (cases hk;done)
 case ld sz ag x =>
  simp only[AOp.ev]at h
  split at h
  ·rename_i row off _
   cases hr:Zbd sz ag row off with
   | none=>rw[hr]at h;cases h
   | some y=>rw[hr]at h;simp at h;exact h.2.symm
  ·split at h
   ·rename_i cs _ _
    rename_i off _ _ _
    revert h
    generalize Zbd sz ag _ _=q
    intro h
    cases q with
    | none=>cases h
    | some y=>simp at h;exact h.2.symm
   ·cases h
  ·cases h
 case lkp kk z ok m k =>
  simp only[AOp.ev]at h
  split at h
  ·split at h
   ·split at h
    ·split at h<;>(simp at h;exact h.2.symm)
    ·cases h
   ·cases h
  ·simp at h;exact h.2.symm
  ·cases h
 case mln m =>
  simp only[AOp.ev]at h
  split at h
  ·split at h
   ·simp at h;exact h.2.symm
   ·cases h
  ·simp at h;exact h.2.symm
  ·cases h
 case sob x =>
  simp only[AOp.ev]at h
  split at h
  ·split at h
   ·simp at h;exact h.2.symm
   ·cases h
  ·cases h
 case ent x =>
  simp only[AOp.ev]at h
  (repeat' split at h)<;>first|(cases h;done)|(simp at h;exact h.2.symm)
def AI.reads (i:AI):List Nat:=i.op.tmps++(match i.gd with|some (s,_)=>[s]|none=>[])
theorem AI.Zdg {i:AI} {F F':Fr} (h:Agr i.reads F F'):i.want F=i.want F':=by
 obtain⟨gd,dst,op⟩:=i
 cases gd with
 | none=>rfl
 | some p =>
  obtain⟨s,b⟩:=p
  have:Fr.get F s=Fr.get F' s:=h s (by simp[AI.reads])
  simp only[AI.want,this]
theorem AI.Zhd {i:AI} {F F':Fr} {H:Zaa} (h:Agr i.reads F F'):i.op.ev F H=i.op.ev F' H:=AOp.congr h.left
theorem AI.Zkg {P:Prg} {i:AI} {F F':Fr} {H:Zaa} {K:Fr->Zaa->Prop} (h:Agr i.reads F F') (hs:i.step P F' H K):i.step P F H fun F2 H2=>∃v,F2=Fr.put F i.dst v/\K (Fr.put F' i.dst v) H2:=by
 have key:(∀f args,i.op≠.call f args)->(∀E sz bytes zero s x,i.op≠.apv E sz bytes zero s x)->(∀str x,i.op≠.nxt str x)->i.step P F H fun F2 H2=>∃v,F2=Fr.put F i.dst v/\K (Fr.put F' i.dst v) H2:=by
  intro hnc hna hnn
  have e:i.op.ev F H=i.op.ev F' H:=AI.Zhd h
  unfold AI.step at hs ⊢
  split
  ·rename_i f args he;exact absurd he (hnc f args)
  ·rename_i he;exact absurd he (hna _ _ _ _ _ _)
  ·rename_i he;exact absurd he (hnn _ _)
  ·split at hs
   ·rename_i f args he;exact absurd he (hnc f args)
   ·rename_i he;exact absurd he (hna _ _ _ _ _ _)
   ·rename_i he;exact absurd he (hnn _ _)
   ·rw[e]
    split at hs
    ·exact⟨_,rfl,hs⟩
    ·exact hs.elim
 cases hio:i.op with
 | call f args =>
  have ht:Agr (f.tmps++args.flatMap AX.tmps) F F':=by
   have:=h.left
   rw[hio]at this
   exact this
  unfold AI.step at hs ⊢
  rw[hio]at hs ⊢
  simp only at hs ⊢
  rw[AX.congr ht.left,Zf0 ht.right]
  split at hs
  ·exact hs.mono fun r H' hr=>⟨r,rfl,hr⟩
  ·exact hs.elim
 | apv E sz bytes zero s x =>
  have ht:Agr (s.tmps++x.tmps) F F':=by
   have:=h.left
   rw[hio]at this
   exact this
  unfold AI.step at hs ⊢
  rw[hio]at hs ⊢
  simp only at hs ⊢
  rw[AX.congr ht.left,AX.congr ht.right]
  exact hs.mono fun r H' hr=>⟨r,rfl,hr⟩
 | nxt str x =>
  have ht:Agr x.tmps F F':=by
   have:=h.left
   rw[hio]at this
   exact this
  unfold AI.step at hs ⊢
  rw[hio]at hs ⊢
  simp only at hs ⊢
  rw[AX.congr ht]
  exact hs.mono fun r H' hr=>⟨r,rfl,hr⟩
 | _=>exact key (by intro f args e;rw[hio]at e;cases e) (by intro E sz bytes zero s x e;rw[hio]at e;cases e) (by intro str x e;rw[hio]at e;cases e)
def AI.stable (r:AI) (F:Fr) (H:Zaa):Prop:=match r.want F with
 | some false=>True
 | some true=>∃d,r.dst=some d/\r.op.ev F H=some (Fr.get F d,H)
 | none=>False
def Zaj (P:Prg):List (AI×List AI)->Fr->Zaa->(Fr->Zaa->Prop)->Prop
 | [],F,H,K=>K F H
 | (i,chk) :: l,F,H,K=>match i.want F with
  | some true=>i.step P F H fun F' H'=>(∀r∈chk,r.stable F' H')/\Zaj P l F' H' K
  | some false=>Zaj P l (Fr.put F i.dst ZaO) H K
  | none=>False
def Zb4 (ais:List AI) (i:Nat):Option Nat:=(ais[i]?).bind (·.dst)
def Zmr (ais:List AI) (i:Nat):List Nat:=((ais[i]?).map AI.reads).getD []
def AI.kind (i:AI):Nat:=match i.gd,i.dst,i.op with
 | none,some _,.box _ (.c _)=>3
 | _,_,op=>op.kind
def ZbL (ais:List AI) (i:Nat):Nat:=((ais[i]?).map AI.kind).getD 0
structure Zcr (n:Nat) (dirs:List (List Nat)) (ais:List AI) (tab:List (List Nat)) (L:List Nat) (chk:List (List Nat)):Prop where
 len:L.length=n
 nd:L.Nodup
 alen:ais.length=n
 mem:∀i<n,i∈L
 lt:∀i∈L,i<n
 htab:∀j<n,∀i∈tab.getD j [],∃k∈dirs.getD j [],k<j/\(i=k\/i∈tab.getD k [])
 lin:∀j<n,∀i∈tab.getD j [],i<n/\L.idxOf i<L.idxOf j
 dir:∀j<n,∀i∈dirs.getD j [],i<n/\L.idxOf i<L.idxOf j
 tmp:∀i<n,∀j<n,i≠j->∀d∈Zb4 ais i,(d∈Zmr ais j\/d∈Zb4 ais j)->i∈tab.getD j []\/j∈tab.getD i []
 eff:∀e<n,2<=ZbL ais e->∀j<n,ZbL ais j≠3->L.idxOf e<L.idxOf j->e∈tab.getD j []
 own:∀e<n,ZbL ais e=3->∀j<n,j≠e->∀d∈Zb4 ais e,d ∉ Zb4 ais j
 hchk:∀e<n,ZbL ais e=2->∀r<n,ZbL ais r=1->L.idxOf r<L.idxOf e->r ∉ tab.getD e []->r∈chk.getD e []/\(Zb4 ais r).isSome=true/\(∀d∈Zb4 ais r,d ∉ Zmr ais r)/\∀j<n,L.idxOf r<L.idxOf j->L.idxOf j<=L.idxOf e->∀d∈Zb4 ais j,d ∉ Zmr ais r/\d ∉ Zb4 ais r
theorem AI.ZcJ (i:AI):(i.kind=3/\∃d E z,i=⟨none,some d,.box E (.c z)⟩)\/i.kind=i.op.kind:=by
 obtain⟨gd,dst,op⟩:=i
 cases gd with
 | some p=>right;simp[AI.kind]
 | none =>
  cases dst with
  | none=>right;simp[AI.kind]
  | some d =>
   cases op with
   | box E x =>
    cases x with
    | c z=>exact .inl ⟨rfl,d,E,z,rfl⟩
    | t n=>right;rfl
   | _=>right;rfl
theorem AOp.Zmc (op:AOp):op.kind<=2:=by cases op<;>simp[AOp.kind]
theorem Zin {H:Zaa} {sz:Nat} {x:AV} {rows:List (List AV)} (o:Zb3) (h:ZaL H sz x=some rows):ZaL (H.alloc o) sz x=some rows:=by
 cases x with
 | arr id off len cap =>
  simp only[ZaL]at h ⊢
  split at h
  ·rename_i cs E hg
   rw[Zaa.ZbA (Zaa.lt hg),hg]
   exact h
  ·cases h
 | sl tok rows=>exact h
 | _=>cases h
theorem Zky {op:AOp} {F:Fr} {H:Zaa} {v:AV} (o:Zb3) (hk:op.kind=1) (h:op.ev F H=some (v,H)):op.ev F (H.alloc o)=some (v,H.alloc o):=by
 cases op<;>simp only[AOp.kind]at hk<;>try (cases hk;done)
 case ld sz ag x =>
  simp only[AOp.ev]at h ⊢
  split at h
  ·revert h
   generalize Zbd sz ag _ _=q
   intro h
   cases q with
   | none=>cases h
   | some y=>simp at h;subst h;rfl
  ·rename_i id off _
   split at h
   ·rename_i cs E hg
    rw[Zaa.ZbA (Zaa.lt hg),hg]
    simp only
    revert h
    generalize Zbd sz ag _ _=q
    intro h
    cases q with
    | none=>cases h
    | some y=>simp at h;subst h;rfl
   ·cases h
  ·cases h
 case lkp kk z ok m k =>
  simp only[AOp.ev]at h ⊢
  split at h
  ·rename_i id kv _ _
   split at h
   ·rename_i kk' es d hg
    rw[Zaa.ZbA (Zaa.lt hg),hg]
    simp only
    split at h
    ·rename_i hkk
     rw[if_pos hkk]
     split at h<;>(simp at h;subst h;rfl)
    ·cases h
   ·cases h
  ·simp at h;subst h;rfl
  ·cases h
 case sob x =>
  simp only[AOp.ev]at h ⊢
  split at h
  ·rename_i rows hr
   rw[Zin o hr]
   simp only
   split at h
   ·rename_i ns hb
    simp at h
    subst h
    rfl
   ·cases h
  ·cases h
 case mln m =>
  simp only[AOp.ev]at h ⊢
  split at h
  ·split at h
   ·rename_i kk es d hg
    rw[Zaa.ZbA (Zaa.lt hg),hg]
    simp at h;subst h;rfl
   ·cases h
  ·simp at h;subst h;rfl
  ·cases h
 case ent x =>
  simp only[AOp.ev]at h ⊢
  split at h
  ·split at h
   ·rename_i id _ mid n seen hi
    rw[Zaa.ZbA (Zaa.lt hi),hi]
    simp only
    split at h
    ·rename_i k kk es hl hm
     rw[Zaa.ZbA (Zaa.lt hm),hm,hl]
     simp only
     split at h
     ·rename_i hn
      rw[if_pos hn]
      split at h
      ·simp at h;subst h;rfl
      ·cases h
     ·cases h
    ·cases h
   ·cases h
  ·cases h
theorem Fr.get_put (F:Fr) (d:Option Nat) (v:AV) (t:Nat):Fr.get (Fr.put F d v) t=if d=some t then v else Fr.get F t:=by
 cases d with
 | none=>rfl
 | some k =>
  simp only[Fr.put,Fr.get,zaa]
  by_cases h:t=k
  ·subst h;simp
  ·rw[if_neg h,if_neg (fun e=>h e.symm)]
theorem FR.congr {g:Gh} {w:World} {N:Nat} {F F':Fr} {a:Act} (h:FR g w N F a) (hg:∀t,Fr.get F' t=Fr.get F t):FR g w N F' a:=⟨h.size,h.df,fun t=>by rw[hg t];exact h.get t⟩
def upd (val:Nat->AV) (i:Nat) (v:AV):Nat->AV:=fun j=>if j=i then v else val j
section
variable (ais:List AI) (L:List Nat) (F0:Fr)
def frm (val:Nat->AV):Nat->Fr
 | 0=>F0
 | q+1=>match L[q]? with
  | some i=>Fr.put (frm val q) (Zb4 ais i) (val i)
  | none=>frm val q
def fx (X:Nat->Bool) (val:Nat->AV):Nat->Fr
 | 0=>F0
 | q+1=>match L[q]? with
  | some i=>if X i=true then Fr.put (fx X val q) (Zb4 ais i) (val i) else fx X val q
  | none=>fx X val q
variable {ais L F0}
theorem ZdM {val:Nat->AV} {i:Nat} {v:AV}:∀{q:Nat},(∀r,r<q->L[r]?≠some i)->frm ais L F0 (upd val i v) q=frm ais L F0 val q
 | 0,_=>rfl
 | q+1,h=>by
  simp only[frm]
  rw[ZdM (fun r hr=>h r Xa)]
  cases hq:L[q]? with
  | none=>rfl
  | some j =>
   have:j≠i:=by rintro rfl;exact h q Xa hq
   simp[upd,this]
theorem Zj2 {X:Nat->Bool} {val:Nat->AV} {i:Nat} {v:AV}:∀{q:Nat},(∀r,r<q->L[r]?≠some i)->fx ais L F0 X (upd val i v) q=fx ais L F0 X val q
 | 0,_=>rfl
 | q+1,h=>by
  simp only[fx]
  rw[Zj2 (fun r hr=>h r Xa)]
  cases hq:L[q]? with
  | none=>rfl
  | some j =>
   have:j≠i:=by rintro rfl;exact h q Xa hq
   simp[upd,this]
theorem fx_X {X X':Nat->Bool} {val:Nat->AV}:∀{q:Nat},(∀r i,r<q->L[r]?=some i->X' i=X i)->fx ais L F0 X' val q=fx ais L F0 X val q
 | 0,_=>rfl
 | q+1,h=>by
  simp only[fx]
  rw[fx_X (fun r i hr=>h r i Xa)]
  cases hq:L[q]? with
  | none=>rfl
  | some j=>simp[h q j Xa hq]
theorem ZmI {X:Nat->Bool} {val:Nat->AV} {t:Nat}:∀{q:Nat},(∀r i,r<q->L[r]?=some i->Zb4 ais i=some t->X i=true)->Fr.get (fx ais L F0 X val q) t=Fr.get (frm ais L F0 val q) t
 | 0,_=>rfl
 | q+1,h=>by
  have ih:=ZmI (X:=X) (val:=val) (q:=q) (fun r i hr=>h r i Xa)
  simp only[fx,frm]
  cases hq:L[q]? with
  | none=>exact ih
  | some j =>
   simp only
   by_cases hd:Zb4 ais j=some t
   ·rw[if_pos (h q j Xa hq hd),Fr.get_put,Fr.get_put,if_pos hd,if_pos hd]
   ·rw[Fr.get_put,if_neg hd]
    split
    ·rw[Fr.get_put,if_neg hd];exact ih
    ·exact ih
theorem fx_get {X:Nat->Bool} {val:Nat->AV} {t q:Nat} (h1:∀r i,r<q->L[r]?=some i->Zb4 ais i=some t->X i=true):∀{p:Nat},q<=p->(∀r i,q<=r->r<p->L[r]?=some i->Zb4 ais i=some t->X i=false)->Fr.get (fx ais L F0 X val p) t=Fr.get (frm ais L F0 val q) t:=by
 intro p hp
 induction p with
 | zero =>
  intro _
  have:q=0:=Xa
  subst this
  rfl
 | succ p ih =>
  intro h2
  by_cases hq:q=p+1
  ·subst hq;exact ZmI h1
  ·have ih':=ih Xa (fun r i hr hr2=>h2 r i hr Xa)
   simp only[fx]
   cases hl:L[p]? with
   | none=>exact ih'
   | some j =>
    simp only
    split
    ·rename_i hX
     rw[Fr.get_put,if_neg]
     ·exact ih'
     ·intro hd
      rw[h2 p j Xa Xa hl hd]at hX;cases hX
    ·exact ih'
theorem ZmB {val:Nat->AV} {t q:Nat}:∀{p:Nat},q<=p->(∀r i,q<=r->r<p->L[r]?=some i->Zb4 ais i≠some t)->Fr.get (frm ais L F0 val p) t=Fr.get (frm ais L F0 val q) t:=by
 intro p hp
 induction p with
 | zero =>
  intro _
  have:q=0:=Xa
  subst this
  rfl
 | succ p ih =>
  intro h2
  by_cases hq:q=p+1
  ·subst hq;rfl
  ·have ih':=ih Xa (fun r i hr hr2=>h2 r i hr Xa)
   simp only[frm]
   cases hl:L[p]? with
   | none=>exact ih'
   | some j =>
    simp only
    rw[Fr.get_put,if_neg (h2 p j Xa Xa hl)]
    exact ih'
theorem fx_add {X:Nat->Bool} {val:Nat->AV} {i q:Nat} (hq:L[q]?=some i) (hnd:∀r,L[r]?=some i->r=q) (hX:X i=false) {t:Nat}:∀{p:Nat},q<p->(∀r j,q<r->r<p->L[r]?=some j->Zb4 ais i=some t->Zb4 ais j=some t->X j=false) ->
  Fr.get (fx ais L F0 (fun j=>if j=i then true else X j) val p) t=Fr.get (Fr.put (fx ais L F0 X val p) (Zb4 ais i) (val i)) t:=by
 intro p hp
 induction p with
 | zero=>omega
 | succ p ih =>
  intro h2
  by_cases hqp:q=p
  ·subst hqp
   simp only[fx,hq,if_true,hX,zb6,if_false]
   rw[fx_X (X:=X) (X':=fun j=>if j=i then true else X j)]
   intro r j hr hj
   have:j≠i:=by rintro rfl;have:=hnd r hj;omega
   simp[this]
  ·have ih':=ih Xa (fun r j hr hr2=>h2 r j hr Xa)
   simp only[fx]
   cases hl:L[p]? with
   | none=>exact ih'
   | some j =>
    have hji:j≠i:=by rintro rfl;have:=hnd p hl;omega
    simp only[if_neg hji]
    by_cases hXj:X j=true
    ·rw[if_pos hXj,if_pos hXj,Fr.get_put,Fr.get_put,Fr.get_put]
     by_cases hd:Zb4 ais j=some t
     ·rw[if_pos hd]
      by_cases hdi:Zb4 ais i=some t
      ·have:=h2 p j Xa Xa hl hdi hd
       rw[this]at hXj;cases hXj
      ·rw[if_neg hdi,if_pos hd]
     ·rw[if_neg hd,if_neg hd,ih',Fr.get_put]
    ·rw[if_neg hXj,if_neg hXj];exact ih'
end
section
variable {P:Prg} {eqT:EqT} {N n:Nat} {ops:Array Oper} {dirs:List (List Nat)} {ais:List AI} {tab:List (List Nat)} {L:List Nat} {chk:List (List Nat)} {F0:Fr} {K:Fr->Zaa->Prop} {g0:Gh} {H0:Zaa} {w0:World}
theorem Zcr.at (D:Zcr n dirs ais tab L chk) {i:Nat} (hi:i<n):L[L.idxOf i]?=some i/\L.idxOf i<n:=by
 have hm:=D.mem i hi
 have hl:L.idxOf i<L.length:=List.idxOf_lt_length_iff.2 hm
 exact⟨by rw[zab hl,List.getElem_idxOf],by rw[<- D.len];exact hl⟩
theorem Zcr.pos (D:Zcr n dirs ais tab L chk) {i q:Nat} (h:L[q]?=some i):L.idxOf i=q/\i<n:=by
 have hi:=D.lt i (zaN h)
 refine⟨?_,hi⟩
 obtain⟨h1,h2⟩:=D.at hi
 have hq:q<L.length:=(zah.1 h).1
 exact(List.getElem?_inj (by rw[D.len];exact h2) D.nd).1 (by rw[h1,h])
theorem Zcr.listed (D:Zcr n dirs ais tab L chk) {X:Nat->Bool} (down:∀j<n,X j=true->∀i∈dirs.getD j [],X i=true):∀(j:Nat),j<n->(∀k∈dirs.getD j [],X k=true)->∀i∈tab.getD j [],X i=true:=by
 intro j
 induction j using Nat.strongRecOn with
 | _ j ih =>
  intro hj hd i hi
  obtain⟨k,hk,hkj,h⟩:=D.htab j hj i hi
  have hXk:=hd k hk
  rcases h with rfl|h
  ·exact hXk
  ·exact ih k hkj Xa (down k Xa hXk) i h
def ents (ais:List AI) (chk:List (List Nat)) (l:List Nat):List (AI×List AI):=l.filterMap fun i=>(ais[i]?).map fun ai=>(ai,(chk.getD i []).filterMap (ais[·]?))
def ovl (ais:List AI) (E:List Nat) (F:Fr):Fr:=E.foldr (fun i F=>Fr.put F (Zb4 ais i) .any) F
theorem ZeI {ais:List AI} {F:Fr} {t:Nat}:∀{E:List Nat},((∃i∈E,Zb4 ais i=some t)/\Fr.get (ovl ais E F) t=.any)\/((∀i∈E,Zb4 ais i≠some t)/\Fr.get (ovl ais E F) t=Fr.get F t)
 | []=>.inr ⟨fun i h=>by simp at h,rfl⟩
 | e :: E=>by
  simp only[ovl,List.foldr_cons]
  rw[Fr.get_put]
  by_cases h:Zb4 ais e=some t
  ·exact .inl ⟨⟨e,Xc,h⟩,by rw[if_pos h]⟩
  ·rw[if_neg h]
   rcases ZeI (ais:=ais) (F:=F) (t:=t) (E:=E)with⟨⟨i,hi,hd⟩,hg⟩|⟨hn,hg⟩
   ·exact .inl ⟨⟨i,by simp[hi],hd⟩,hg⟩
   ·refine .inr ⟨fun i hi=>?_,hg⟩
    rcases zay.1 hi with rfl|hi
    ·exact h
    ·exact hn i hi
theorem Zff {ais:List AI} {F:Fr} {t:Nat} {E:List Nat} (h:∀i∈E,Zb4 ais i≠some t):Fr.get (ovl ais E F) t=Fr.get F t:=by
 rcases ZeI (ais:=ais) (F:=F) (t:=t) (E:=E)with⟨⟨i,hi,hd⟩,_⟩|⟨_,hg⟩
 ·exact absurd hd (h i hi)
 ·exact hg
theorem ZiS {ais:List AI} {F:Fr} {t i:Nat} {E:List Nat} (hi:i∈E) (h:Zb4 ais i=some t):Fr.get (ovl ais E F) t=.any:=by
 rcases ZeI (ais:=ais) (F:=F) (t:=t) (E:=E)with⟨_,hg⟩|⟨hn,_⟩
 ·exact hg
 ·exact absurd h (hn i hi)
def Pend (g:Gh) (Hc:Zaa) (w:World) (a:Act) (b:Nat) (ai:AI):Prop:=∃d Et z carr,ai=⟨none,some d,.box Et (.c z)⟩/\a.tmps.getD d undef=.pointer (some ⟨b,0,none⟩)/\w.heap[b]?=some (.cells carr Et (0,0))/\(∀g w cs,z.cells=some cs->VRs g w cs carr.toList/\∀x∈cs,x.one=true)/\(∀j,¬g.RO b j)/\¬Own g Hc b
structure Inv (P:Prg) (N n:Nat) (dirs:List (List Nat)) (ais:List AI) (L:List Nat) (chk:List (List Nat)) (F0:Fr) (K:Fr->Zaa->Prop) (g0:Gh) (H0:Zaa) (w0:World) (p:Nat) (val:Nat->AV) (X:Nat->Bool) (E:List Nat) (blk:Nat->Nat) (Hc:Zaa) (g:Gh) (w:World) (a:Act):Prop where
 hp:p<=n
 aw:Zaj P (ents ais chk (L.drop p)) (frm ais L F0 val p) Hc K
 sub:∀i<n,X i=true->L.idxOf i<p\/i∈E
 effs:∀i<n,2<=ZbL ais i->L.idxOf i<p->X i=true
 down:∀j<n,X j=true->∀i∈dirs.getD j [],X i=true
 fr:FR g w N (ovl ais E (fx ais L F0 X val p)) a
 wr:WR g Hc w
 st:Stp g0 H0 w0 g Hc w
 facts:∀i<n,X i=false->L.idxOf i<p->∀ai,ais[i]?=some ai->(ai.want (frm ais L F0 val (L.idxOf i))=some false/\val i=ZaO)\/(ai.want (frm ais L F0 val (L.idxOf i))=some true/\ai.op.ev (frm ais L F0 val (L.idxOf i)) Hc=some (val i,Hc))
 nd:E.Nodup
 en:∀i∈E,i<n/\ZbL ais i=3/\X i=true/\p<=L.idxOf i
 pend:∀i∈E,∀ai,ais[i]?=some ai->Pend g Hc w a (blk i) ai
 dist:∀i∈E,∀j∈E,blk i=blk j->i=j
 fresh:∀i∈E,¬blk i<w0.heap.size
theorem Zfz (D:Zcr n dirs ais tab L chk) {p i:Nat} {ai:AI} (hi:L[p]?=some i) (ha:ais[i]?=some ai):ents ais chk (L.drop p)=(ai,(chk.getD i []).filterMap (ais[·]?)) :: ents ais chk (L.drop (p+1)):=by
 have hp:p<L.length:=(zah.1 hi).1
 have e:L.drop p=i :: L.drop (p+1):=by
  rw[List.drop_eq_getElem_cons hp]
  have:=(zah.1 hi).2
  rw[this]
 rw[e]
 simp[ents,ha]
theorem Inv.adv (D:Zcr n dirs ais tab L chk) {p:Nat} {val:Nat->AV} {X:Nat->Bool} {E:List Nat} {blk:Nat->Nat} {Hc:Zaa} {g:Gh} {w:World} {a:Act} (I:Inv P N n dirs ais L chk F0 K g0 H0 w0 p val X E blk Hc g w a) {i:Nat} (hi:L[p]?=some i) (hk:ZbL ais i<2):∃val',Inv P N n dirs ais L chk F0 K g0 H0 w0 (p+1) val' X E blk Hc g w a:=by
 obtain⟨hpos,hin⟩:=D.pos hi
 have hpl:p<n:=by rw[<- D.len];exact(zah.1 hi).1
 have hai:i<ais.length:=by rw[D.alen];exact hin
 have ha:=zab hai
 generalize ais[i]=ai at ha
 have hka:ZbL ais i=ai.kind:=by simp[ZbL,ha]
 have hX:X i=false:=by
  cases hx:X i with
  | false=>rfl
  | true =>
   rcases I.sub i hin hx with h|h
   ·omega
   ·have:=(I.en i h).2.1;omega
 have hko:ai.op.kind<2:=by
  rcases ai.ZcJ with⟨h,_⟩|h
  ·omega
  ·omega
 have hdst:Zb4 ais i=ai.dst:=by simp[Zb4,ha]
 have hne:∀r,r<p->L[r]?≠some i:=fun r hr h=>by have:=(D.pos h).1;omega
 have hsamei:∀j<n,L.idxOf j=p->j=i:=by
  intro j hj hjp
  have h1:=(D.at hj).1
  rw[hjp,hi]at h1
  injection h1 with h1
  exact h1.symm
 have main:∀v,Zaj P (ents ais chk (L.drop (p+1))) (Fr.put (frm ais L F0 val p) ai.dst v) Hc K->((ai.want (frm ais L F0 val p)=some false/\v=ZaO)\/(ai.want (frm ais L F0 val p)=some true/\ai.op.ev (frm ais L F0 val p) Hc=some (v,Hc)))->∃val',Inv P N n dirs ais L chk F0 K g0 H0 w0 (p+1) val' X E blk Hc g w a:=by
  intro v haw hfact
  refine⟨upd val i v,Xa,?_,fun j hj hXj=>(I.sub j hj hXj).imp (fun h=>by omega) id,fun j hj hkj hpj=>?_,I.down,?_,I.wr,I.st,fun j hj hXj hpj aj haj=>?_,I.nd,fun j hj=>?_,I.pend,I.dist,I.fresh⟩
  ·have e:frm ais L F0 (upd val i v) (p+1)=Fr.put (frm ais L F0 val p) ai.dst v:=by
    simp only[frm,hi]
    rw[ZdM hne,hdst]
    simp[upd]
   rw[e]
   exact haw
  ·by_cases hjp:L.idxOf j=p
   ·rw[hsamei j hj hjp]at hkj;omega
   ·exact I.effs j hj hkj Xa
  ·have e:fx ais L F0 X (upd val i v) (p+1)=fx ais L F0 X val p:=by
    simp only[fx,hi,hX]
    rw[Zj2 hne]
    simp
   rw[e]
   exact I.fr
  ·by_cases hjp:L.idxOf j=p
   ·have:=hsamei j hj hjp
    subst this
    rw[ha]at haj
    injection haj with haj
    subst haj
    rw[hjp,ZdM hne]
    have:upd val j v j=v:=by simp[upd]
    rw[this]
    exact hfact
   ·have hji:j≠i:=by rintro rfl;exact hjp hpos
    rw[ZdM (fun r hr=>hne r Xa)]
    have:upd val i v j=val j:=by simp[upd,hji]
    rw[this]
    exact I.facts j hj hXj Xa aj haj
  ·obtain⟨h1,h2,h3,h4⟩:=I.en j hj
   refine⟨h1,h2,h3,?_⟩
   have:L.idxOf j≠p:=fun h=>by rw[hsamei j h1 h]at h2;omega
   omega
 have haw:=I.aw
 rw[Zfz D hi ha]at haw
 simp only[Zaj]at haw
 split at haw
 ·rename_i hw
  have hnc:∀f args,ai.op≠.call f args:=by rintro f args e;rw[e]at hko;exact absurd hko (by simp[AOp.kind])
  have hna:∀E sz bytes zero s x,ai.op≠.apv E sz bytes zero s x:=by rintro E sz bytes zero s x e;rw[e]at hko;exact absurd hko (by simp[AOp.kind])
  have hnn:∀str x,ai.op≠.nxt str x:=by rintro str x e;rw[e]at hko;exact absurd hko (by simp[AOp.kind])
  unfold AI.step at haw
  split at haw
  ·rename_i f args e;exact absurd e (hnc f args)
  ·rename_i e;exact absurd e (hna _ _ _ _ _ _)
  ·rename_i e;exact absurd e (hnn _ _)
  ·split at haw
   ·rename_i v H' hev
    have hH:H'=Hc:=by
     have hlt:ai.op.kind=0\/ai.op.kind=1:=Xa
     rcases hlt with h|h
     ·exact(Zi7 h hev).1
     ·exact read_ev h hev
    subst hH
    exact main v haw.2 (.inr ⟨hw,hev⟩)
   ·exact haw.elim
 ·rename_i hw
  exact main ZaO haw (.inl ⟨hw,rfl⟩)
 ·exact haw.elim
theorem Inv.take (D:Zcr n dirs ais tab L chk) {p:Nat} {val:Nat->AV} {X:Nat->Bool} {E:List Nat} {blk:Nat->Nat} {Hc:Zaa} {g:Gh} {w:World} {a:Act} (I:Inv P N n dirs ais L chk F0 K g0 H0 w0 p val X E blk Hc g w a) {i:Nat} (hi:L[p]?=some i) (hE:i∈E):∃val' E' Hc' g',Inv P N n dirs ais L chk F0 K g0 H0 w0 (p+1) val' X E' blk Hc' g' w a:=by
 obtain⟨hpos,hin⟩:=D.pos hi
 have hpl:p<n:=by rw[<- D.len];exact(zah.1 hi).1
 have hai:i<ais.length:=by rw[D.alen];exact hin
 have ha:=zab hai
 generalize ais[i]=ai at ha
 obtain⟨_,hk3,hXi,_⟩:=I.en i hE
 obtain⟨d,Et,z,carr,rfl,hptr,hblk,hcs,hro,hno⟩:=I.pend i hE ai ha
 have hne:∀r,r<p->L[r]?≠some i:=fun r hr h=>by have:=(D.pos h).1;omega
 have hdst:Zb4 ais i=some d:=by simp[Zb4,ha]
 have hsamei:∀j<n,L.idxOf j=p->j=i:=by
  intro j hj hjp
  have h1:=(D.at hj).1
  rw[hjp,hi]at h1
  injection h1 with h1
  exact h1.symm
 have haw:=I.aw
 rw[Zfz D hi ha]at haw
 simp only[Zaj,AI.want,AI.step,AOp.ev,AX.ev]at haw
 cases hzc:z.cells with
 | none=>rw[hzc]at haw;exact haw.elim
 | some cs =>
  rw[hzc]at haw
  simp only at haw
  obtain⟨hV,hone⟩:=hcs g w cs hzc
  obtain⟨k1,k2,k3⟩:=adopt I.wr hblk hro hno hV hone
  have hmemE:∀j∈E.erase i,j∈E/\j≠i:=fun j hj=>⟨List.mem_of_mem_erase hj,fun h=>by subst h;exact(List.Nodup.not_mem_erase I.nd) hj⟩
  have hother:∀j∈E.erase i,Zb4 ais j≠some d:=by
   intro j hj h
   obtain⟨h1,h2⟩:=hmemE j hj
   have:=D.own i hin hk3 j (I.en j h1).1 h2 d (by simp[hdst])
   exact this (by simp[h])
  refine⟨upd val i (.ptr Hc.next 0),E.erase i,Hc.alloc (.cells cs Et),g.obj Hc.next (blk i),Xa,?_,fun j hj hXj=>?_,fun j hj hkj hpj=>?_,I.down,?_,k1,?_,fun j hj hXj hpj aj haj=>?_,I.nd.erase i,fun j hj=>?_,fun j hj aj haj=>?_,fun j hj j' hj'=>I.dist j (hmemE j hj).1 j' (hmemE j' hj').1,fun j hj=>I.fresh j (hmemE j hj).1⟩
  ·have e:frm ais L F0 (upd val i (.ptr Hc.next 0)) (p+1)=Fr.put (frm ais L F0 val p) (some d) (.ptr Hc.next 0):=by
    simp only[frm,hi]
    rw[ZdM hne,hdst]
    simp[upd]
   rw[e]
   exact haw.2
  ·rcases I.sub j hj hXj with h|h
   ·exact .inl Xa
   ·by_cases hji:j=i
    ·subst hji;exact .inl Xa
    ·exact .inr ((List.mem_erase_of_ne hji).2 h)
  ·by_cases hjp:L.idxOf j=p
   ·rw[hsamei j hj hjp];exact hXi
   ·exact I.effs j hj hkj Xa
  ·have e:fx ais L F0 X (upd val i (.ptr Hc.next 0)) (p+1)=Fr.put (fx ais L F0 X val p) (some d) (.ptr Hc.next 0):=by
    simp only[fx,hi,hXi,if_true]
    rw[Zj2 hne,hdst]
    simp[upd]
   rw[e]
   have hF:=I.fr.mono k2
   refine⟨hF.size,hF.df,fun t=>?_⟩
   by_cases htd:t=d
   ·subst htd
    rw[Zff hother,Fr.get_put,if_pos rfl,hptr]
    exact .ptr _ _ _ (by simp[Gh.obj])
   ·rcases ZeI (ais:=ais) (F:=Fr.put (fx ais L F0 X val p) (some d) (.ptr Hc.next 0)) (t:=t) (E:=E.erase i)with⟨_,hg⟩|⟨hn,hg⟩
    ·rw[hg];exact .any _
    ·rw[hg,Fr.get_put,if_neg Xf]
     have:=hF.get t
     rw[Zff]at this
     ·exact this
     ·intro j hj hdj
      by_cases hji:j=i
      ·subst hji;rw[hdst]at hdj;injection hdj with hdj;exact htd hdj.symm
      ·exact hn j ((List.mem_erase_of_ne hji).2 hj) hdj
  ·have hst:=I.st
   refine⟨hst.le.trans k2,zcF hst.next,hst.os,hst.tape,hst.output,hst.size,hst.frame,fun b hb ho=>?_,hst.ro⟩
   rcases k3 b ho with rfl|ho
   ·exact absurd hb (I.fresh i hE)
   ·exact hst.new b hb ho
  ·have hji:j≠i:=by rintro rfl;rw[hXi]at hXj;cases hXj
   have hjp:L.idxOf j≠p:=fun h=>hji (hsamei j hj h)
   rw[ZdM (fun r hr=>hne r Xa)]
   have hval:upd val i (.ptr Hc.next 0) j=val j:=by simp[upd,hji]
   rw[hval]
   rcases I.facts j hj hXj Xa aj haj with h|⟨h1,h2⟩
   ·exact .inl h
   ·refine .inr ⟨h1,?_⟩
    have hkj:ZbL ais j=aj.kind:=by simp[ZbL,haj]
    have hk2:¬2<=ZbL ais j:=fun h=>by rw[I.effs j hj h Xa]at hXj;cases hXj
    have hop:aj.op.kind<2:=by
     rcases aj.ZcJ with⟨h,_⟩|h<;>omega
    rcases (show aj.op.kind=0\/aj.op.kind=1 by omega)with h0|h0
    ·exact(Zi7 h0 h2).2 _
    ·exact Zky _ h0 h2
  ·obtain⟨h1,h2⟩:=hmemE j hj
   obtain⟨q1,q2,q3,q4⟩:=I.en j h1
   refine⟨q1,q2,q3,?_⟩
   have:L.idxOf j≠p:=fun h=>h2 (hsamei j q1 h)
   omega
  ·obtain⟨h1,h2⟩:=hmemE j hj
   obtain⟨d',Et',z',carr',e',r1,r2,r3,r4,r5⟩:=I.pend j h1 aj haj
   refine⟨d',Et',z',carr',e',r1,r2,r3,r4,fun ho=>?_⟩
   rcases k3 _ ho with h|h
   ·exact h2 (I.dist j h1 i hE h)
   ·exact r5 h
theorem Inv.norm (D:Zcr n dirs ais tab L chk) {X:Nat->Bool} {blk:Nat->Nat} {w:World} {a:Act}:∀(m p:Nat) (val:Nat->AV) (E:List Nat) (Hc:Zaa) (g:Gh),n - p=m->Inv P N n dirs ais L chk F0 K g0 H0 w0 p val X E blk Hc g w a->∃p' val' E' Hc' g',Inv P N n dirs ais L chk F0 K g0 H0 w0 p' val' X E' blk Hc' g' w a/\(p'=n\/∃e,L[p']?=some e/\2<=ZbL ais e/\X e=false)
 | 0,p,val,E,Hc,g,hm,I=>⟨p,val,E,Hc,g,I,.inl (by have:=I.hp;omega)⟩
 | m+1,p,val,E,Hc,g,hm,I=>by
  have hp:p<L.length:=by rw[D.len];omega
  have hi:=zab hp
  by_cases hk:2<=ZbL ais L[p]
  ·cases hX:X L[p]with
   | false=>exact⟨p,val,E,Hc,g,I,.inr ⟨_,hi,hk,hX⟩⟩
   | true =>
    obtain⟨hpos,hin⟩:=D.pos hi
    rcases I.sub _ hin hX with h|h
    ·omega
    ·obtain⟨val',E',Hc',g',I'⟩:=I.take D hi h
     exact Inv.norm D m (p+1) val' E' Hc' g' Xa I'
  ·obtain⟨val',I'⟩:=I.adv D hi Xa
   exact Inv.norm D m (p+1) val' E Hc g Xa I'
end
end Go.Proofs.YtfjjpndoeppbhaaGreatDoor
