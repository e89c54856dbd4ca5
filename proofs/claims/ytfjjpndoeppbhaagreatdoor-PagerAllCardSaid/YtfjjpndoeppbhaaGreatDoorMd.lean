/- Texts of the walk. -/
import Derived.Test.YtfjjpndoeppbhaaGreatDoorMc
import Derived.Deep.Slices
import Derived.OpenShut
namespace Go.Proofs.YtfjjpndoeppbhaaGreatDoor
set_option linter.defProp false
set_option maxHeartbeats 64000000
set_option linter.unusedSimpArgs false
set_option linter.unusedVariables false
open Go.RowKit
abbrev CH:=List (Option Zb3)
abbrev CallR:=FuncId->List AV->(AV->CH->Bool)->CH->Bool
section
variable {P:Program} {call:CallR}
end
def Gh.ro (R:Nat->Nat->Prop):Gh:=⟨fun _=>none,fun _=>none,fun _ _=>none,R,0⟩
theorem WR.ofRO {R:Nat->Nat->Prop} {w:World} (h:∀b j,R b j->b<w.heap.size):WR (Gh.ro R) Zaa.emp w :=
 ⟨fun id o h=>by simp[Zaa.emp]at h,fun id id' o o' b h=>by simp[Zaa.emp]at h,fun id _=>⟨rfl,rfl,fun _=>rfl⟩,fun id o b h=>by simp[Zaa.emp]at h,h⟩
theorem VRs.scs {g:Gh} {w:World}:∀(vs:List Value),VRs g w (vs.map .sc) vs
 | []=>.nil
 | v :: vs=>(VRs.scs vs).cons (.sc v)
theorem Zay.calls {P:Program} {f:FuncId} {args:List AV} {R:AV->Zaa->Prop} {v:Value} (h:Zay P f args Zaa.emp R) (hR:∀r H,R r H->r=.sc v) {w:World} {vs:List Value} {RO:Nat->Nat->Prop} (hro:∀b j,RO b j->b<w.heap.size) (hV:VRs (Gh.ro RO) w args vs) (hEn:EnvP RO w):Calls P f vs.toArray w fun e w'=>e=.returned v/\Below w.heap.size w w':=by
 refine(h.2 _ w vs (WR.ofRO hro) hV hEn).mono fun e w' hh=>?_
 rcases hh with⟨u,r,H',g',he,hr,hv,hw',hs⟩|⟨_,_,_,_,hh,_⟩
 rotate_left
 ·exact hh.elim
 have:=hR _ _ hr
 subst this
 cases hv
 exact⟨he,hs.os,hs.tape,hs.output,hs.size,fun b hb=>hs.frame b hb (fun⟨id,o,h1,_⟩=>by simp[Zaa.emp]at h1)⟩
open Go.RowKit Go.Deep
inductive Sh where
 | int (k:IntKind)
 | bool
 | str
 | slice (e:Sh)
 | unit
 | pair (a b:Sh)
 | arr (n:Nat) (e:Sh)
def Sh.size:Sh->Nat
 | .unit=>0
 | .arr n e=>n * e.size
 | .pair a b=>a.size+b.size
 | _=>1
def Sh.D:Sh->Type
 | .int _=>Int
 | .bool=>Bool
 | .str=>ByteArray
 | .slice e=>List e.D
 | .unit=>Unit
 | .pair a b=>a.D×b.D
 | .arr _ e=>List e.D
def Sh.Is (w:World) (F:Nat->Prop):(s:Sh)->List Value->s.D->Prop
 | .int k,cs,n=>cs=[.int k n]/\(Lit.int k n).wf=true
 | .bool,cs,b=>cs=[.bool b]
 | .str,cs,s=>cs=[.string s]/\ByteArray.size s<=maxLen
 | .slice e,cs,l=>∃(A:Option Addr) (c:Nat) (css:List (List Value)),cs=[.slice A (List.length l) c]/\List.length l<=c/\c<=maxLen/\css.length=List.length l /\
  Rd w F e.size A (List.length l) css.flatten/\∀(i:Nat) (r:List Value) (x:e.D),css[i]?=some r->(show List e.D from l)[i]?=some x->Sh.Is w F e r x
 | .unit,cs,_=>cs=[]
 | .pair a b,cs,x=>∃c1 c2,cs=c1++c2/\Sh.Is w F a c1 x.1/\Sh.Is w F b c2 x.2
 | .arr n e,cs,l=>∃(css:List (List Value)),cs=css.flatten/\css.length=n/\List.length l=n/\(∀r∈css,r.length=e.size) /\
  ∀(i:Nat) (r:List Value) (x:e.D),css[i]?=some r->(show List e.D from l)[i]?=some x->Sh.Is w F e r x
theorem flat_len {css:List (List Value)} {m:Nat} (h:∀r∈css,r.length=m):css.flatten.length=css.length * m:=by
 induction css with
 | nil=>simp
 | cons x r ih =>
  rw[List.flatten_cons,zac,h x zak,ih (fun y hy=>h y (zar _ hy)),List.length_cons,zaX];omega
section
variable {w w':World} {F F':Nat->Prop}
theorem Sh.Is.len:∀{s:Sh} {cs:List Value} {x:s.D},s.Is w F cs x->cs.length=s.size
 | .int _,_,_,h=>by rw[h.1];rfl
 | .bool,_,_,h=>by rw[show _=[_]from h];rfl
 | .str,_,_,h=>by rw[h.1];rfl
 | .slice _,_,_,h=>by obtain⟨A,c,css,h,_⟩:=h;rw[h];rfl
 | .unit,_,_,h=>by rw[show _=[]from h];rfl
 | .pair a b,_,_,h=>by
  obtain⟨c1,c2,rfl,h1,h2⟩:=h
  rw[zac,h1.len,h2.len];rfl
 | .arr n e,_,_,h=>by
  obtain⟨css,rfl,h1,h2,h3,h4⟩:=h
  rw[flat_len h3,h1];rfl
end
def Sh.Fits (P:Program):Sh->Sum TypeId (List Field×Nat)->Prop
 | .int k,.inl t=>P.underlying t=some (.int k)
 | .bool,.inl t=>P.underlying t=some .bool
 | .str,.inl t=>P.underlying t=some .string
 | .slice e,.inl t=>∃te,P.underlying t=some (.slice te)/\P.cellsOf te=e.size/\0<e.size/\e.Fits P (.inl te)
 | .unit,.inl t=>P.underlying t=some (.struct #[])/\P.cellsOf t=0
 | .unit,.inr (fs,_)=>fs=[]
 | .pair a b,.inl t=>∃f fs,P.underlying t=some (.struct (f :: fs).toArray)/\P.cellsOf t=a.size+b.size/\f.offset=0/\P.cellsOf f.type=a.size/\a.Fits P (.inl f.type)/\b.Fits P (.inr (fs,a.size))
 | .pair a b,.inr (fs,o)=>∃f r,fs=f :: r/\f.offset=o/\P.cellsOf f.type=a.size/\a.Fits P (.inl f.type)/\b.Fits P (.inr (r,o+a.size))
 | .arr n e,.inl t=>∃te,P.underlying t=some (.array n te)/\P.cellsOf t=n * e.size/\P.cellsOf te=e.size/\e.Fits P (.inl te)
 | _,_=>False
theorem Zf4 {w:World} {p:Addr} {v:Value} (h:w.cell? p=some v):p.block<w.heap.size:=by
 rcases zbK p.block w.heap.size with hlt|hge
 ·exact hlt
 ·unfold World.cell? at h
  rw[Array.getElem?_eq_none hge]at h
  cases h
theorem Zfl {l:List (List Value)} {m:Nat} (h:∀r∈l,r.length=m) (hm:0<m) (j:Nat):l.flatten[j]?=(l[j / m]?).bind (fun r=>r[j % m]?):=by
 induction l generalizing j with
 | nil=>simp
 | cons x r ih =>
  have hx:=h x zak
  rw[List.flatten_cons]
  by_cases hj:j<m
  ·rw[zaC Xa,zbM hj,zaF hj]
   simp
  ·rw[zaE Xa,hx,ih (fun y hy=>h y (zar _ hy))]
   have e1:j / m=(j - m) / m+1:=by
    rw[Nat.div_eq_sub_div hm Xa]
   have e2:j % m=(j - m) % m:=by
    rw[Nat.mod_eq_sub_mod Xa]
   rw[e1,e2]
   simp
theorem Zmu (cs:List Value) (n m:Nat) (h:cs.length=n * m):cs=((List.range n).map fun i=>(cs.drop (i * m)).take m).flatten:=by
 induction n generalizing cs with
 | zero=>simp at h ⊢;exact h
 | succ n ih =>
  rw[List.range_succ_eq_map,zaD,List.flatten_cons,zb4]
  simp only[zbf,zby]
  have h2:(cs.drop m).length=n * m:=by rw[zaq,h,zaX];omega
  have:=ih (cs.drop m) h2
  conv=>lhs;rw[<- zaS m cs,this]
  congr 2
  apply zcy
  intro i _
  simp only[Function.comp]
  rw[za5,Nat.succ_mul,zbN]
def Sh.Wt (P:Program) (N:Nat):(s:Sh)->Sum TypeId (List Field)->s.D->Prop
 | .slice e,.inl t,l=>∀te,P.underlying t=some (.slice te)->List.length l * P.bytesOf te<=N/\∀x∈(show List e.D from l),Sh.Wt P N e (.inl te) x
 | .pair a b,.inl t,x=>∀f fs,P.underlying t=some (.struct (f :: fs).toArray)->Sh.Wt P N a (.inl f.type) x.1/\Sh.Wt P N b (.inr fs) x.2
 | .pair a b,.inr fs,x=>∀f r,fs=f :: r->Sh.Wt P N a (.inl f.type) x.1/\Sh.Wt P N b (.inr r) x.2
 | _,_,_=>True
theorem ZpF {H:Type} {P:Program} {e:TypeId}:∀{l:List (DataW H)} {i:Nat} {d:DataW H},l[i]?=some d->∀k∈d.weights P e,k∈DataW.weightsAll P e l
 | [],_,_,h,_,_=>by simp at h
 | x :: r,0,d,h,k,hk=>by
  simp only[List.getElem?_cons_zero,zaa]at h
  subst h
  simp only[DataW.weightsAll,zaw]
  exact .inl hk
 | x :: r,i+1,d,h,k,hk=>by
  simp only[List.getElem?_cons_succ]at h
  simp only[DataW.weightsAll,zaw]
  exact .inr (ZpF h k hk)
theorem ZpV {H:Type} {P:Program}:∀{ts:List TypeId} {ds:List (DataW H)} {i:Nat} {t:TypeId} {d:DataW H},ts[i]?=some t->ds[i]?=some d->∀k∈d.weights P t,k∈DataW.weightsEach P ts ds
 | [],_,_,_,_,h,_,_,_=>by simp at h
 | _ :: _,[],_,_,_,_,h,_,_=>by simp at h
 | t0 :: ts,x :: r,0,t,d,h0,h,k,hk=>by
  simp only[List.getElem?_cons_zero,zaa]at h0 h
  subst h0;subst h
  simp only[DataW.weightsEach,zaw]
  exact .inl hk
 | t0 :: ts,x :: r,i+1,t,d,h0,h,k,hk=>by
  simp only[List.getElem?_cons_succ]at h0 h
  simp only[DataW.weightsEach,zaw]
  exact .inr (ZpV h0 h k hk)
theorem Zr1:∀(l:List Nat),∃n,∀k∈l,k<=n
 | []=>⟨0,Xc⟩
 | a :: r=>by
  obtain⟨n,h⟩:=Zr1 r
  exact⟨max a n,fun k hk=>by
   rcases zay.1 hk with rfl|hk
   ·omega
   ·have:=h k hk;omega⟩
section
variable {H:Type} {enc:TypeId×Value->H} {P:Program} {w:World} {spare:Nat->Bool} {held:Bool}
theorem Sh.of_trodW (N:Nat):∀(s:Sh) (t:TypeId) (fuel:Nat) (cs:List Value) (x:DataW H×List MemPlace),s.Fits P (.inl t)->DataW.trod enc P w 0 spare held fuel t cs=some x->(∀k∈x.1.weights P t,k<=N)->∃y:s.D,s.Is w (·<w.heap.size) cs y/\s.Wt P N (.inl t) y:=by
 intro s
 suffices hs:(∀(t:TypeId) (fuel:Nat) (cs:List Value) (x:DataW H×List MemPlace),s.Fits P (.inl t)->DataW.trod enc P w 0 spare held fuel t cs=some x->(∀k∈x.1.weights P t,k<=N)->∃y:s.D,s.Is w (·<w.heap.size) cs y/\s.Wt P N (.inl t) y) /\
   (∀(fs:List Field) (o fuel:Nat) (cs:List Value),s.Fits P (.inr (fs,o))->o+s.size<=cs.length->(∀f∈fs,∃x,DataW.trod enc P w 0 spare held fuel f.type ((cs.drop f.offset).take (P.cellsOf f.type))=some x/\∀k∈x.1.weights P f.type,k<=N)->∃y:s.D,s.Is w (·<w.heap.size) ((cs.drop o).take s.size) y/\s.Wt P N (.inr fs) y)from hs.1
 induction s with
 | int k =>
  refine⟨fun t fuel cs x hf h hw0=>?_,fun fs o fuel cs hf=>by cases hf⟩
  obtain⟨n,rfl,_,hw⟩:=DataW.trod_int hf h
  exact⟨n,⟨rfl,hw⟩,trivial⟩
 | bool =>
  refine⟨fun t fuel cs x hf h hw0=>?_,fun fs o fuel cs hf=>by cases hf⟩
  obtain⟨b,rfl,_⟩:=DataW.trod_bool hf h
  exact⟨b,rfl,trivial⟩
 | str =>
  refine⟨fun t fuel cs x hf h hw0=>?_,fun fs o fuel cs hf=>by cases hf⟩
  obtain⟨s,rfl,_,hw⟩:=DataW.trod_string hf h
  exact⟨s,⟨rfl,hw⟩,trivial⟩
 | slice e ih =>
  refine⟨fun t fuel cs x hf h hw0=>?_,fun fs o fuel cs hf=>by cases hf⟩
  obtain⟨te,hte,hsz,hpos,hfe⟩:=hf
  rcases open_slice hte h with⟨rfl,_⟩|⟨a,len,cap,m,n,Dd,Pl,rfl,_,hl,hm,hmm,hxe,hi⟩
  ·exact⟨([]:List e.D),⟨none,0,[],rfl,zad _,by unfold maxLen;omega,rfl,Rd.nil,fun i r x hr=>by simp at hr⟩,fun te _=>⟨by rw[List.length_nil,zbf];exact zat _,fun x hx=>by cases hx⟩⟩
  ·have hmle:len<=m:=by rw[hmm];split<;>omega
   rw[hxe]at hw0
   simp only[DataW.weights,hte,zay,zaw]at hw0
   have hwl:len * P.bytesOf te<=N:=zaG (zbe _ Xc) (hw0 _ (.inl rfl))
   have hwe:∀i,i<len->∀k∈(Dd i).weights P te,k<=N:=fun i hi k hk=>hw0 k (.inr (.inl (ZpF (i:=i) (by simp[hi]) k hk)))
   have hel:∀i,∃cy:List Value×e.D,i<len->(w.cells? 0 (a.add (i * e.size)) e.size=some cy.1/\e.Is w (·<w.heap.size) cy.1 cy.2/\e.Wt P N (.inl te) cy.2):=by
    intro i
    by_cases hlt:i<len
    ·obtain⟨cs',hc,ht'⟩:=hi i Xa
     rw[hsz]at hc
     obtain⟨y,hy⟩:=ih.1 te n cs' _ hfe ht' (hwe i hlt)
     exact⟨(cs',y),fun _=>⟨hc,hy⟩⟩
    ·have hne:Nonempty e.D:=by
      clear ih hfe hi hpos hsz
      induction e with
      | int k=>exact⟨(0:Int)⟩
      | bool=>exact⟨false⟩
      | str=>exact⟨ByteArray.empty⟩
      | slice e _=>exact⟨([]:List e.D)⟩
      | unit=>exact⟨()⟩
      | pair a b iha ihb=>exact iha.elim fun x=>ihb.elim fun y=>⟨(x,y)⟩
      | arr n e _=>exact⟨([]:List e.D)⟩
     exact hne.elim fun y=>⟨([],y),fun h=>absurd h hlt⟩
   obtain⟨f,hf⟩:=zb9 hel
   have hlen1:∀r∈(List.range len).map (fun i=>(f i).1),r.length=e.size:=by
    intro r hr
    obtain⟨i,hi1,rfl⟩:=zaH.1 hr
    exact(hf i (zbb.1 hi1)).2.1.len
   refine⟨(List.range len).map (fun i=>(f i).2),⟨some a,cap,(List.range len).map (fun i=>(f i).1),?_,?_,hm,?_,?_,?_⟩,fun te2 hte2=>?_⟩
   case refine_6 =>
    obtain rfl:te=te2:=by rw[hte]at hte2;injection hte2 with h;injection h
    refine⟨by simpa using hwl,fun x hx=>?_⟩
    obtain⟨i,hi1,rfl⟩:=zaH.1 hx
    exact(hf i (zbb.1 hi1)).2.2
   ·simp
   ·simpa using hl
   ·simp
   ·refine⟨?_,fun hn=>⟨a,rfl,?_,fun j u hu=>?_⟩⟩
    ·rw[List.length_flatten]
     have:List.map List.length ((List.range len).map (fun i=>(f i).1))=List.replicate len e.size:=by
      rw[List.eq_replicate_iff]
      refine⟨Xc,fun b hb=>?_⟩
      obtain⟨r,hr,rfl⟩:=zaH.1 hb
      exact hlen1 r hr
     rw[this]
     simp
    ·have hn':0<len:=by simpa using hn
     obtain⟨hc,hy,_⟩:=hf 0 hn'
     obtain⟨_,hcl,hat⟩:=World.cells?_some hc
     have h0:=hat 0 hpos
     have hl0:0<(f 0).1.length:=by rw[hy.len];exact hpos
     rw[zab hl0]at h0
     have:=Zf4 h0
     rw[add_block,add_block]at this
     exact this
    ·rw[Zfl hlen1 hpos]at hu
     rcases hg:((List.range len).map (fun i=>(f i).1))[j / e.size]? with _|r
     ·rw[hg]at hu;cases hu
     ·rw[hg]at hu
      simp only[Option.bind_some]at hu
      rw[zaO]at hg
      rcases hg2:(List.range len)[j / e.size]? with _|i
      ·rw[hg2]at hg;cases hg
      ·rw[hg2]at hg
       obtain⟨hi1,hi2⟩:=zah.1 hg2
       simp at hi1 hi2
       subst hi2
       simp at hg
       subst hg
       obtain⟨hc,hy,_⟩:=hf _ hi1
       obtain⟨_,hcl,hat⟩:=World.cells?_some hc
       have:=hat (j % e.size) (zbG _ hpos)
       rw[add_add]at this
       rw[<- hu,<- this]
       congr 2
       rw[za7]
       exact(zb0 j e.size).symm
   ·intro i r x hr hx
    rw[zaO]at hr
    have hx':((List.range len).map (fun i=>(f i).2))[i]?=some x:=hx
    rw[zaO]at hx'
    rcases hg:(List.range len)[i]? with _|k
    ·rw[hg]at hr;cases hr
    ·rw[hg]at hr hx'
     simp at hr hx'
     subst hr hx'
     obtain⟨hk1,hk2⟩:=zah.1 hg
     simp at hk1 hk2
     subst hk2
     exact(hf _ hk1).2.1
 | unit =>
  refine⟨fun t fuel cs x hf h hw0=>?_,fun fs o fuel cs hf _ _=>⟨(),by simp[Sh.Is,Sh.size],trivial⟩⟩
  obtain⟨xs,n,_,_,hl,_⟩:=DataW.trod_struct hf.1 h
  exact⟨(),zaA (by rw[hl,hf.2]),trivial⟩
 | pair a b iha ihb =>
  have hfields:∀(fs:List Field) (o fuel:Nat) (cs:List Value),(Sh.pair a b).Fits P (.inr (fs,o))->o+(Sh.pair a b).size<=cs.length->(∀f∈fs,∃x,DataW.trod enc P w 0 spare held fuel f.type ((cs.drop f.offset).take (P.cellsOf f.type))=some x/\∀k∈x.1.weights P f.type,k<=N)->∃y:(Sh.pair a b).D,(Sh.pair a b).Is w (·<w.heap.size) ((cs.drop o).take (Sh.pair a b).size) y/\(Sh.pair a b).Wt P N (.inr fs) y:=by
   intro fs o fuel cs hf hl h
   obtain⟨f,r,rfl,ho,hc,hfa,hfb⟩:=hf
   simp only[Sh.size]at hl
   obtain⟨xa,hxa,hwa⟩:=h f zak
   rw[ho,hc]at hxa
   obtain⟨ya,hya,hza⟩:=iha.1 f.type fuel _ xa hfa hxa hwa
   obtain⟨yb,hyb,hzb⟩:=ihb.2 r (o+a.size) fuel cs hfb Xa (fun g hg=>h g (zar _ hg))
   refine⟨(ya,yb),⟨_,_,?_,hya,hyb⟩,fun f2 r2 e2=>?_⟩
   case refine_2=>injection e2 with e3 e4;subst e3;subst e4;exact⟨hza,hzb⟩
   simp only[Sh.size]
   rw[<- za5,zcl]
  refine⟨fun t fuel cs x hf h hw0=>?_,hfields⟩
  obtain⟨f,fs,hu,hct,ho,hc,hfa,hfb⟩:=hf
  obtain⟨xs,n,_,hxe,hl,hxl,hall⟩:=DataW.trod_struct hu h
  rw[hxe]at hw0
  simp only[DataW.weights,hu]at hw0
  have:=hfields (f :: fs) 0 n cs ⟨f,fs,rfl,ho,hc,hfa,by simpa using hfb⟩ (by simp only[Sh.size];omega) (fun g hg=>by
   obtain⟨i,hi,rfl⟩:=zaK hg
   have h1:=hall i (f :: fs)[i] (by simp[hi])
   have hi2:i<xs.length:=by rw[hxl];simpa using hi
   rw[zab hi2]at h1
   exact⟨_,h1,fun k hk=>hw0 k (ZpV (i:=i) (by rw[zaO,zab (by simpa using hi)];rfl) (by rw[zaO,zab hi2];rfl) k hk)⟩)
  obtain⟨y,hy,hz⟩:=this
  refine⟨y,?_,fun f2 fs2 e2=>?_⟩
  case refine_2 =>
   rw[hu]at e2
   injection e2 with e2;injection e2 with e2
   have e2:=congrArg Array.toList e2
   exact hz f2 fs2 (by simpa using e2)
  rw[zby,zav (by simp only[Sh.size];omega)]at hy
  exact hy
 | arr n e ih =>
  refine⟨fun t fuel cs x hf h hw0=>?_,fun fs o fuel cs hf=>by cases hf⟩
  obtain⟨te,hte,hct,hce,hfe⟩:=hf
  obtain⟨xs,m,_,hxe,hl,hxl,hall⟩:=DataW.trod_array hte h
  rw[hxe]at hw0
  simp only[DataW.weights,hte]at hw0
  rw[hct]at hl
  have hel:∀i,∃y:e.D,i<n->e.Is w (·<w.heap.size) ((cs.drop (i * e.size)).take e.size) y:=by
   intro i
   by_cases hi:i<n
   ·have h1:=hall i hi
    rw[hce,zab Xa]at h1
    obtain⟨y,hy,_⟩:=ih.1 te m _ _ hfe h1 (fun k hk=>hw0 k (ZpF (i:=i) (by rw[zaO,zab Xa];rfl) k hk))
    exact⟨y,fun _=>hy⟩
   ·have hne:Nonempty e.D:=by
     clear ih hfe hall hl hct hce
     induction e with
     | int k=>exact⟨(0:Int)⟩
     | bool=>exact⟨false⟩
     | str=>exact⟨ByteArray.empty⟩
     | slice e _=>exact⟨([]:List e.D)⟩
     | unit=>exact⟨()⟩
     | pair a b iha ihb=>exact iha.elim fun x=>ihb.elim fun y=>⟨(x,y)⟩
     | arr n e _=>exact⟨([]:List e.D)⟩
    exact hne.elim fun y=>⟨y,fun h=>absurd h hi⟩
  obtain⟨f,hf⟩:=zb9 hel
  refine⟨(List.range n).map f,⟨(List.range n).map (fun i=>(cs.drop (i * e.size)).take e.size),?_,Xc,Xc,?_,?_⟩,trivial⟩
  ·exact Zmu cs n e.size hl
  ·intro r hr
   obtain⟨i,hi,rfl⟩:=zaH.1 hr
   exact(hf i (zbb.1 hi)).len
  ·intro i r x hr hx
   have hx':((List.range n).map f)[i]?=some x:=hx
   rw[zaO]at hr hx'
   rcases hg:(List.range n)[i]? with _|k
   ·rw[hg]at hr;cases hr
   ·rw[hg]at hr hx'
    simp at hr hx'
    subst hr hx'
    obtain⟨hk1,hk2⟩:=zah.1 hg
    simp at hk1 hk2
    subst hk2
    exact hf _ hk1
theorem Sh.of_trod (s:Sh) (t:TypeId) (fuel:Nat) (cs:List Value) (x:DataW H×List MemPlace) (hf:s.Fits P (.inl t)) (h:DataW.trod enc P w 0 spare held fuel t cs=some x):∃y:s.D,s.Is w (·<w.heap.size) cs y:=by
 obtain⟨n,hn⟩:=Zr1 (x.1.weights P t)
 obtain⟨y,hy,_⟩:=Sh.of_trodW n s t fuel cs x hf h hn
 exact⟨y,hy⟩
end
def Sh.enc:(s:Sh)->s.D->List AV
 | .int k,n=>[.sc (.int k n)]
 | .bool,b=>[.sc (.bool b)]
 | .str,s=>[.sc (.string s)]
 | .slice e,l=>[.sl .no ((show List e.D from l).map e.enc)]
 | .unit,_=>[]
 | .pair a b,x=>a.enc x.1++b.enc x.2
 | .arr _ e,l=>((show List e.D from l).map e.enc).flatten
def Sh.pos:Sh->Prop
 | .slice e=>0<e.size/\e.pos
 | .pair a b=>a.pos/\b.pos
 | .arr _ e=>e.pos
 | _=>True
theorem flatAt {α:Type} {l:List (List α)} {m:Nat} (h:∀r∈l,r.length=m) {i j:Nat} {r:List α} {x:α} (hr:l[i]?=some r) (hx:r[j]?=some x):l.flatten[i * m+j]?=some x:=by
 induction l generalizing i with
 | nil=>simp at hr
 | cons y l ih =>
  have hy:=h y zak
  cases i with
  | zero =>
   simp at hr
   subst hr
   have hj:j<y.length:=(zah.1 hx).1
   simp only[zbf,zax,List.flatten_cons]
   rw[zaC hj]
   exact hx
  | succ i =>
   simp at hr
   have hi:=ih (fun r hr=>h r (zar _ hr)) hr
   rw[List.flatten_cons,zaE (by rw[hy,zaX];omega),<- hi]
   congr 1
   rw[hy,zaX];omega
section
variable {w:World} {F:Nat->Prop} {g:Gh}
theorem Sh.Is.vr (hF:∀b,F b->∀j,g.RO b j):∀{s:Sh} {cs:List Value} {x:s.D},s.pos->s.Is w F cs x->VRs g w (s.enc x) cs/\∀y∈s.enc x,y.one=true
 | .int k,cs,n,_,h=>by
  rw[h.1]
  exact⟨VRs.nil.cons (.sc _),fun y hy=>by simp[Sh.enc]at hy;subst hy;rfl⟩
 | .bool,cs,b,_,h=>by
  rw[show cs=[.bool b]from h]
  exact⟨VRs.nil.cons (.sc _),fun y hy=>by simp[Sh.enc]at hy;subst hy;rfl⟩
 | .str,cs,s,_,h=>by
  rw[h.1]
  exact⟨VRs.nil.cons (.sc _),fun y hy=>by simp[Sh.enc]at hy;subst hy;rfl⟩
 | .slice e,cs,l,hp,h=>by
  obtain⟨A,c,css,h1,h2,h3,h4,h5,h6⟩:=h
  refine⟨?_,fun y hy=>by simp[Sh.enc]at hy;subst hy;rfl⟩
  rw[h1]
  have hrow:∀(i:Nat) r,css[i]?=some r->r.length=e.size/\∃x,(show List e.D from l)[i]?=some x/\VRs g w (e.enc x) r/\∀y∈e.enc x,y.one=true:=by
   intro i r hr
   have hi:i<List.length l:=by rw[<- h4];exact(zah.1 hr).1
   have hx:(show List e.D from l)[i]?=some (List.get l ⟨i,hi⟩):=zab hi
   have:=h6 i r _ hr hx
   exact⟨this.len,_,hx,Sh.Is.vr hF hp.2 this⟩
  have hlen:∀r∈css,r.length=e.size:=by
   intro r hr
   obtain⟨i,hi,rfl⟩:=zaK hr
   exact(hrow i _ (zab hi)).1
  have hget:∀(i:Nat) (q:List AV),((show List e.D from l).map e.enc)[i]?=some q->∃r,css[i]?=some r/\VRs g w q r/\(∀y∈q,y.one=true)/\r.length=e.size:=by
   intro i q hq
   rw[zaO]at hq
   cases hx:(show List e.D from l)[i]? with
   | none=>rw[hx]at hq;cases hq
   | some x =>
    rw[hx]at hq
    simp only[Option.map_some,zaa]at hq
    subst hq
    have hi:i<css.length:=by rw[h4];exact(zah.1 hx).1
    obtain⟨k1,x',k2,k3,k4⟩:=hrow i css[i] (zab hi)
    rw[hx]at k2
    injection k2 with k2
    subst k2
    exact⟨_,zab hi,k3,k4,k1⟩
  have hl:((show List e.D from l).map e.enc).length=List.length l:=zam _
  have key:∃b o,(((show List e.D from l).map e.enc)≠[]->A=some ⟨b,o,none⟩)/\∀(i:Nat) r j u,css[i]?=some r->r[j]?=some u->w.cell? ⟨b,o+i * e.size+j,none⟩=some u/\g.RO b (o+i * e.size+j):=by
   by_cases hn:0<List.length l
   ·obtain⟨b,o,k1,k2,k3⟩:=h5.lit hn hp.1
    exact⟨b,o,fun _=>k1,fun i r j u hr hu=>⟨by rw[zbs];exact k3 _ u (flatAt hlen hr hu),hF b k2 _⟩⟩
   ·refine⟨0,0,fun h=>absurd (zaA (by rw[hl];omega)) h,fun i r j u hr hu=>?_⟩
    have:=(zah.1 hr).1
    omega
  obtain⟨b,o,hA,hcell⟩:=key
  have hv:VR g w (.sl .no ((show List e.D from l).map e.enc)) (.slice A ((show List e.D from l).map e.enc).length c):=by
   refine .sl .no _ A c e.size b o (fun i j=>(css.getD i []).getD j undef) (by rw[hl];exact h2) h3 hA (fun q hq=>?_) (fun i q j x hq hx=>?_) (fun i q j x hq hx=>?_) trivial
   ·obtain⟨i,hi,rfl⟩:=zaK hq
    obtain⟨r,k1,k2,k3,k4⟩:=hget i _ (zab hi)
    exact⟨by rw[k2.1,k4],k3⟩
   ·obtain⟨r,k1,k2,k3,k4⟩:=hget i q hq
    obtain⟨u,k5,k6⟩:=k2.get hx
    have:=hcell i r j u k1 k5
    simpa [zai,k1,k5] using this
   ·obtain⟨r,k1,k2,k3,k4⟩:=hget i q hq
    obtain⟨u,k5,k6⟩:=k2.get hx
    simpa [zai,k1,k5] using k6
  rw[hl]at hv
  exact VRs.nil.cons hv
 | .unit,cs,x,_,h=>by
  rw[show cs=[]from h]
  exact⟨VRs.nil,fun y hy=>by simp[Sh.enc]at hy⟩
 | .pair a b,cs,x,hp,h=>by
  obtain⟨c1,c2,rfl,h1,h2⟩:=h
  have k1:=Sh.Is.vr hF hp.1 h1
  have k2:=Sh.Is.vr hF hp.2 h2
  refine⟨k1.1.app k2.1,fun y hy=>?_⟩
  rcases zaw.1 (show y∈a.enc x.1++b.enc x.2 from hy)with hy|hy
  ·exact k1.2 y hy
  ·exact k2.2 y hy
 | .arr n e,cs,l,hp,h=>by
  obtain⟨css,rfl,h1,h2,h3,h4⟩:=h
  have key:∀(m:Nat) (l:List e.D) (css:List (List Value)),l.length=m->css.length=m->(∀(i:Nat) r x,css[i]?=some r->l[i]?=some x->e.Is w F r x)->VRs g w (l.map e.enc).flatten css.flatten/\∀y∈(l.map e.enc).flatten,y.one=true:=by
   intro m
   induction m with
   | zero =>
    intro l css h1 h2 _
    obtain rfl:=zaA h1
    obtain rfl:=zaA h2
    exact⟨VRs.nil,fun y hy=>by simp at hy⟩
   | succ m ih =>
    intro l css h1 h2 h4
    cases l with
    | nil=>simp at h1
    | cons x l =>
     cases css with
     | nil=>simp at h2
     | cons r css =>
      have k1:=Sh.Is.vr hF (show e.pos from hp) (h4 0 r x rfl rfl)
      have k2:=ih l css (by simpa using h1) (by simpa using h2) (fun i r x hr hx=>h4 (i+1) r x (by simpa using hr) (by simpa using hx))
      simp only[zaD,List.flatten_cons]
      refine⟨k1.1.app k2.1,fun y hy=>?_⟩
      rcases zaw.1 hy with hy|hy
      ·exact k1.2 y hy
      ·exact k2.2 y hy
  exact key n l css h2 h1 h4
end
theorem Zaw {n:Int} (h1 : -9223372036854775808<=n) (h2:n<9223372036854775808):IntKind.i64.wrap n=n:=by
 rw[IntKind.wrap_i64];omega
theorem ZaW {r v:AV} {H0 H:Zaa} (hx:Zaa.Ext H0 H) (hv:r.weak=v):∃r2 H2,Zb6 r H r2 H2/\Pure H0 v r2 H2:=⟨_,_,Zb6.ext hx,hv,_,rfl⟩
section
variable {P:Prg} {Q:AEx->Fr->Zaa->Prop} {F:Fr} {H:Zaa} {i n t2 N k id:Nat} {inv:Nat->Prop} {Fs:Nat->Fr} {Hs:Nat->Zaa}
theorem ZeH {P:Prg}:∀(c:Zar) (Q Q':AEx->Fr->Zaa->Prop) (F:Fr) (H:Zaa),(∀e F H,Q e F H->Q' e F H)->AW P c Q F H->AW P c Q' F H:=by
 intro c
 induction c with
 | skip=>intro Q Q' F H hq h;exact hq _ _ _ h
 | reg l =>
  intro Q Q' F H hq h
  simp only[AW]at h ⊢
  induction l generalizing F H with
  | nil=>exact hq _ _ _ h
  | cons i l ih =>
   simp only[Zau]at h ⊢
   split at h
   ·exact AI.Zee h (fun F H h=>ih F H h)
   ·exact ih _ _ h
   ·exact h
 | drw l =>
  intro Q Q' F H hq h
  simp only[AW]at h ⊢
  induction l generalizing F H with
  | nil=>exact hq _ _ _ h
  | cons p l ih =>
   obtain⟨i,chk⟩:=p
   simp only[Zaj]at h ⊢
   split at h
   ·exact AI.Zee h (fun F H h=>⟨h.1,ih F H h.2⟩)
   ·exact ih _ _ h
   ·exact h
 | seq x y ihx ihy =>
  intro Q Q' F H hq h
  simp only[AW]at h ⊢
  refine ihx _ _ F H (fun e F H h=>?_) h
  cases e
  ·exact ihy _ _ F H hq h
  ·exact hq _ _ _ h
  ·exact hq _ _ _ h
 | cond c x y ihx ihy =>
  intro Q Q' F H hq h
  simp only[AW]at h ⊢
  split at h
  ·rename_i t _
   cases t
   ·exact ihy _ _ F H hq h
   ·exact ihx _ _ F H hq h
  ·exact⟨ihx _ _ F H hq h.1,ihy _ _ F H hq h.2⟩
  ·exact h
 | blk id x ih =>
  intro Q Q' F H hq h
  simp only[AW]at h ⊢
  refine ih _ _ F H (fun e F H h=>?_) h
  cases e with
  | normal=>exact hq _ _ _ h
  | ret=>exact hq _ _ _ h
  | exit k =>
   simp only at h ⊢
   split
   ·rename_i hk;rw[if_pos hk]at h;exact hq _ _ _ h
   ·rename_i hk;rw[if_neg hk]at h;exact hq _ _ _ h
 | loop x ih =>
  intro Q Q' F H hq h
  simp only[AW]at h ⊢
  obtain⟨I,h0,hr⟩:=h
  refine⟨I,h0,fun n F H hI=>ih _ _ F H (fun e F H h=>?_) (hr n F H hI)⟩
  cases e
  ·exact h
  ·exact hq _ _ _ h
  ·exact hq _ _ _ h
 | exit id=>intro Q Q' F H hq h;exact hq _ _ _ h
 | ret=>intro Q Q' F H hq h;exact hq _ _ _ h
 | rf gx ps asx b iha ihb =>
  intro Q Q' F H hq h
  simp only[AW]at h ⊢
  cases hge:gx.ev F with
  | fn f first caps =>
   cases first with
   | nil =>
    rw[hge]at h
    simp only at h ⊢
    obtain⟨ks,xs,H0,H1,I,Ir,a1,a2,a3,a4,a5,a7,a8,hr,he,hx⟩:=h
    exact⟨ks,xs,H0,H1,I,Ir,a1,a2,a3,a4,a5,a7,a8,hr,fun G h1 h2=>hq _ _ _ (he G h1 h2),fun G h1 h2=>hq _ _ _ (hx G h1 h2)⟩
   | cons y ys=>rw[hge]at h;exact h.elim
  | _=>rw[hge]at h;exact h.elim
 | bad=>intro Q Q' F H hq h;exact h
end
section
variable {σ:Type} {P:Prg} {Q:AEx->Fr->Zaa->Prop} {F:Fr} {H:Zaa} {i n t2 N k id:Nat} {inv:Nat->σ->Prop} {Fs:Nat->σ->Fr} {Hs:Nat->σ->Zaa}
theorem Zaf {o:Zb3}:(H.alloc o).next=H.next+1:=Xc
theorem Zai {k:Nat}:(H.bump k).next=H.next+k:=Xc
theorem Zam {o:Zb3}:(H.set id o).next=H.next:=Xc
theorem ZaM {o o':Zb3} (h:id=H.next):(H.alloc o).set id o'=H.alloc o':=by subst h;exact Zla
end
class KBox where
 out:AV->Zaa->Prop
def Zap (P:Prg) (f:FuncId) (args:List AV) (H:Zaa) [K:KBox]:Prop:=Zay P f args H K.out
theorem Zap.use {P:Prg} {f:FuncId} {args:List AV} {H:Zaa} {K:AV->Zaa->Prop} {R:AV->Zaa->Prop} (h:Zay P f args H R) (k:∀r H',R r H'->K r H'):@Zap P f args H ⟨K⟩:=Zay.mono h k
theorem Zaq {r:AV} {H:Zaa} {R:AV->Zaa->Prop} (h:R r H):∃r2 H2,Zb6 r H r2 H2/\R r2 H2:=⟨_,_,Zb6.keep (fun _ _ h=>h) (zad _),h⟩
theorem Zak {p:Program} {pan:Value->Zaa->Prop} {eqT:EqT} {N:Nat} (hE:∀t ks,eqT t=some ks->Ziv p t ks) {f:FuncId} {ac:Zar} {rs:List Zcq} {args:List AV} {H:Zaa} {R:AV->Zaa->Prop} (hc:cFn p eqT f=some (ac,rs,N)) (hn:args.length<=N)
  (h:∀Q:AEx->Fr->Zaa->Prop,(∀F H,Q .ret F H=match ZcU F H rs with
   | some r=>∃r2 H2,Zb6 r H r2 H2/\R r2 H2
   | none=>False)->(∀F H,Q .normal F H=match ZcU F H rs with
   | some r=>∃r2 H2,Zb6 r H r2 H2/\R r2 H2
   | none=>False)->AW ⟨p,pan⟩ ac Q (Za2 0 args) H):Zay ⟨p,pan⟩ f args H R :=
 ZxQ (P:=⟨p,pan⟩) hE hc hn (h (Zge rs R) (fun _ _=>rfl) (fun _ _=>rfl))
class PBox where
 out:Prop
def Zas (o:Option (AV×Zaa)) [K:KBox]:Prop:=match o with
 | some (v,H)=>K.out v H
 | none=>False
theorem ZkT {v:AV} {H:Zaa} {k:AV->Zaa->Prop}:@Zas (some (v,H)) ⟨k⟩=k v H:=propext zae
def ZmT (v:AV) [A:PBox] [B:KBox]:Prop:=match v with
 | .sc (.bool t)=>bif t then A.out else B.out .any Zaa.emp
 | .ub=>A.out/\B.out .any Zaa.emp
 | _=>False
theorem CondK_t {A:Prop} {B:AV->Zaa->Prop}:@ZmT (.sc (.bool true)) ⟨A⟩ ⟨B⟩=A:=propext zae
theorem CondK_f {A:Prop} {B:AV->Zaa->Prop}:@ZmT (.sc (.bool false)) ⟨A⟩ ⟨B⟩=B .any Zaa.emp:=propext zae
theorem CondK_u {A:Prop} {B:AV->Zaa->Prop}:@ZmT .ub ⟨A⟩ ⟨B⟩=(A/\B .any Zaa.emp):=propext zae
def GdK (v:AV) (b:Bool) [A:PBox] [B:KBox]:Prop:=match v with
 | .sc (.bool c)=>bif c == b then A.out else B.out .any Zaa.emp
 | .sc _=>B.out .any Zaa.emp
 | _=>False
theorem GdK_tt {A:Prop} {B:AV->Zaa->Prop}:@GdK (.sc (.bool true)) true ⟨A⟩ ⟨B⟩=A:=propext zae
theorem GdK_ff {A:Prop} {B:AV->Zaa->Prop}:@GdK (.sc (.bool false)) false ⟨A⟩ ⟨B⟩=A:=propext zae
theorem GdK_tf {A:Prop} {B:AV->Zaa->Prop}:@GdK (.sc (.bool true)) false ⟨A⟩ ⟨B⟩=B .any Zaa.emp:=propext zae
theorem GdK_ft {A:Prop} {B:AV->Zaa->Prop}:@GdK (.sc (.bool false)) true ⟨A⟩ ⟨B⟩=B .any Zaa.emp:=propext zae
theorem GdK_u {A:Prop} {B:AV->Zaa->Prop} {b:Bool}:@GdK ZaO b ⟨A⟩ ⟨B⟩=B .any Zaa.emp:=propext zae
theorem Zad {c:Bool} {A:Prop} {B:AV->Zaa->Prop} (h1:c=true->A) (h2:c=false->B .any Zaa.emp):@GdK (.sc (.bool c)) true ⟨A⟩ ⟨B⟩:=by
 cases c
 ·exact h2 rfl
 ·exact h1 rfl
theorem Zac {c:Bool} {A:Prop} {B:AV->Zaa->Prop} (h1:c=false->A) (h2:c=true->B .any Zaa.emp):@GdK (.sc (.bool c)) false ⟨A⟩ ⟨B⟩:=by
 cases c
 ·exact h1 rfl
 ·exact h2 rfl
theorem Zab {c:Bool} {A:Prop} {B:AV->Zaa->Prop} (h1:c=true->A) (h2:c=false->B .any Zaa.emp):@ZmT (.sc (.bool c)) ⟨A⟩ ⟨B⟩:=by
 cases c
 ·exact h2 rfl
 ·exact h1 rfl
def ZlY (P:Prg) (f:AV) (args:List AV) (H:Zaa) [K:KBox]:Prop:=match f with
 | .fn h first caps=>Zay P h (first++args++caps) H K.out
 | _=>False
theorem CallF_fn {P:Prg} {h:FuncId} {first caps args:List AV} {H:Zaa} {k:AV->Zaa->Prop}:@ZlY P (.fn h first caps) args H ⟨k⟩=@Zap P h (first++args++caps) H ⟨k⟩:=propext zae
def NxtB (H:Zaa) (str:Bool) (x:AV) [K:KBox]:Prop:=Zj7 H str x K.out
def ApvB (H:Zaa) (E sz bytes:Nat) (zero:List AV) (s x:AV) [K:KBox]:Prop:=Zk3 H E sz bytes zero s x K.out
section
variable {P:Prg} {Q:AEx->Fr->Zaa->Prop} {F:Fr} {H:Zaa} {a b:Zar} {K:Fr->Zaa->Prop} {l:List AI} {ld:List (AI×List AI)} {d:Option Nat} {c:AX} {id k:Nat}
theorem Y_seq:AW P (.seq a b) Q F H=AW P a (SeqQ P b Q) F H:=propext zae
theorem Y_reg:AW P (.reg l) Q F H=Zau P l F H (Q .normal):=propext zae
theorem Y_drw:AW P (.drw ld) Q F H=Zaj P ld F H (Q .normal):=propext zae
theorem Y_blk:AW P (.blk id a) Q F H=AW P a (BlkQ id Q) F H:=propext zae
theorem Y_cond:AW P (.cond c a b) Q F H=@ZmT (c.ev F) ⟨AW P a Q F H⟩ ⟨fun _ _=>AW P b Q F H⟩:=propext zae
theorem Y_skip:AW P .skip Q F H=Q .normal F H:=propext zae
theorem Y_ret:AW P .ret Q F H=Q .ret F H:=propext zae
theorem Y_exit:AW P (.exit id) Q F H=Q (.exit id) F H:=propext zae
theorem Y_sn:SeqQ P b Q .normal F H=AW P b Q F H:=propext zae
theorem Y_sr:SeqQ P b Q .ret F H=Q .ret F H:=propext zae
theorem Y_se:SeqQ P b Q (.exit id) F H=Q (.exit id) F H:=propext zae
theorem Y_bn:BlkQ id Q .normal F H=Q .normal F H:=propext zae
theorem Y_br:BlkQ id Q .ret F H=Q .ret F H:=propext zae
theorem Y_be:BlkQ id Q (.exit k) F H=if k=id then Q .normal F H else Q (.exit k) F H:=propext zae
theorem Y_nil:Zau P [] F H K=K F H:=propext zae
theorem Y_dnil:Zaj P [] F H K=K F H:=propext zae
theorem Y_g {s:Nat} {t:Bool} {op:AOp}:Zau P (⟨some (s,t),d,op⟩ :: l) F H K=@GdK (Fr.get F s) t ⟨Zau P (⟨none,d,op⟩ :: l) F H K⟩ ⟨fun _ _=>Zau P l (Fr.put F d ZaO) H K⟩:=by
 simp only[Zau,AI.want,GdK,AI.step]
 cases Fr.get F s with
 | sc v =>
  cases v with
  | bool c=>cases c<;>cases t<;>rfl
  | _=>rfl
 | _=>rfl
theorem Y_dg {s:Nat} {t:Bool} {op:AOp} {chk:List AI}:Zaj P ((⟨some (s,t),d,op⟩,chk) :: ld) F H K=@GdK (Fr.get F s) t ⟨Zaj P ((⟨none,d,op⟩,chk) :: ld) F H K⟩ ⟨fun _ _=>Zaj P ld (Fr.put F d ZaO) H K⟩:=by
 simp only[Zaj,AI.want,GdK,AI.step]
 cases Fr.get F s with
 | sc v =>
  cases v with
  | bool c=>cases c<;>cases t<;>rfl
  | _=>rfl
 | _=>rfl
theorem Y_call {f:AX} {args:List AX}:Zau P (⟨none,d,.call f args⟩ :: l) F H K=@ZlY P (f.ev F) (evs F args) H ⟨fun r H'=>Zau P l (Fr.put F d r) H' K⟩:=propext zae
theorem Y_dcall0 {f:AX} {args:List AX}:Zaj P ((⟨none,d,.call f args⟩,[]) :: ld) F H K=@ZlY P (f.ev F) (evs F args) H ⟨fun r H'=>Zaj P ld (Fr.put F d r) H' K⟩:=by
 simp only[Zaj,AI.want,AI.step,ZlY,zbO,false_implies,implies_true,true_and]
 rfl
theorem Y_dcall {f:AX} {args:List AX} {r0:AI} {chk:List AI}:Zaj P ((⟨none,d,.call f args⟩,r0 :: chk) :: ld) F H K=@ZlY P (f.ev F) (evs F args) H ⟨fun v H'=>(∀r∈r0 :: chk,r.stable (Fr.put F d v) H')/\Zaj P ld (Fr.put F d v) H' K⟩:=propext zae
theorem Y_apv {E sz bytes:Nat} {z:List AV} {s x:AX}:Zau P (⟨none,d,.apv E sz bytes z s x⟩ :: l) F H K=@ApvB H E sz bytes z (s.ev F) (x.ev F) ⟨fun r H'=>Zau P l (Fr.put F d r) H' K⟩:=propext zae
theorem Y_dapv0 {E sz bytes:Nat} {z:List AV} {s x:AX}:Zaj P ((⟨none,d,.apv E sz bytes z s x⟩,[]) :: ld) F H K=@ApvB H E sz bytes z (s.ev F) (x.ev F) ⟨fun r H'=>Zaj P ld (Fr.put F d r) H' K⟩:=by
 simp only[Zaj,AI.want,AI.step,ApvB,zbO,false_implies,implies_true,true_and]
theorem Y_dapv {E sz bytes:Nat} {z:List AV} {s x:AX} {r0:AI} {chk:List AI}:Zaj P ((⟨none,d,.apv E sz bytes z s x⟩,r0 :: chk) :: ld) F H K=@ApvB H E sz bytes z (s.ev F) (x.ev F) ⟨fun v H'=>(∀r∈r0 :: chk,r.stable (Fr.put F d v) H')/\Zaj P ld (Fr.put F d v) H' K⟩:=propext zae
theorem Y_nxt {s:Bool} {x:AX}:Zau P (⟨none,d,.nxt s x⟩ :: l) F H K=@NxtB H s (x.ev F) ⟨fun r H'=>Zau P l (Fr.put F d r) H' K⟩:=propext zae
theorem Y_dnxt0 {s:Bool} {x:AX}:Zaj P ((⟨none,d,.nxt s x⟩,[]) :: ld) F H K=@NxtB H s (x.ev F) ⟨fun r H'=>Zaj P ld (Fr.put F d r) H' K⟩:=by
 simp only[Zaj,AI.want,AI.step,NxtB,zbO,false_implies,implies_true,true_and]
theorem Y_mv {x:AX}:Zau P (⟨none,d,.mv x⟩ :: l) F H K=Zau P l (Fr.put F d (x.ev F)) H K:=propext zae
theorem Y_dmv {x:AX}:Zaj P ((⟨none,d,.mv x⟩,[]) :: ld) F H K=Zaj P ld (Fr.put F d (x.ev F)) H K:=by
 simp only[Zaj,AI.want,AI.step,AOp.ev,zbO,false_implies,implies_true,true_and]
abbrev YPo (o:AOp):Prop:=∀{P:Prg} {d:Option Nat} {l:List AI} {F:Fr} {H:Zaa} {K:Fr->Zaa->Prop},Zau P (⟨none,d,o⟩ :: l) F H K=@Zas (AOp.ev F H o) ⟨fun v H'=>Zau P l (Fr.put F d v) H' K⟩
abbrev YPd (o:AOp):Prop:=∀{P:Prg} {d:Option Nat} {ld:List (AI×List AI)} {F:Fr} {H:Zaa} {K:Fr->Zaa->Prop},Zaj P ((⟨none,d,o⟩,[]) :: ld) F H K=@Zas (AOp.ev F H o) ⟨fun v H'=>Zaj P ld (Fr.put F d v) H' K⟩
abbrev YPe (o:AOp):Prop:=∀{P:Prg} {d:Option Nat} {ld:List (AI×List AI)} {F:Fr} {H:Zaa} {K:Fr->Zaa->Prop} {r0:AI} {chk:List AI},Zaj P ((⟨none,d,o⟩,r0 :: chk) :: ld) F H K=@Zas (AOp.ev F H o) ⟨fun v H'=>(∀r∈r0 :: chk,r.stable (Fr.put F d v) H')/\Zaj P ld (Fr.put F d v) H' K⟩
abbrev YPc (o:AOp):Prop:=∀{P:Prg} {d:Option Nat} {ld:List (AI×List AI)} {F:Fr} {H:Zaa} {K:Fr->Zaa->Prop} {chk:List AI},Zaj P ((⟨none,d,o⟩,chk) :: ld) F H K=@Zas (AOp.ev F H o) ⟨fun v H'=>(∀r∈chk,r.stable (Fr.put F d v) H')/\Zaj P ld (Fr.put F d v) H' K⟩
theorem ypd {o:AOp} (h:YPc o):YPd o:=by
 intro P d ld F H K
 rw[h]
 exact congrArg (fun k=>@Zas (AOp.ev F H o) ⟨k⟩) (funext fun v=>funext fun H'=>by simp only[zbO,false_implies,implies_true,true_and])
theorem Y_pick {c a b:AX}:YPo (.pick c a b):=propext zae
theorem Yd_pick {c a b:AX}:YPd (.pick c a b):=ypd (propext zae)
theorem Ye_pick {c a b:AX}:YPe (.pick c a b):=propext zae
theorem Y_box {E:TypeId} {x:AX}:YPo (.box E x):=propext zae
theorem Yd_box {E:TypeId} {x:AX}:YPd (.box E x):=ypd (propext zae)
theorem Ye_box {E:TypeId} {x:AX}:YPe (.box E x):=propext zae
theorem Y_bld {zero:List AV} {parts:List (Nat×Nat×AX)}:YPo (.bld zero parts):=propext zae
theorem Yd_bld {zero:List AV} {parts:List (Nat×Nat×AX)}:YPd (.bld zero parts):=ypd (propext zae)
theorem Ye_bld {zero:List AV} {parts:List (Nat×Nat×AX)}:YPe (.bld zero parts):=propext zae
theorem Y_bsl {sz:Nat} {parts:List AX}:YPo (.bsl sz parts):=propext zae
theorem Yd_bsl {sz:Nat} {parts:List AX}:YPd (.bsl sz parts):=ypd (propext zae)
theorem Ye_bsl {sz:Nat} {parts:List AX}:YPe (.bsl sz parts):=propext zae
theorem Y_bsv {E sz:Nat} {parts:List AX}:YPo (.bsv E sz parts):=propext zae
theorem Yd_bsv {E sz:Nat} {parts:List AX}:YPd (.bsv E sz parts):=ypd (propext zae)
theorem Ye_bsv {E sz:Nat} {parts:List AX}:YPe (.bsv E sz parts):=propext zae
theorem Y_ld {sz:Nat} {agg:Bool} {x:AX}:YPo (.ld sz agg x):=propext zae
theorem Yd_ld {sz:Nat} {agg:Bool} {x:AX}:YPd (.ld sz agg x):=ypd (propext zae)
theorem Ye_ld {sz:Nat} {agg:Bool} {x:AX}:YPe (.ld sz agg x):=propext zae
theorem Y_st {sz:Nat} {x y:AX}:YPo (.st sz x y):=propext zae
theorem Yd_st {sz:Nat} {x y:AX}:YPd (.st sz x y):=ypd (propext zae)
theorem Ye_st {sz:Nat} {x y:AX}:YPe (.st sz x y):=propext zae
theorem Y_nck {x:AX}:YPo (.nck x):=propext zae
theorem Yd_nck {x:AX}:YPd (.nck x):=ypd (propext zae)
theorem Ye_nck {x:AX}:YPe (.nck x):=propext zae
theorem Y_bin {op:BinOp} {x y:AX}:YPo (.bin op x y):=propext zae
theorem Yd_bin {op:BinOp} {x y:AX}:YPd (.bin op x y):=ypd (propext zae)
theorem Ye_bin {op:BinOp} {x y:AX}:YPe (.bin op x y):=propext zae
theorem Y_eqf {ks:List SK} {neg:Bool} {x y:AX}:YPo (.eqf ks neg x y):=propext zae
theorem Yd_eqf {ks:List SK} {neg:Bool} {x y:AX}:YPd (.eqf ks neg x y):=ypd (propext zae)
theorem Ye_eqf {ks:List SK} {neg:Bool} {x y:AX}:YPe (.eqf ks neg x y):=propext zae
theorem Y_bnb {neg:Bool} {x y:AX}:YPo (.bnb neg x y):=propext zae
theorem Yd_bnb {neg:Bool} {x y:AX}:YPd (.bnb neg x y):=ypd (propext zae)
theorem Ye_bnb {neg:Bool} {x y:AX}:YPe (.bnb neg x y):=propext zae
theorem Y_eqn {kd:Nat} {neg:Bool} {x y:AX}:YPo (.eqn kd neg x y):=propext zae
theorem Yd_eqn {kd:Nat} {neg:Bool} {x y:AX}:YPd (.eqn kd neg x y):=ypd (propext zae)
theorem Ye_eqn {kd:Nat} {neg:Bool} {x y:AX}:YPe (.eqn kd neg x y):=propext zae
theorem Y_un {op:UnOp} {x:AX}:YPo (.un op x):=propext zae
theorem Yd_un {op:UnOp} {x:AX}:YPd (.un op x):=ypd (propext zae)
theorem Ye_un {op:UnOp} {x:AX}:YPe (.un op x):=propext zae
theorem Y_cnv {k:IntKind} {x:AX}:YPo (.cnv k x):=propext zae
theorem Yd_cnv {k:IntKind} {x:AX}:YPd (.cnv k x):=ypd (propext zae)
theorem Ye_cnv {k:IntKind} {x:AX}:YPe (.cnv k x):=propext zae
theorem Y_sob {x:AX}:YPo (.sob x):=propext zae
theorem Yd_sob {x:AX}:YPd (.sob x):=ypd (propext zae)
theorem Ye_sob {x:AX}:YPe (.sob x):=propext zae
theorem Y_clr {m:AX}:YPo (.clr m):=propext zae
theorem Yd_clr {m:AX}:YPd (.clr m):=ypd (propext zae)
theorem Ye_clr {m:AX}:YPe (.clr m):=propext zae
theorem Y_cpy {sz:Nat} {x y:AX}:YPo (.cpy sz x y):=propext zae
theorem Yd_cpy {sz:Nat} {x y:AX}:YPd (.cpy sz x y):=ypd (propext zae)
theorem Ye_cpy {sz:Nat} {x y:AX}:YPe (.cpy sz x y):=propext zae
theorem Y_mkf {f:FuncId} {first caps:List AX}:YPo (.mkf f first caps):=propext zae
theorem Yd_mkf {f:FuncId} {first caps:List AX}:YPd (.mkf f first caps):=ypd (propext zae)
theorem Ye_mkf {f:FuncId} {first caps:List AX}:YPe (.mkf f first caps):=propext zae
theorem Y_mks {E sz bytes:Nat} {zero:List AV} {l c:AX}:YPo (.mks E sz bytes zero l c):=propext zae
theorem Yd_mks {E sz bytes:Nat} {zero:List AV} {l c:AX}:YPd (.mks E sz bytes zero l c):=ypd (propext zae)
theorem Ye_mks {E sz bytes:Nat} {zero:List AV} {l c:AX}:YPe (.mks E sz bytes zero l c):=propext zae
theorem Y_slc {sz:Nat} {x:AX} {lo hi mx:Option AX}:YPo (.slc sz x lo hi mx):=propext zae
theorem Yd_slc {sz:Nat} {x:AX} {lo hi mx:Option AX}:YPd (.slc sz x lo hi mx):=ypd (propext zae)
theorem Ye_slc {sz:Nat} {x:AX} {lo hi mx:Option AX}:YPe (.slc sz x lo hi mx):=propext zae
theorem Y_slS {x:AX} {lo hi:Option AX}:YPo (.slS x lo hi):=propext zae
theorem Yd_slS {x:AX} {lo hi:Option AX}:YPd (.slS x lo hi):=ypd (propext zae)
theorem Ye_slS {x:AX} {lo hi:Option AX}:YPe (.slS x lo hi):=propext zae
theorem Y_sla {n sz:Nat} {x:AX} {lo hi mx:Option AX}:YPo (.sla n sz x lo hi mx):=propext zae
theorem Yd_sla {n sz:Nat} {x:AX} {lo hi mx:Option AX}:YPd (.sla n sz x lo hi mx):=ypd (propext zae)
theorem Ye_sla {n sz:Nat} {x:AX} {lo hi mx:Option AX}:YPe (.sla n sz x lo hi mx):=propext zae
theorem Y_fla {off:Nat} {x:AX}:YPo (.fla off x):=propext zae
theorem Yd_fla {off:Nat} {x:AX}:YPd (.fla off x):=ypd (propext zae)
theorem Ye_fla {off:Nat} {x:AX}:YPe (.fla off x):=propext zae
theorem Y_fld {off sz:Nat} {agg:Bool} {x:AX}:YPo (.fld off sz agg x):=propext zae
theorem Yd_fld {off sz:Nat} {agg:Bool} {x:AX}:YPd (.fld off sz agg x):=ypd (propext zae)
theorem Ye_fld {off sz:Nat} {agg:Bool} {x:AX}:YPe (.fld off sz agg x):=propext zae
theorem Y_ixa {sz:Nat} {x i:AX}:YPo (.ixa sz x i):=propext zae
theorem Yd_ixa {sz:Nat} {x i:AX}:YPd (.ixa sz x i):=ypd (propext zae)
theorem Ye_ixa {sz:Nat} {x i:AX}:YPe (.ixa sz x i):=propext zae
theorem Y_ixA {n sz:Nat} {x i:AX}:YPo (.ixA n sz x i):=propext zae
theorem Yd_ixA {n sz:Nat} {x i:AX}:YPd (.ixA n sz x i):=ypd (propext zae)
theorem Ye_ixA {n sz:Nat} {x i:AX}:YPe (.ixA n sz x i):=propext zae
theorem Y_ixv {n sz:Nat} {agg:Bool} {x i:AX}:YPo (.ixv n sz agg x i):=propext zae
theorem Yd_ixv {n sz:Nat} {agg:Bool} {x i:AX}:YPd (.ixv n sz agg x i):=ypd (propext zae)
theorem Ye_ixv {n sz:Nat} {agg:Bool} {x i:AX}:YPe (.ixv n sz agg x i):=propext zae
theorem Y_ixs {x i:AX}:YPo (.ixs x i):=propext zae
theorem Yd_ixs {x i:AX}:YPd (.ixs x i):=ypd (propext zae)
theorem Ye_ixs {x i:AX}:YPe (.ixs x i):=propext zae
theorem Y_ext {x:AX} {i:Nat}:YPo (.ext x i):=propext zae
theorem Yd_ext {x:AX} {i:Nat}:YPd (.ext x i):=ypd (propext zae)
theorem Ye_ext {x:AX} {i:Nat}:YPe (.ext x i):=propext zae
theorem Y_len {str:Bool} {x:AX}:YPo (.len str x):=propext zae
theorem Yd_len {str:Bool} {x:AX}:YPd (.len str x):=ypd (propext zae)
theorem Ye_len {str:Bool} {x:AX}:YPe (.len str x):=propext zae
theorem Y_app {E sz bytes:Nat} {s x:AX}:YPo (.app E sz bytes s x):=propext zae
theorem Yd_app {E sz bytes:Nat} {s x:AX}:YPd (.app E sz bytes s x):=ypd (propext zae)
theorem Ye_app {E sz bytes:Nat} {s x:AX}:YPe (.app E sz bytes s x):=propext zae
theorem Y_mm {max:Bool} {x y:AX}:YPo (.mm max x y):=propext zae
theorem Yd_mm {max:Bool} {x y:AX}:YPd (.mm max x y):=ypd (propext zae)
theorem Ye_mm {max:Bool} {x y:AX}:YPe (.mm max x y):=propext zae
theorem Y_mkm {kk:KK}:YPo (.mkm kk):=propext zae
theorem Yd_mkm {kk:KK}:YPd (.mkm kk):=ypd (propext zae)
theorem Ye_mkm {kk:KK}:YPe (.mkm kk):=propext zae
theorem Y_lkp {kk:KK} {zero:AV} {ok:Bool} {m k:AX}:YPo (.lkp kk zero ok m k):=propext zae
theorem Yd_lkp {kk:KK} {zero:AV} {ok:Bool} {m k:AX}:YPd (.lkp kk zero ok m k):=ypd (propext zae)
theorem Ye_lkp {kk:KK} {zero:AV} {ok:Bool} {m k:AX}:YPe (.lkp kk zero ok m k):=propext zae
theorem Y_mup {kk:KK} {m k x:AX}:YPo (.mup kk m k x):=propext zae
theorem Yd_mup {kk:KK} {m k x:AX}:YPd (.mup kk m k x):=ypd (propext zae)
theorem Ye_mup {kk:KK} {m k x:AX}:YPe (.mup kk m k x):=propext zae
theorem Y_del {kk:KK} {m k:AX}:YPo (.del kk m k):=propext zae
theorem Yd_del {kk:KK} {m k:AX}:YPd (.del kk m k):=ypd (propext zae)
theorem Ye_del {kk:KK} {m k:AX}:YPe (.del kk m k):=propext zae
theorem Y_eqs {neg:Bool} {x:AX}:YPo (.eqs neg x):=propext zae
theorem Yd_eqs {neg:Bool} {x:AX}:YPd (.eqs neg x):=ypd (propext zae)
theorem Ye_eqs {neg:Bool} {x:AX}:YPe (.eqs neg x):=propext zae
theorem Y_cap {x:AX}:YPo (.cap x):=propext zae
theorem Yd_cap {x:AX}:YPd (.cap x):=ypd (propext zae)
theorem Ye_cap {x:AX}:YPe (.cap x):=propext zae
end
def YA:=an7 @Y_seq<|an7 @Y_reg<|an7 @Y_drw<|an7 @Y_blk<|an7 @Y_cond<|an7 @Y_skip<|an7 @Y_ret<|an7 @Y_exit<|an7 @Y_sn<|an7 @Y_sr<|an7 @Y_se<|an7 @Y_bn<|an7 @Y_br<|an7 @Y_be<|an7 @Y_nil<|an7 @Y_dnil<|an7 @Y_g<|an7 @Y_dg<|an7 @Y_call<|an7 @Y_dcall0<|an7 @Y_dcall<|an7 @Y_apv<|an7 @Y_dapv0<|an7 @Y_dapv<|an7 @Y_nxt<|an7 @Y_dnxt0<|an7 @Y_mv<|an7 @Y_dmv<|an7 @ZkT<|an7 @CondK_t<|an7 @CondK_f<|an7 @CondK_u<|an7 @GdK_tt<|an7 @GdK_ff<|an7 @GdK_tf<|an7 @GdK_ft<|an7 @GdK_u<|an7 @CallF_fn<|an7 @Y_pick<|an7 @Yd_pick<|an7 @Ye_pick<|an7 @Y_box<|an7 @Yd_box<|an7 @Ye_box<|an7 @Y_bld<|an7 @Yd_bld<|an7 @Ye_bld<|an7 @Y_bsl<|an7 @Yd_bsl<|an7 @Ye_bsl<|an7 @Y_bsv<|an7 @Yd_bsv<|an7 @Ye_bsv<|an7 @Y_ld<|an7 @Yd_ld<|an7 @Ye_ld<|an7 @Y_st<|an7 @Yd_st<|an7 @Ye_st<|an7 @Y_nck<|an7 @Yd_nck<|an7 @Ye_nck<|an7 @Y_bin<|an7 @Yd_bin<|an7 @Ye_bin<|an7 @Y_eqf<|an7 @Yd_eqf<|an7 @Ye_eqf<|an7 @Y_bnb<|an7 @Yd_bnb<|an7 @Ye_bnb<|an7 @Y_eqn<|an7 @Yd_eqn<|an7 @Ye_eqn<|an7 @Y_un<|an7 @Yd_un<|an7 @Ye_un<|an7 @Y_cnv<|an7 @Yd_cnv<|an7 @Ye_cnv<|an7 @Y_sob<|an7 @Yd_sob<|an7 @Ye_sob<|an7 @Y_clr<|an7 @Yd_clr<|an7 @Ye_clr<|an7 @Y_cpy<|an7 @Yd_cpy<|an7 @Ye_cpy<|an7 @Y_mkf<|an7 @Yd_mkf<|an7 @Ye_mkf<|an7 @Y_mks<|an7 @Yd_mks<|an7 @Ye_mks<|an7 @Y_slc<|an7 @Yd_slc<|an7 @Ye_slc<|an7 @Y_slS<|an7 @Yd_slS<|an7 @Ye_slS<|an7 @Y_sla<|an7 @Yd_sla<|an7 @Ye_sla<|an7 @Y_fla<|an7 @Yd_fla<|an7 @Ye_fla<|an7 @Y_fld<|an7 @Yd_fld<|an7 @Ye_fld<|an7 @Y_ixa<|an7 @Yd_ixa<|an7 @Ye_ixa<|an7 @Y_ixA<|an7 @Yd_ixA<|an7 @Ye_ixA<|an7 @Y_ixv<|an7 @Yd_ixv<|an7 @Ye_ixv<|an7 @Y_ixs<|an7 @Yd_ixs<|an7 @Ye_ixs<|an7 @Y_ext<|an7 @Yd_ext<|an7 @Ye_ext<|an7 @Y_len<|an7 @Yd_len<|an7 @Ye_len<|an7 @Y_app<|an7 @Yd_app<|an7 @Ye_app<|an7 @Y_mm<|an7 @Yd_mm<|an7 @Ye_mm<|an7 @Y_mkm<|an7 @Yd_mkm<|an7 @Ye_mkm<|an7 @Y_lkp<|an7 @Yd_lkp<|an7 @Ye_lkp<|an7 @Y_mup<|an7 @Yd_mup<|an7 @Ye_mup<|an7 @Y_del<|an7 @Yd_del<|an7 @Ye_del<|an7 @Y_eqs<|an7 @Yd_eqs<|an7 @Ye_eqs<|an7 @Y_cap<|an7 @Yd_cap<|@Ye_cap
abbrev Zjd (w:World):Nat->Nat->Prop:=fun b _=>b<w.heap.size
section
variable {w:World}
theorem Ztd {s:Sh} {v:Value} {y:s.D} {a:AV} (hp:s.pos) (h:s.Is w (·<w.heap.size) [v] y) (he:s.enc y=[a]):VR (Gh.ro (Zjd w)) w a v:=by
 obtain⟨h1,h2⟩:=Sh.Is.vr (g:=Gh.ro (Zjd w)) (fun b hb _=>hb) hp h
 rw[he]at h1
 exact h1.2 0 a v rfl rfl
theorem Zay.true {P:Program} {f:FuncId} {args:List AV} {vs:List Value} (h:Zay P f args Zaa.emp fun r _=>r=.b true) (hV:VRs (Gh.ro (Zjd w)) w args vs) (hEn:EnvP (Zjd w) w:=by exact trivial):Calls P f vs.toArray w fun e w'=>e=.returned (.bool true)/\Below w.heap.size w w' :=
 Zay.calls h (fun _ _ h=>h) (fun _ _ h=>h) hV hEn
end
def ForQ (I:Nat->Fr->Zaa->Prop) (id i t2 k:Nat) (Q:AEx->Fr->Zaa->Prop):AEx->Fr->Zaa->Prop:=fun e F H=>match e with
 | .normal=>Fr.get F i=.i (k:Int)/\I (k+1) ((i,.i ((k+1:Nat):Int)) :: (t2,.i ((k+1:Nat):Int)) :: F) H
 | .exit j=>if j=id then Q .normal F H else Q (.exit j) F H
 | .ret=>Q .ret F H
def LopQ (I:Nat->Fr->Zaa->Prop) (n:Nat) (Q:AEx->Fr->Zaa->Prop):AEx->Fr->Zaa->Prop:=fun e F H=>match e with
 | .normal=>∃m,m<n/\I m F H
 | .exit j=>Q (.exit j) F H
 | .ret=>Q .ret F H
section
variable {P:Prg} {Q:AEx->Fr->Zaa->Prop} {F:Fr} {H:Zaa} {i t1 t2 N k n id j:Nat} {I:Nat->Fr->Zaa->Prop} {body:Zar} {X:AX}
theorem ForQ_n:ForQ I id i t2 k Q .normal F H=(Fr.get F i=.i (k:Int)/\I (k+1) ((i,.i ((k+1:Nat):Int)) :: (t2,.i ((k+1:Nat):Int)) :: F) H):=propext zae
theorem ForQ_r:ForQ I id i t2 k Q .ret F H=Q .ret F H:=propext zae
theorem ForQ_e:ForQ I id i t2 k Q (.exit j) F H=if j=id then Q .normal F H else Q (.exit j) F H:=propext zae
theorem LopQ_n:LopQ I n Q .normal F H=∃m,m<n/\I m F H:=propext zae
theorem LopQ_r:LopQ I n Q .ret F H=Q .ret F H:=propext zae
theorem Zlo:LopQ I n Q (.exit j) F H=Q (.exit j) F H:=propext zae
theorem Zg1 (I:Nat->Fr->Zaa->Prop) (n:Nat) {F1:Fr} {H1:Zaa} (hg:GStep F H F1 H1) (h0:I n F1 H1) (round:∀n F H,I n F H->AW P body (LopQ I n Q) F H):AW P (.loop body) Q F H:=by
 refine⟨I,⟨n,F1,H1,hg,h0⟩,fun n F H hI=>ZeH body _ _ _ _ (fun e F' H' h=>?_) (round n F H hI)⟩
 cases e with
 | normal =>
  obtain⟨m,hm,h⟩:=h
  exact⟨m,F',H',hm,GStep.refl _ _,h⟩
 | exit j=>exact h
 | ret=>exact h
theorem ZbJ (I:Nat->Fr->Zaa->Prop) (hN:N<=maxLen) (hX:∀k F H,I k F H->Fr.get F i=.i (k:Int)/\X.ev F=.i (N:Int)) {F1:Fr} {H1:Zaa} (hg:GStep F H F1 H1) (h0:I 0 F1 H1)
  (round:∀k F H,k<N->I k F H->AW P body (ForQ I id i t2 k Q) ((t1,.b true) :: F) H)
  (fin:∀F H,I N F H->Q .normal ((t1,.b false) :: F) H) :
  AW P (.blk id (.loop (.seq (.reg [⟨none,some t1,.bin .lss (.t i) X⟩]) (.seq (.cond (.t t1) .skip (.exit id)) (.seq body (.reg [⟨none,some t2,.bin .add (.t i) (.c (.sc (.int .i64 1)))⟩,⟨none,some i,.mv (.t t2)⟩])))))) Q F H:=by
 rw[Za8]
 refine Zg1 (fun n F H=>∃k,k<=N/\n=N - k/\I k F H) (N - 0) hg ⟨0,zat _,rfl,h0⟩ ?_
 rintro n F H ⟨k,hk,rfl,hI⟩
 obtain⟨hi,hx⟩:=hX k F H hI
 by_cases h1:k<N
 ·have d1:decide ((k:Int)<(N:Int))=true:=by simp;omega
  simp only[ZaZ,Za1,Zau,AI.want,AI.step,AOp.ev,hx]
  simp only[AX.ev,Fr.put,Za0,ZaZ,hi,ZaI,Za4,if_true,Option.map_some,d1,ZaK,Fr.get,cond_true,ZaS]
  refine ZeH body _ _ _ _ (fun e F' H' h=>?_) (round k F H h1 hI)
  cases e with
  | normal =>
   obtain⟨h3,h4⟩:=h
   have hw:IntKind.i64.wrap ((k:Int)+1)=((k+1:Nat):Int):=by
    rw[Zaw Xa (by unfold maxLen at hN;omega)];omega
   simp only[Za0,Za1,Zau,AI.want,AI.step,AOp.ev,AX.ev,Fr.put,h3,ZaI,Za4,if_true,Option.map_some,hw,Fr.get,LopQ_n]
   exact⟨N - (k+1),Xa,k+1,h1,rfl,h4⟩
  | exit j =>
   simp only[Za5,Zlo,Za6]
   exact h
  | ret=>exact h
 ·have d1:decide ((k:Int)<(N:Int))=false:=by simp;omega
  obtain rfl:k=N:=Xa
  simp only[ZaZ,Za1,Zau,AI.want,AI.step,AOp.ev,hx]
  simp only[AX.ev,Fr.put,Za0,ZaZ,hi,ZaI,Za4,if_true,Option.map_some,d1,ZaK,Fr.get,cond_false,ZaT,Za5,Zlo,Za6]
  exact fin F H hI
theorem ZdI {b c:Bool} {H0 H:Zaa} (hx:Zaa.Ext H0 H) (h:c=b):∃r2 H2,Zb6 (.sc (.bool c)) H r2 H2/\Pure H0 (.b b) r2 H2:=by subst h;exact ZaW hx rfl
theorem Zen {b c:Int} {H0 H:Zaa} (hx:Zaa.Ext H0 H) (h:c=b):∃r2 H2,Zb6 (.sc (.int .i64 c)) H r2 H2/\Pure H0 (.i b) r2 H2:=by subst h;exact ZaW hx rfl
end
set_option maxRecDepth 100000 in
theorem YF : (∀ {F : Fr} {H : Zaa} {x}, AOp.ev F H (.mv x) = some (x.ev F, H)) /\
  (∀ {F : Fr} {H : Zaa} {c a b}, AOp.ev F H (.pick c a b) = match c.ev F with
    | .sc (.bool t) => some (bif t then a.ev F else b.ev F, H)
    | _ => none) /\
  (∀ {F : Fr} {H : Zaa} {E x}, AOp.ev F H (.box E x) = match (x.ev F).cells with
    | some cs => some (.ptr H.next 0, H.alloc (.cells cs E))
    | none => none) /\
  (∀ {F : Fr} {H : Zaa} {zero parts}, AOp.ev F H (.bld zero parts) = match Zb9 F zero parts with
    | some cs => some (.agg cs, H)
    | none => none) /\
  (∀ {F : Fr} {H : Zaa} {sz parts}, AOp.ev F H (.bsl sz parts) = match rowsOf F sz parts with
    | some rows => some (.sl .full rows, H)
    | none => none) /\
  (∀ {F : Fr} {H : Zaa} {E sz parts}, AOp.ev F H (.bsv E sz parts) = match rowsOf F sz parts with
    | some (r :: rows) => some (.arr H.next 0 (rows.length + 1) (rows.length + 1), H.alloc (.cells (r :: rows).flatten E))
    | some [] => some (.sl .full [], H)
    | none => none) /\
  (∀ {F : Fr} {H : Zaa} {sz agg x}, AOp.ev F H (.ld sz agg x) = match x.ev F with
    | .el row off => (Zbd sz agg row off).map (·, H)
    | .ptr id off => match H.get id with
      | some (.cells cs _) => (Zbd sz agg cs off).map (·, H)
      | _ => none
    | _ => none) /\
  (∀ {F : Fr} {H : Zaa} {sz x y}, AOp.ev F H (.st sz x y) = match x.ev F, (y.ev F).cells with
    | .ptr id off, some vs => match H.get id with
      | some (.cells cs E) => if vs.length = sz /\ off + sz <= cs.length then some (ZaO, H.set id (.cells (splice cs off vs) E)) else none
      | _ => none
    | _, _ => none) /\
  (∀ {F : Fr} {H : Zaa} {x}, AOp.ev F H (.nck x) = match x.ev F with
    | .ptr id off => some (.ptr id off, H)
    | .el row off => some (.el row off, H)
    | .fn f a b => some (.fn f a b, H)
    | _ => none) /\
  (∀ {F : Fr} {H : Zaa} {op x y}, AOp.ev F H (.bin op x y) = match x.ev F, y.ev F with
    | .sc u, .sc v => (ZaI op u v).map fun r => (.sc r, H)
    | _, _ => none) /\
  (∀ {F : Fr} {H : Zaa} {ks neg x y}, AOp.ev F H (.eqf ks neg x y) = match x.ev F, y.ev F with
    | .agg cs, .agg ds => match scs ks cs, scs ks ds with
      | some us, some vs => some (.b (neg ^^ ZgE us vs), H)
      | _, _ => none
    | _, _ => none) /\
  (∀ {F : Fr} {H : Zaa} {neg x y}, AOp.ev F H (.bnb neg x y) = match x.ev F, y.ev F with
    | .sc (.bool a), .sc (.bool b) => some (.b (neg ^^ (a == b)), H)
    | _, _ => none) /\
  (∀ {F : Fr} {H : Zaa} {neg x y}, AOp.ev F H (.eqn 0 neg x y) = match x.ev F, y.ev F with
    | .sc (.pointer none), .sc (.pointer none) => some (.b (neg ^^ true), H)
    | .ptr _ _, .sc (.pointer none) => some (.b (neg ^^ false), H)
    | .el _ _, .sc (.pointer none) => some (.b (neg ^^ false), H)
    | _, _ => none) /\
  (∀ {F : Fr} {H : Zaa} {neg x y}, AOp.ev F H (.eqn 1 neg x y) = match x.ev F, y.ev F with
    | .sc (.map none), .sc (.map none) => some (.b (neg ^^ true), H)
    | .mp _, .sc (.map none) => some (.b (neg ^^ false), H)
    | _, _ => none) /\
  (∀ {F : Fr} {H : Zaa} {neg x y}, AOp.ev F H (.eqn 2 neg x y) = match x.ev F, y.ev F with
    | .sc .nilFunc, .sc .nilFunc => some (.b (neg ^^ true), H)
    | .fn _ _ _, .sc .nilFunc => some (.b (neg ^^ false), H)
    | _, _ => none) /\
  (∀ {F : Fr} {H : Zaa} {neg x y}, AOp.ev F H (.eqn 3 neg x y) = match x.ev F, y.ev F with
    | .sc .nilIface, .sc .nilIface => some (.b (neg ^^ true), H)
    | .sc (.iface _ _), .sc .nilIface => some (.b (neg ^^ false), H)
    | _, _ => none) /\
  (∀ {F : Fr} {H : Zaa} {op x}, AOp.ev F H (.un op x) = match x.ev F with
    | .sc u => (Zc4 op u).map fun r => (.sc r, H)
    | _ => none) /\
  (∀ {F : Fr} {H : Zaa} {k x}, AOp.ev F H (.cnv k x) = match x.ev F with
    | .sc (.int _ n) => some (.sc (.int k (k.wrap n)), H)
    | _ => none) /\
  (∀ {F : Fr} {H : Zaa} {x}, AOp.ev F H (.cvs x) = match x.ev F with
    | .sc (.string s) => some (.sc (.string s), H)
    | _ => none) /\
  (∀ {F : Fr} {H : Zaa} {x}, AOp.ev F H (.sob x) = match ZaL H 1 (x.ev F) with
    | some rows => match Zef rows with
      | some ns => some (.sc (.string (strOf ns)), H)
      | none => none
    | none => none) /\
  (∀ {F : Fr} {H : Zaa} {sz x y}, AOp.ev F H (.cpy sz x y) = match x.ev F, ZaL H sz (y.ev F) with
    | .arr id off ln _, some rows => match H.get id with
      | some (.cells cs E) => if ZaE sz rows = true /\ off + Nat.min rows.length ln * sz <= cs.length then some (.i (Nat.min rows.length ln : Nat), H.set id (.cells (splice cs off ((rows.take (Nat.min rows.length ln)).flatten)) E)) else none
      | _ => none
    | _, _ => none) /\
  (∀ {F : Fr} {H : Zaa} {m}, AOp.ev F H (.clr m) = match m.ev F with
    | .mp id => match H.get id with
      | some (.map kk _ _) => some (.tup [], H.set id (.map kk [] true))
      | _ => none
    | _ => none) /\
  (∀ {F : Fr} {H : Zaa} {f first caps}, AOp.ev F H (.mkf f first caps) = some (.fn f (evs F first) (evs F caps), H)) /\
  (∀ {F : Fr} {H : Zaa} {E sz bytes zero l c}, AOp.ev F H (.mks E sz bytes zero l c) = match l.ev F, c.ev F with
    | .sc (.int .i64 ln), .sc (.int .i64 cn) =>
      if 0 <= ln /\ ln <= cn /\ cn.toNat <= maxLen /\ cn.toNat * bytes <= 140737488355328 then
        (if cn = 0 then some (.sl .full [], H)
         else if ln = cn then some (.arr H.next 0 ln.toNat ln.toNat, H.alloc (.cells ((List.replicate ln.toNat zero).flatten) E))
         else if ln = 0 then some (.sl (.own H.next) [], H.alloc (.tok 0 E sz)) else none)
      else none
    | _, _ => none) /\
  (∀ {F : Fr} {H : Zaa} {sz x lo hi mx}, AOp.ev F H (.slc sz x lo hi mx) = match x.ev F with
    | .sl tok rows => match Zdi F 0 lo, Zdi F rows.length hi, Zdi F rows.length mx with
      | some l, some h, some m => if l <= h /\ h <= m /\ m <= rows.length /\ (l = 0 \/ ZaE sz rows = true) then some (.sl (Zhj tok rows.length l h (mx.map fun _ => m)) ((rows.take h).drop l), H) else none
      | _, _, _ => none
    | .arr id off ln cp => match Zdi F 0 lo, Zdi F ln hi, Zdi F cp mx with
      | some l, some h, some m => if l <= h /\ h <= m /\ m <= cp then (if m = l then some (.sl .full [], H) else some (.arr id (off + l * sz) (h - l) (m - l), H)) else none
      | _, _, _ => none
    | _ => none) /\
  (∀ {F : Fr} {H : Zaa} {n sz x lo hi mx}, AOp.ev F H (.sla n sz x lo hi mx) = match x.ev F with
    | .ptr id off => match Zdi F 0 lo, Zdi F n hi, Zdi F n mx with
      | some l, some h, some m => if l <= h /\ h <= m /\ m <= n /\ n <= maxLen then (if m = l then some (.sl .full [], H) else some (.arr id (off + l * sz) (h - l) (m - l), H)) else none
      | _, _, _ => none
    | _ => none) /\
  (∀ {F : Fr} {H : Zaa} {x lo hi}, AOp.ev F H (.slS x lo hi) = match x.ev F with
    | .sc (.string s) => match Zdi F 0 lo, Zdi F s.size hi with
      | some l, some h => if l <= h /\ h <= s.size then some (.sc (.string (s.extract l h)), H) else none
      | _, _ => none
    | _ => none) /\
  (∀ {F : Fr} {H : Zaa} {off x}, AOp.ev F H (.fla off x) = match x.ev F with
    | .ptr id o => some (.ptr id (o + off), H)
    | .el row o => some (.el row (o + off), H)
    | _ => none) /\
  (∀ {F : Fr} {H : Zaa} {off sz agg x}, AOp.ev F H (.fld off sz agg x) = match x.ev F with
    | .agg cs => (Zbd sz agg cs off).map (·, H)
    | _ => none) /\
  (∀ {F : Fr} {H : Zaa} {sz x i}, AOp.ev F H (.ixa sz x i) = match x.ev F, i.ev F with
    | .sl _ rows, .sc (.int _ n) => if 0 <= n then (match rows[n.toNat]? with
      | some r => if r.length = sz then some (.el r 0, H) else none
      | none => none) else none
    | .arr id off ln _, .sc (.int _ n) => if 0 <= n /\ n < (ln : Int) then some (.ptr id (off + n.toNat * sz), H) else none
    | _, _ => none) /\
  (∀ {F : Fr} {H : Zaa} {n sz x i}, AOp.ev F H (.ixA n sz x i) = match x.ev F, i.ev F with
    | .ptr id off, .sc (.int _ j) => if 0 <= j /\ j < (n : Int) then some (.ptr id (off + j.toNat * sz), H) else none
    | .el row off, .sc (.int _ j) => if 0 <= j /\ j < (n : Int) then some (.el row (off + j.toNat * sz), H) else none
    | _, _ => none) /\
  (∀ {F : Fr} {H : Zaa} {n sz agg x i}, AOp.ev F H (.ixv n sz agg x i) = match x.ev F, i.ev F with
    | .agg cs, .sc (.int _ j) => if 0 <= j /\ j < (n : Int) then (Zbd sz agg cs (j.toNat * sz)).map (·, H) else none
    | _, _ => none) /\
  (∀ {F : Fr} {H : Zaa} {x i}, AOp.ev F H (.ixs x i) = match x.ev F, i.ev F with
    | .sc (.string s), .sc (.int _ j) => if 0 <= j then (match s[j.toNat]? with
      | some b => some (.sc (.int .u8 b.toNat), H)
      | none => none) else none
    | _, _ => none) /\
  (∀ {F : Fr} {H : Zaa} {x i}, AOp.ev F H (.ext x i) = match x.ev F with
    | .tup vs => match vs[i]? with
      | some v => some (v, H)
      | none => none
    | _ => none) /\
  (∀ {F : Fr} {H : Zaa} {x}, AOp.ev F H (.len false x) = match x.ev F with
    | .sl _ rows => some (.i rows.length, H)
    | .arr _ _ ln _ => some (.i ln, H)
    | _ => none) /\
  (∀ {F : Fr} {H : Zaa} {x}, AOp.ev F H (.len true x) = match x.ev F with
    | .sc (.string s) => some (.i s.size, H)
    | _ => none) /\
  (∀ {F : Fr} {H : Zaa} {n}, AOp.ev F H (.lnA n) = some (.i n, H)) /\
  (∀ {F : Fr} {H : Zaa} {E sz bytes s x}, AOp.ev F H (.app E sz bytes s x) = match s.ev F, ZaL H sz (x.ev F) with
    | .sl tok rows, some xs =>
      if ZaE sz xs = true /\ rows.length + xs.length <= maxLen /\ (rows.length + xs.length) * bytes <= 140737488355328 /\ ZaE sz rows = true then
        (match tok with
         | .own id => match H.get id with
           | some (.tok n E' sz') => if n = rows.length /\ E' = E /\ sz' = sz then some (.sl (.own id) (rows ++ xs), H.set id (.tok (n + xs.length) E sz)) else none
           | _ => none
         | .full => match xs with
           | [] => some (.sl .full rows, H)
           | _ => some (.sl (.own H.next) (rows ++ xs), H.alloc (.tok (rows.length + xs.length) E sz))
         | .no => match xs with
           | [] => some (.sl .no rows, H)
           | _ => none)
      else none
    | _, _ => none) /\
  (∀ {F : Fr} {H : Zaa} {mx x y}, AOp.ev F H (.mm mx x y) = match x.ev F, y.ev F with
    | .sc (.int k a), .sc (.int k' b) => if k = k' then some (.sc (.int k (bif mx then (if b > a then b else a) else (if b < a then b else a))), H) else none
    | _, _ => none) /\
  (∀ {F : Fr} {H : Zaa} {kk}, AOp.ev F H (.mkm kk) = some (.mp H.next, H.alloc (.map kk [] false))) /\
  (∀ {F : Fr} {H : Zaa} {kk zero ok m k}, AOp.ev F H (.lkp kk zero ok m k) = match m.ev F, kk.of (k.ev F) with
    | .mp id, some kv => match H.get id with
      | some (.map kk' es _) => if kk' = kk then (match ZdG kv es with
        | some a => some (bif ok then .tup [a, .b true] else a, H)
        | none => some (bif ok then .tup [zero, .b false] else zero, H)) else none
      | _ => none
    | .sc (.map none), some _ => some (bif ok then .tup [zero, .b false] else zero, H)
    | _, _ => none) /\
  (∀ {F : Fr} {H : Zaa} {kk m k x}, AOp.ev F H (.mup kk m k x) = match m.ev F, kk.of (k.ev F) with
    | .mp id, some kv => match H.get id with
      | some (.map kk' es d) => if kk' = kk then some (ZaO, H.set id (.map kk (Ziw kv (x.ev F) es) d)) else none
      | _ => none
    | _, _ => none) /\
  (∀ {F : Fr} {H : Zaa} {kk zero m k}, AOp.ev F H (.men kk zero m k) = match m.ev F, kk.of (k.ev F) with
    | .mp id, some kv => match H.get id with
      | some (.map kk' es false) => if kk' = kk then (match ZdG kv es with
        | some a => some (.tup [a, .stp id kv], H)
        | none => some (.tup [zero, .stp id kv], H.set id (.map kk (Ziw kv zero es) false))) else none
      | _ => none
    | _, _ => none) /\
  (∀ {F : Fr} {H : Zaa} {m s x}, AOp.ev F H (.est m s x) = match m.ev F, s.ev F with
    | .mp id, .stp id' kv => match H.get id with
      | some (.map kk es false) => if id = id' /\ (ZdG kv es).isSome then some (ZaO, H.set id (.map kk (Ziw kv (x.ev F) es) false)) else none
      | _ => none
    | _, _ => none) /\
  (∀ {F : Fr} {H : Zaa} {m}, AOp.ev F H (.mln m) = match m.ev F with
    | .mp id => match H.get id with
      | some (.map _ es _) => some (.i es.length, H)
      | _ => none
    | .sc (.map none) => some (.i 0, H)
    | _ => none) /\
  (∀ {F : Fr} {H : Zaa} {m}, AOp.ev F H (.rng m) = match m.ev F with
    | .mp id => match H.get id with
      | some (.map _ es false) => some (.ptr H.next 0, H.alloc (.iter id es.length []))
      | _ => none
    | _ => none) /\
  (∀ {F : Fr} {H : Zaa} {x}, AOp.ev F H (.ent x) = match x.ev F with
    | .ptr id 0 => match H.get id with
      | some (.iter mid n seen) => match seen.getLast?, H.get mid with
        | some k, some (.map _ es false) => if es.length = n then (match ZdG k es with
          | some a => some (.tup [.sc k, a], H)
          | none => none) else none
        | _, _ => none
      | _ => none
    | _ => none) /\
  (∀ {F : Fr} {H : Zaa} {kk m k}, AOp.ev F H (.del kk m k) = match m.ev F, kk.of (k.ev F) with
    | .mp id, some kv => match H.get id with
      | some (.map kk' es _) => if kk' = kk then some (.tup [], H.set id (.map kk (ZSm kv es) true)) else none
      | _ => none
    | _, _ => none) /\
  (∀ {F : Fr} {H : Zaa} {neg x}, AOp.ev F H (.eqs neg x) = match x.ev F with
    | .sl _ [] => some (.ub, H)
    | .sl _ (_ :: _) => some (.b (neg ^^ false), H)
    | .arr _ _ _ _ => some (.b (neg ^^ false), H)
    | _ => none) /\
  (∀ {F : Fr} {H : Zaa} {x}, AOp.ev F H (.cap x) = match x.ev F with
    | .sl .full rows => some (.i rows.length, H)
    | .arr _ _ _ c => some (.i c, H)
    | _ => none) /\
  (∀ {k : IntKind} {a b : Int}, ZaI .add (.int k a) (.int k b) = some (.int k (k.wrap (a + b)))) /\
  (∀ {k : IntKind} {a b : Int}, ZaI .sub (.int k a) (.int k b) = some (.int k (k.wrap (a - b)))) /\
  (∀ {k : IntKind} {a b : Int}, ZaI .mul (.int k a) (.int k b) = some (.int k (k.wrap (a * b)))) /\
  (∀ {k : IntKind} {a b : Int}, ZaI .quo (.int k a) (.int k b) = if b = 0 then none else some (.int k (k.wrap (a.tdiv b)))) /\
  (∀ {k : IntKind} {a b : Int}, ZaI .rem (.int k a) (.int k b) = if b = 0 then none else some (.int k (a.tmod b))) /\
  (∀ {k : IntKind} {a b : Int}, ZaI .and (.int k a) (.int k b) = some (.int k (k.wrap (BitVec.ofInt k.bits a &&& BitVec.ofInt k.bits b).toNat))) /\
  (∀ {k : IntKind} {a b : Int}, ZaI .or (.int k a) (.int k b) = some (.int k (k.wrap (BitVec.ofInt k.bits a ||| BitVec.ofInt k.bits b).toNat))) /\
  (∀ {k : IntKind} {a b : Int}, ZaI .xor (.int k a) (.int k b) = some (.int k (k.wrap (BitVec.ofInt k.bits a ^^^ BitVec.ofInt k.bits b).toNat))) /\
  (∀ {k : IntKind} {a b : Int}, ZaI .andNot (.int k a) (.int k b) = some (.int k (k.wrap (BitVec.ofInt k.bits a &&& ~~~ BitVec.ofInt k.bits b).toNat))) /\
  (∀ {k : IntKind} {a b : Int}, ZaI .eql (.int k a) (.int k b) = some (.bool (a == b))) /\
  (∀ {k : IntKind} {a b : Int}, ZaI .neq (.int k a) (.int k b) = some (.bool (a != b))) /\
  (∀ {k : IntKind} {a b : Int}, ZaI .lss (.int k a) (.int k b) = some (.bool (a < b))) /\
  (∀ {k : IntKind} {a b : Int}, ZaI .leq (.int k a) (.int k b) = some (.bool (a <= b))) /\
  (∀ {k : IntKind} {a b : Int}, ZaI .gtr (.int k a) (.int k b) = some (.bool (a > b))) /\
  (∀ {k : IntKind} {a b : Int}, ZaI .geq (.int k a) (.int k b) = some (.bool (a ≥ b))) /\
  (∀ {k k2 : IntKind} {a b : Int}, ZaI .shl (.int k a) (.int k2 b) = if b < 0 then none else some (.int k (k.wrap (a * 2 ^ min b.toNat k.bits)))) /\
  (∀ {k k2 : IntKind} {a b : Int}, ZaI .shr (.int k a) (.int k2 b) = if b < 0 then none else some (.int k (a.fdiv (2 ^ min b.toNat k.bits)))) /\
  (∀ {a b : ByteArray}, ZaI .add (.string a) (.string b) = if a.size + b.size <= maxLen then some (.string (a ++ b)) else none) /\
  (∀ {a b : ByteArray}, ZaI .eql (.string a) (.string b) = some (.bool (a.toList == b.toList))) /\
  (∀ {a b : ByteArray}, ZaI .neq (.string a) (.string b) = some (.bool !(a.toList == b.toList))) /\
  (∀ {a b : ByteArray}, ZaI .lss (.string a) (.string b) = some (.bool (Op.bytesLess a.toList b.toList))) /\
  (∀ {a b : ByteArray}, ZaI .leq (.string a) (.string b) = some (.bool (Op.bytesLess a.toList b.toList || a.toList == b.toList))) /\
  (∀ {a b : ByteArray}, ZaI .gtr (.string a) (.string b) = some (.bool !(Op.bytesLess a.toList b.toList || a.toList == b.toList))) /\
  (∀ {a b : ByteArray}, ZaI .geq (.string a) (.string b) = some (.bool !(Op.bytesLess a.toList b.toList))) /\
  (∀ {b : Bool}, Zc4 .not (.bool b) = some (.bool !b)) /\
  (∀ {k : IntKind} {n : Int}, Zc4 .neg (.int k n) = some (.int k (k.wrap (0 - n)))) /\
  (∀ {k : IntKind} {n : Int}, Zc4 .xor (.int k n) = some (.int k (k.wrap (BitVec.ofInt k.bits (if k.signed then -1 else k.max) ^^^ BitVec.ofInt k.bits n).toNat))) /\
  (∀ {F : Fr} {n : Nat}, AX.ev F (.t n) = Fr.get F n) /\
  (∀ {F : Fr} {a : AV}, AX.ev F (.c a) = a) /\
  (∀ {F : Fr}, evs F [] = []) /\
  (∀ {F : Fr} {x : AX} {xs : List AX}, evs F (x :: xs) = x.ev F :: evs F xs) /\
  (∀ {k : Nat}, Za2 k [] = []) /\
  (∀ {k : Nat} {a : AV} {asx : List AV}, Za2 k (a :: asx) = (k, a) :: Za2 (k + 1) asx) /\
  (∀ {t : Nat}, Fr.get [] t = .any) /\
  (∀ {k t : Nat} {a : AV} {F : Fr}, Fr.get ((k, a) :: F) t = if t = k then a else Fr.get F t) /\
  (∀ {F : Fr} {a : AV}, Fr.put F none a = F) /\
  (∀ {F : Fr} {d : Nat} {a : AV}, Fr.put F (some d) a = (d, a) :: F) /\
  (∀ {cs}, AV.cells (.agg cs) = some cs) /\
  (∀ {t rows}, AV.cells (.sl t rows) = some [.sl t rows]) /\
  (∀ {r o}, AV.cells (.el r o) = some [.el r o]) /\
  (∀ {i o}, AV.cells (.ptr i o) = some [.ptr i o]) /\
  (∀ {i o l c}, AV.cells (.arr i o l c) = some [.arr i o l c]) /\
  (∀ {m}, AV.cells (.mp m) = some [.mp m]) /\
  (∀ {i k}, AV.cells (.stp i k) = some [.stp i k]) /\
  (∀ {f a c}, AV.cells (.fn f a c) = some [.fn f a c]) /\
  AV.cells .ub = some [.ub] /\
  (∀ {k n}, AV.cells (.sc (.int k n)) = some [.sc (.int k n)]) /\
  (∀ {b}, AV.cells (.sc (.bool b)) = some [.sc (.bool b)]) /\
  (∀ {s}, AV.cells (.sc (.string s)) = some [.sc (.string s)]) /\
  (∀ {p}, AV.cells (.sc (.pointer p)) = some [.sc (.pointer p)]) /\
  (∀ {p}, AV.cells (.sc (.map p)) = some [.sc (.map p)]) /\
  AV.cells (.sc .nilFunc) = some [.sc .nilFunc] /\
  (∀ {F H r}, ZcU F H [r] = r.ev F H) /\
  (∀ {F H r s rs}, ZcU F H (r :: s :: rs) = match ZcF F H (r :: s :: rs) with
    | some vs => some (.tup vs)
    | none => none) /\
  (∀ {F H}, ZcU F H [] = some (.tup [])) /\
  (∀ {F H}, ZcF F H [] = some []) /\
  (∀ {F H r rs}, ZcF F H (r :: rs) = match r.ev F H with
    | some v => match ZcF F H rs with
      | some vs => some (v :: vs)
      | none => none
    | none => none) /\
  (∀ {F H t}, Zcq.ev F H (.tmp t) = some (Fr.get F t)) /\
  (∀ {F H sz ag a}, Zcq.ev F H (.cell sz ag a) = match AOp.ev F H (.ld sz ag (.t a)) with
    | some (v, _) => some v
    | none => none) /\
  (∀ {sz row off}, Zbd sz true row off = if off + sz <= row.length then some (.agg ((row.drop off).take sz)) else none) /\
  (∀ {sz row off}, Zbd sz false row off = row[off]?) /\
  (∀ {F cs}, Zb9 F cs [] = some cs) /\
  (∀ {F : Fr} {cs : List AV} {off sz : Nat} {x : AX} {rest}, Zb9 F cs ((off, sz, x) :: rest) = match (x.ev F).cells with
    | some vs => if vs.length = sz /\ off + sz <= cs.length then Zb9 F (splice cs off vs) rest else none
    | none => none) /\
  (∀ {cs vs : List AV} {off : Nat}, splice cs off vs = cs.take off ++ vs ++ cs.drop (off + vs.length)) /\
  (∀ {F sz}, rowsOf F sz [] = some []) /\
  (∀ {F : Fr} {sz : Nat} {x : AX} {xs}, rowsOf F sz (x :: xs) = match (x.ev F).cells with
    | some vs => if vs.length = sz then (rowsOf F sz xs).map (vs :: ·) else none
    | none => none) /\
  (∀ {H sz tok rows}, ZaL H sz (.sl tok rows) = some rows) /\
  (∀ {H : Zaa} {sz id off len c : Nat}, ZaL H sz (.arr id off len c) = match H.get id with
    | some (.cells cs _) => if off + len * sz <= cs.length then some (chunk sz len (cs.drop off)) else none
    | _ => none) /\
  (∀ {α : Type} [BEq α] [ReflBEq α] {a : α}, (a == a) = true) /\
  (∀ {α β : Type} {f : α -> β} {l : List α}, (l.map f).length = l.length) /\
  (∀ {h : Decidable True}, @decide True h = true) /\
  (∀ {h : Decidable False}, @decide False h = false) /\
  (∀ {α : Type} {a : α}, (some a).isSome = true) /\
  (∀ {α β : Type} {f : α -> β}, (none : Option α).map f = none) :=
  ⟨rfl, rfl, rfl, rfl, rfl, rfl, rfl, rfl, rfl, rfl, rfl, rfl, rfl, rfl, rfl, rfl, rfl, rfl, rfl, rfl, rfl, rfl, rfl, rfl, rfl, rfl, rfl, rfl, rfl, rfl, rfl, rfl, rfl, rfl, rfl, rfl, rfl, rfl, rfl, rfl, rfl, rfl, rfl, rfl, rfl, rfl, rfl, rfl, rfl, rfl, by simp [ZaI, Za4], by simp [ZaI, Za4], by simp [ZaI, Za4], by simp [ZaI, Za4], by simp [ZaI, Za4], by simp [ZaI, Za4], by simp [ZaI, Za4], by simp [ZaI, Za4], by simp [ZaI, Za4], by simp [ZaI, Za4], by simp [ZaI, Za4], by simp [ZaI, Za4], by simp [ZaI, Za4], by simp [ZaI, Za4], by simp [ZaI, Za4], rfl, rfl, rfl, rfl, rfl, rfl, rfl, rfl, rfl, rfl, rfl, rfl, rfl, rfl, rfl, rfl, rfl, rfl, rfl, rfl, rfl, rfl, rfl, rfl, rfl, rfl, rfl, rfl, rfl, rfl, rfl, rfl, rfl, rfl, rfl, rfl, rfl, rfl, rfl, rfl, rfl, rfl, rfl, rfl, rfl, rfl, rfl, rfl, rfl, rfl, rfl, rfl, rfl, BEq.rfl, (zam _), (decide_true _), (decide_false _), rfl, rfl⟩
def io (d:Nat) (op:AOp):AI:=⟨none,some d,op⟩
def iz (op:AOp):AI:=⟨none,none,op⟩
def ig (s d:Nat) (op:AOp):AI:=⟨some (s,true),some d,op⟩
def ih (s d:Nat) (op:AOp):AI:=⟨some (s,false),some d,op⟩
def ip (i:AI):AI×List AI:=(i,[])
def ik (n:Int):AX:=.c (.sc (.int .i64 n))
def ib (b:Bool):AX:=.c (.sc (.bool b))
def jf (f:FuncId):AX:=.c (.fn f [] [])
def jn:AX:=.c (.sl .full [])
def im (d s:Nat):AI:=⟨none,some d,.mv (.t s)⟩
def jm (d:Nat) (n:Int):AI:=⟨none,some d,.mv (.c (.sc (.int .i64 n)))⟩
inductive It where
 | l (s x:Nat)|L (s x:Nat)|f (o x:Nat)|F (o x:Nat)|G (o s x:Nat)|n (x:Nat)|N (o x:Nat)|x (s a b:Nat)|X (s a b:Nat)|Y (s a b:Nat)
 | m (a b:Nat)|M (b:Nat)|j (a:Nat) (n:Int)|T (a:Nat)|K (a:Nat)|v (a E x:Nat)|o (a:Nat) (p:AOp)|O (p:AOp)|w (p:AOp)|Z (s a b:Nat)
 | c (f:Nat) (l:List Nat)|b (p:BinOp) (a c:Nat)|B (p:BinOp) (a:Nat) (n:Int)|u (x:Nat)|k (x:Nat)|e (x i:Nat)|a (E s b x y:Nat)|p (a b:Nat)|P (a b:Nat)
 | J (n:Int)|S (E x:Nat)|C (f:Nat) (l:List AX)|A (E s b y x:Nat)|R (a:Nat)|i (p:BinOp) (a:Nat) (n:Int)|s (a:Nat)|D (a:Nat)
 | h (a:Nat)|y (a:Nat)|z
def tsI:List Nat->List AX
 | []=>[]
 | a :: l=>.t a :: tsI l
def pkI (d:Nat):Option (Nat×Bool)->AOp
 | some (e,true)=>.pick (.t e) (.t d) (.c (.sc (.bool false)))
 | some (e,false)=>.pick (.t e) (.c (.sc (.bool true))) (.t d)
 | none=>.bad
def hdI:List (Option (Nat×Bool))->Option (Nat×Bool)
 | []=>none
 | g :: _=>g
def tlI:List (Option (Nat×Bool))->List (Option (Nat×Bool))
 | []=>[]
 | _ :: l=>l
def qIt (g:Option (Nat×Bool)) (S:List (Option (Nat×Bool))) (d:Nat):List It->List AI
 | []=>[]
 | .l s x :: r=>⟨g,some (d+1),.ld s false (.t x)⟩ :: qIt g S (d+1) r
 | .L s x :: r=>⟨g,some (d+1),.ld s true (.t x)⟩ :: qIt g S (d+1) r
 | .f o x :: r=>⟨g,some (d+1),.fla o (.t x)⟩ :: qIt g S (d+1) r
 | .F o x :: r=>⟨g,some (d+1),.fla o (.t x)⟩ :: ⟨g,some (d+2),.ld 1 false (.t (d+1))⟩ :: qIt g S (d+2) r
 | .G o s x :: r=>⟨g,some (d+1),.fla o (.t x)⟩ :: ⟨g,some (d+2),.ld s true (.t (d+1))⟩ :: qIt g S (d+2) r
 | .n x :: r=>⟨g,some (d+1),.len false (.t x)⟩ :: qIt g S (d+1) r
 | .N o x :: r=>⟨g,some (d+1),.fla o (.t x)⟩ :: ⟨g,some (d+2),.ld 1 false (.t (d+1))⟩ :: ⟨g,some (d+3),.len false (.t (d+2))⟩ :: qIt g S (d+3) r
 | .x s a b :: r=>⟨g,some (d+1),.ixa s (.t a) (.t b)⟩ :: qIt g S (d+1) r
 | .X s a b :: r=>⟨g,some (d+1),.ixa s (.t a) (.t b)⟩ :: ⟨g,some (d+2),.ld s true (.t (d+1))⟩ :: qIt g S (d+2) r
 | .Y s a b :: r=>⟨g,some (d+1),.ixa s (.t a) (.t b)⟩ :: ⟨g,some (d+2),.ld s false (.t (d+1))⟩ :: qIt g S (d+2) r
 | .m a b :: r=>⟨none,some a,.mv (.t b)⟩ :: qIt g S d r
 | .M b :: r=>⟨g,some (d+1),.mv (.t b)⟩ :: qIt g S (d+1) r
 | .j a n :: r=>⟨none,some a,.mv (.c (.sc (.int .i64 n)))⟩ :: qIt g S d r
 | .T a :: r=>⟨none,some a,.mv (.c (.sc (.bool true)))⟩ :: qIt g S d r
 | .K a :: r=>⟨none,some a,.mv (.c (.sc (.bool false)))⟩ :: qIt g S d r
 | .v a E x :: r=>⟨none,some a,.box E (.t x)⟩ :: qIt g S d r
 | .o a p :: r=>⟨none,some a,p⟩ :: qIt g S d r
 | .O p :: r=>⟨g,some (d+1),p⟩ :: qIt g S (d+1) r
 | .w p :: r=>⟨g,none,p⟩ :: qIt g S d r
 | .Z s a b :: r=>⟨g,none,.st s (.t a) (.t b)⟩ :: qIt g S d r
 | .c f l :: r=>⟨g,some (d+1),.call (.c (.fn f [] [])) (tsI l)⟩ :: qIt g S (d+1) r
 | .b p a c :: r=>⟨g,some (d+1),.bin p (.t a) (.t c)⟩ :: qIt g S (d+1) r
 | .B p a n :: r=>⟨g,some (d+1),.bin p (.t a) (.c (.sc (.int .i64 n)))⟩ :: qIt g S (d+1) r
 | .u x :: r=>⟨g,some (d+1),.un .not (.t x)⟩ :: qIt g S (d+1) r
 | .k x :: r=>⟨g,some (d+1),.nck (.t x)⟩ :: qIt g S (d+1) r
 | .e x i :: r=>⟨g,some (d+1),.ext (.t x) i⟩ :: qIt g S (d+1) r
 | .a E s b x y :: r=>⟨g,some (d+1),.app E s b (.t x) (.t y)⟩ :: qIt g S (d+1) r
 | .p a b :: r=>⟨g,some (d+1),.pick (.t a) (.c (.sc (.bool true))) (.t b)⟩ :: qIt g S (d+1) r
 | .P a b :: r=>⟨g,some (d+1),.pick (.t a) (.t b) (.c (.sc (.bool false)))⟩ :: qIt g S (d+1) r
 | .J n :: r=>⟨g,some (d+1),.mv (.c (.sc (.int .i64 n)))⟩ :: qIt g S (d+1) r
 | .S E x :: r=>⟨g,some (d+1),.bsl E [.t x]⟩ :: qIt g S (d+1) r
 | .C f l :: r=>⟨g,some (d+1),.call (.c (.fn f [] [])) l⟩ :: qIt g S (d+1) r
 | .A E s b y x :: r=>⟨g,some (d+1),.bsl s [.t x]⟩ :: ⟨g,some (d+2),.app E s b (.t y) (.t (d+1))⟩ :: qIt g S (d+2) r
 | .R a :: r=>⟨g,some (d+1),.mv (.t a)⟩ :: ⟨g,some (d+2),.len false (.t (d+1))⟩ :: qIt g S (d+2) r
 | .i p a n :: r=>⟨g,some (d+1),.mv (.t a)⟩ :: ⟨g,some (d+2),.bin p (.t (d+1)) (.c (.sc (.int .i64 n)))⟩ :: qIt g S (d+2) r
 | .s a :: r=>⟨none,some a,.mv (.t d)⟩ :: qIt g S d r
 | .D a :: r=>⟨none,some a,.mv (.c (.sl .full []))⟩ :: qIt g S d r
 | .h a :: r=>⟨g,some (d+1),.mv (.t a)⟩ :: qIt (some (d+1,false)) (g :: S) (d+1) r
 | .y a :: r=>⟨g,some (d+1),.mv (.t a)⟩ :: qIt (some (d+1,true)) (g :: S) (d+1) r
 | .z :: r=>⟨hdI S,some (d+1),pkI d g⟩ :: qIt (hdI S) (tlI S) (d+1) r
def pmI:List AI->List (AI×List AI)
 | []=>[]
 | a :: l=>(a,[]) :: pmI l
def ry (d:Nat) (l:List It):Zar:=.reg (qIt none [] d l)
def rd (d:Nat) (l:List It):Zar:=.drw (pmI (qIt none [] d l))
def rs (d:Nat) (l:List It) (c:Zar):Zar:=.seq (.reg (qIt none [] d l)) c
def rr (d:Nat) (l:List It):Zar:=.seq (.reg (qIt none [] d l)) .ret
def rt (d:Nat) (l:List It) (c:Zar):Zar:=.seq (.drw (pmI (qIt none [] d l))) c
def ri (d:Nat) (l:List It) (n:Nat) (a c:Zar):Zar:=.seq (.seq (.reg (qIt none [] d l)) (.cond (.t n) a .skip)) c
def rk (d:Nat) (l:List It) (n:Nat) (a c:Zar):Zar:=.seq (.seq (.drw (pmI (qIt none [] d l))) (.cond (.t n) a .skip)) c
def rl (b i t:Nat) (X:AX) (u:Nat) (c:Zar):Zar:=.blk b (.loop (.seq (.reg [⟨none,some t,.bin .lss (.t i) X⟩]) (.seq (.cond (.t t) .skip (.exit b)) (.seq c (.reg [⟨none,some u,.bin .add (.t i) (.c (.sc (.int .i64 1)))⟩,⟨none,some i,.mv (.t u)⟩])))))
def rv (b d:Nat) (l:List It) (n:Nat) (c:Zar):Zar:=.blk b (.loop (.seq (.seq (.reg (qIt none [] d l)) (.cond (.t n) .skip (.exit b))) c))
def keep (ts:List Nat) (F:Fr):Fr:=ts.map fun t=>(t,Fr.get F t)
def FrL (L F:Fr):Prop:=∀p∈L,Fr.get F p.1=p.2
def Zc5 (O:List (Nat×Zb3)) (G:Zaa):Prop:=∀p∈O,G.get p.1=some p.2
theorem ZaA {F:Fr}:keep [] F=[]:=id (Eq.refl _)
theorem Zav {F:Fr} {t:Nat} {ts:List Nat}:keep (t :: ts) F=(t,Fr.get F t) :: keep ts F:=id (Eq.refl _)
theorem ZaF {F:Fr}:FrL [] F=True:=by simp[FrL]
theorem ZaX {L F:Fr} {t:Nat} {a:AV}:FrL ((t,a) :: L) F=(Fr.get F t=a/\FrL L F):=by simp[FrL]
theorem ZaJ {G:Zaa}:Zc5 [] G=True:=by simp[Zc5]
theorem ZaP {O:List (Nat×Zb3)} {G:Zaa} {i:Nat} {o:Zb3}:Zc5 ((i,o) :: O) G=(G.get i=some o/\Zc5 O G):=by simp[Zc5]
structure HX (O:List (Nat×Zb3)) (H G:Zaa):Prop where
 n:H.next<=G.next
 o:Zc5 O G
 g:∀i,i<H.next->O.any (fun p=>p.1 == i)=false->G.get i=H.get i
section
variable {P:Prg} {Q:AEx->Fr->Zaa->Prop} {F F1:Fr} {H H1 H2 G G2:Zaa} {O O2:List (Nat×Zb3)} {i t1 t2 N k n id j:Nat} {body:Zar} {X:AX} {o:Zb3} {σ:Type}
theorem HX.ini (h:Zc5 O H):HX O H H:=⟨zad _,h,fun _ _ _=>rfl⟩
theorem HX.refl (H:Zaa):HX [] H H:=⟨zad _,by simp[Zc5],fun _ _ _=>rfl⟩
theorem HX.get (h:HX [] H G) (i:Nat) (hi:i<H.next):G.get i=H.get i:=h.g i hi rfl
theorem HX.alloc (h:HX O H G):HX O H (G.alloc o):=⟨zcF h.n,fun p hp=>by
 have:=h.o p hp
 rw[Zaa.ZbA (Zaa.lt this)];exact this,fun i hi hn=>by
 rw[Zaa.ZbA (zaM hi h.n)];exact h.g i hi hn⟩
theorem HX.bump {k:Nat} (h:HX O H G):HX O H (G.bump k):=⟨zaG h.n (zbW _ _),h.o,h.g⟩
theorem HX.set (h:HX [] H G) (hid:H.next<=id):HX [] H (G.set id o):=⟨h.n,by simp[Zc5],fun i hi hn=>by
 rw[Zaa.Zah Xa];exact h.g i hi hn⟩
theorem HX.put {o':Zb3} (h:HX [(id,o)] H G):HX [(id,o')] H (G.set id o'):=by
 have hl:=Zaa.lt (h.o (id,o) Xc)
 refine⟨h.n,?_,fun i hi hn=>?_⟩
 ·rw[ZaP];exact⟨Zaa.Zal hl,by simp[Zc5]⟩
 ·have:id≠i:=by simpa using hn
  rw[Zaa.Zah (zbn this)];exact h.g i hi hn
theorem HX.trans (h:HX [] H H1) (k:HX O H1 G) (hO:∀p∈O,H.next<=p.1):HX [] H G:=⟨zaG h.n k.n,by simp[Zc5],fun i hi hn=>by
 rw[k.g i (zaM hi h.n) ?_,h.g i hi rfl]
 rw[List.any_eq_false]
 intro p hp
 have:=hO p hp
 simp;omega⟩
theorem HX.ext (h:HX [] H G):Zaa.Ext H G:=⟨h.n,fun i o e=>by rw[h.g i (Zaa.lt e) rfl];exact e⟩
theorem HX.ZdB (h:HX O H1 G) (hx:Zaa.Ext H H1) (hO:∀p∈O,H.next<=p.1):Zaa.Ext H G:=⟨zaG hx.next h.n,fun i o e=>by
 have hl:=Zaa.lt e
 rw[h.g i (zaM hl hx.next) ?_]
 ·exact hx.get i o e
 ·rw[List.any_eq_false]
  intro p hp
  have:=hO p hp
  simp;omega⟩
theorem Zaa.Ext.hxt (hx:Zaa.Ext H H1) (h:HX [] H1 G):Zaa.Ext H G:=hx.trans h.ext
def FoK (inv:Nat->σ->Prop) (V:Nat->σ->Fr) (O:Nat->σ->List (Nat×Zb3)) (L:Fr) (H1:Zaa) (id i t2 k:Nat) (Q:AEx->Fr->Zaa->Prop):AEx->Fr->Zaa->Prop:=fun e F H=>match e with
 | .normal=>Fr.get F i=.i (k:Int)/\∃s,inv (k+1) s/\FrL (V (k+1) s++L) ((i,.i ((k+1:Nat):Int)) :: (t2,.i ((k+1:Nat):Int)) :: F)/\HX (O (k+1) s) H1 H
 | .exit j=>if j=id then Q .normal F H else Q (.exit j) F H
 | .ret=>Q .ret F H
def LoK (inv:σ->Prop) (μ:σ->Nat) (V:σ->Fr) (O:σ->List (Nat×Zb3)) (L:Fr) (H1:Zaa) (id:Nat) (s:σ) (Q:AEx->Fr->Zaa->Prop):AEx->Fr->Zaa->Prop:=fun e F H=>match e with
 | .normal=>∃s',inv s'/\μ s'<μ s/\FrL (V s'++L) F/\HX (O s') H1 H
 | .exit j=>if j=id then Q .normal F H else Q (.exit j) F H
 | .ret=>Q .ret F H
section
variable {inv:Nat->σ->Prop} {V:Nat->σ->Fr} {O:Nat->σ->List (Nat×Zb3)} {L:Fr} {linv:σ->Prop} {μ:σ->Nat} {lV:σ->Fr} {lO:σ->List (Nat×Zb3)} {s:σ}
theorem FoK_n:FoK inv V O L H1 id i t2 k Q .normal F H=(Fr.get F i=.i (k:Int)/\∃s,inv (k+1) s/\FrL (V (k+1) s++L) ((i,.i ((k+1:Nat):Int)) :: (t2,.i ((k+1:Nat):Int)) :: F)/\HX (O (k+1) s) H1 H):=propext zae
theorem FoK_r:FoK inv V O L H1 id i t2 k Q .ret F H=Q .ret F H:=propext zae
theorem FoK_e:FoK inv V O L H1 id i t2 k Q (.exit j) F H=if j=id then Q .normal F H else Q (.exit j) F H:=propext zae
theorem LoK_n:LoK linv μ lV lO L H1 id s Q .normal F H=∃s',linv s'/\μ s'<μ s/\FrL (lV s'++L) F/\HX (lO s') H1 H:=propext zae
theorem LoK_r:LoK linv μ lV lO L H1 id s Q .ret F H=Q .ret F H:=propext zae
theorem LoK_e:LoK linv μ lV lO L H1 id s Q (.exit j) F H=if j=id then Q .normal F H else Q (.exit j) F H:=propext zae
end
theorem Zcw (live:List Nat) (inv:σ->Prop) (μ:σ->Nat) (V:σ->Fr) (O:σ->List (Nat×Zb3)) (s0:σ) (hg:GStep F H F1 H1) {L:Fr} (hL:keep live F1=L)
  (h0:inv s0) (hF:FrL (V s0) F1) (hO:Zc5 (O s0) H1)
  (round:∀s G,inv s->HX (O s) H1 G->H1.next<=G.next->AW P body (LoK inv μ V O L H1 id s Q) (V s++L) G):AW P (.blk id (.loop body)) Q F H:=by
 rw[Za8]
 refine⟨fun n F G=>∃s,inv s/\n=μ s/\F=V s++L/\HX (O s) H1 G,⟨μ s0,V s0++L,H1,hg.trans (GStep.fr ?_),s0,h0,rfl,rfl,HX.ini hO⟩,?_⟩
 ·intro p hp
  rcases zaw.1 hp with hp|hp
  ·exact hF p hp
  ·subst hL
   obtain⟨t,_,rfl⟩:=zaH.1 hp
   rfl
 ·rintro n F G ⟨s,hs,rfl,rfl,hG⟩
  refine ZeH body _ _ _ _ (fun e F' H' h=>?_) (round s G hs hG hG.n)
  cases e with
  | normal =>
   obtain⟨s',h1,h2,h3,h4⟩:=h
   exact⟨μ s',_,H',h2,GStep.fr h3,s',h1,rfl,rfl,h4⟩
  | exit j=>exact h
  | ret=>exact h
theorem Zbs (live:List Nat) (inv:Nat->σ->Prop) (V:Nat->σ->Fr) (O:Nat->σ->List (Nat×Zb3)) (s0:σ) (hg:GStep F H F1 H1) {L:Fr} (hL:keep live F1=L)
  (hX:∀k s,X.ev (V k s++(i,.i (k:Int)) :: L)=.i (N:Int)) (hV:∀k s,Fr.get (V k s++(i,.i (k:Int)) :: L) i=.i (k:Int)) (hi:Fr.get F1 i=.i 0) (hN:N<=maxLen)
  (h0:inv 0 s0) (hF:FrL (V 0 s0) F1) (hO:Zc5 (O 0 s0) H1)
  (round:∀k s G,k<N->inv k s->HX (O k s) H1 G->H1.next<=G.next->AW P body (FoK inv V O L H1 id i t2 k Q) ((t1,.b true) :: (V k s++(i,.i (k:Int)) :: L)) G)
  (fin:∀s G,inv N s->HX (O N s) H1 G->H1.next<=G.next->Q .normal ((t1,.b false) :: (V N s++(i,.i (N:Int)) :: L)) G) :
  AW P (.blk id (.loop (.seq (.reg [⟨none,some t1,.bin .lss (.t i) X⟩]) (.seq (.cond (.t t1) .skip (.exit id)) (.seq body (.reg [⟨none,some t2,.bin .add (.t i) (.c (.sc (.int .i64 1)))⟩,⟨none,some i,.mv (.t t2)⟩])))))) Q F H:=by
 rw[Za8]
 refine⟨fun n F G=>∃k s,k<=N/\n=N - k/\inv k s/\F=V k s++(i,.i (k:Int)) :: L/\HX (O k s) H1 G,⟨N - 0,V 0 s0++(i,.i ((0:Nat):Int)) :: L,H1,hg.trans (GStep.fr ?_),0,s0,zat _,rfl,h0,rfl,HX.ini hO⟩,?_⟩
 ·intro p hp
  rcases zaw.1 hp with hp|hp
  ·exact hF p hp
  ·rcases zay.1 hp with rfl|hp
   ·exact hi
   ·subst hL
    obtain⟨t,_,rfl⟩:=zaH.1 hp
    rfl
 rintro n F G ⟨k,s,hk,rfl,hs,rfl,hG⟩
 have hi':=hV k s
 have hx:=hX k s
 by_cases h1:k<N
 ·have d1:decide ((k:Int)<(N:Int))=true:=by simp;omega
  have hr:=round k s G h1 hs hG hG.n
  generalize V k s++(i,.i (k:Int)) :: L=F at *
  simp only[ZaZ,Za1,Zau,AI.want,AI.step,AOp.ev,hx]
  simp only[AX.ev,Fr.put,Za0,ZaZ,hi',ZaI,Za4,if_true,Option.map_some,d1,ZaK,Fr.get,cond_true,ZaS]
  refine ZeH body _ _ _ _ (fun e F' H' h=>?_) hr
  cases e with
  | normal =>
   obtain⟨h3,s',h4,h5,h6⟩:=h
   have hw:IntKind.i64.wrap ((k:Int)+1)=((k+1:Nat):Int):=by
    rw[Zaw Xa (by unfold maxLen at hN;omega)];omega
   simp only[Za0,Za1,Zau,AI.want,AI.step,AOp.ev,AX.ev,Fr.put,h3,ZaI,Za4,if_true,Option.map_some,hw,Fr.get]
   refine⟨N - (k+1),_,_,Xa,GStep.fr ?_,k+1,s',h1,rfl,h4,rfl,h6⟩
   intro p hp
   rcases zaw.1 hp with hp|hp
   ·exact h5 p (zaJ _ hp)
   ·rcases zay.1 hp with rfl|hp
    ·simp[Fr.get]
    ·exact h5 p (zaR _ hp)
  | exit j =>
   simp only[Za5,Za6]
   exact h
  | ret=>exact h
 ·have d1:decide ((k:Int)<(N:Int))=false:=by simp;omega
  obtain rfl:k=N:=Xa
  have hf:=fin s G hs hG hG.n
  generalize V k s++(i,.i (k:Int)) :: L=F at *
  simp only[ZaZ,Za1,Zau,AI.want,AI.step,AOp.ev,hx]
  simp only[AX.ev,Fr.put,Za0,ZaZ,hi',ZaI,Za4,if_true,Option.map_some,d1,ZaK,Fr.get,cond_false,ZaT,Za5,Za6]
  exact hf
end
theorem nx:(∀{H:Zaa} {o:Zb3},(H.alloc o).next=H.next+1)/\(∀{H:Zaa} {k:Nat},(H.bump k).next=H.next+k)/\(∀{H:Zaa} {i:Nat} {o:Zb3},(H.set i o).next=H.next):=⟨Zaf,Zai,Zam⟩
theorem Xd {p:Prop} (h:p:=by unfold maxLen;omega):p:=h
theorem Xe {p:Prop} (h:p:=by simp only[nx];omega):p:=h
theorem AXT {H G:Zaa} (hx:Zaa.Ext H G:=by repeat (first|assumption|exact Zaa.Ext.refl _|refine Zaa.Ext.hxt ?_ (by assumption)|refine Zaa.Ext.set ?_ (by first|assumption|omega|(simp only[nx]at *;omega))|refine Zaa.Ext.alloc ?_|refine Zaa.Ext.bump ?_)):Zaa.Ext H G:=hx
theorem HXT {H G:Zaa} {O:List (Nat×Zb3)} (hx:HX O H G:=by repeat (first|assumption|exact HX.refl _|refine HX.set ?_ (by first|assumption|omega|(simp only[nx]at *;omega))|refine HX.alloc ?_|refine HX.bump ?_)):HX O H G:=hx
theorem ZbC {b c:Bool} {H0 H:Zaa} (h:c=b) (hx:Zaa.Ext H0 H:=by exact AXT):∃r2 H2,Zb6 (.sc (.bool c)) H r2 H2/\Pure H0 (.b b) r2 H2:=ZdI hx h
theorem Zaz {b c:Int} {H0 H:Zaa} (h:c=b) (hx:Zaa.Ext H0 H:=by exact AXT):∃r2 H2,Zb6 (.sc (.int .i64 c)) H r2 H2/\Pure H0 (.i b) r2 H2:=Zen hx h
theorem Zcm {r v:AV} {H0 H:Zaa} (h:r.weak=v) (hx:Zaa.Ext H0 H:=by exact AXT):∃r2 H2,Zb6 r H r2 H2/\Pure H0 v r2 H2:=ZaW hx h
theorem YB : (∀ {α β : Type} {f : α -> β} {a : α} {l : List α}, (a :: l).map f = f a :: l.map f) /\ (∀ {α β : Type} {f : α -> β}, ([] : List α).map f = []) /\
    (∀ {α : Type} {a b : α}, cond true a b = a) /\ (∀ {α : Type} {a b : α}, cond false a b = b) /\ (∀ {n : Nat}, n + 0 = n) /\ (∀ {n : Nat}, 0 + n = n) /\ (∀ {n : Nat}, 1 * n = n) /\ (∀ {n : Nat}, n * 1 = n) /\
    (∀ {α : Type} {a : α} {l : List α}, (a :: l)[0]? = some a) /\ (∀ {α : Type} {a : α} {l : List α} {i : Nat}, (a :: l)[i + 1]? = l[i]?) /\ (∀ {α β : Type} {f : α -> β} {a : α}, (some a).map f = some (f a)) /\
    (∀ {b : Bool}, (b == b) = true) /\ (∀ {b : Bool}, (b != b) = false) /\ (∀ {b : Int}, (b == b) = true) /\ (∀ {b : Int}, (b != b) = false) /\
    (∀ {b : Bool}, (false == b) = !b) /\ (∀ {b : Bool}, (true == b) = b) /\ (!true) = false /\ (!false) = true /\ (∀ {b : Bool}, (b ^^ false) = b) /\ (∀ {b : Bool}, (b ^^ true) = !b) /\ (∀ {b : Bool}, (false ^^ b) = b) /\ (∀ {b : Bool}, (true ^^ b) = !b) /\
    (∀ {b : Bool}, (b != false) = b) /\ (∀ {b : Bool}, (b != true) = !b) /\ (∀ {b : Bool}, (false != b) = b) /\ (∀ {b : Bool}, (true != b) = !b) /\
    (∀ {n : Int}, -9223372036854775808 <= n -> n < 9223372036854775808 -> IntKind.i64.wrap n = n) /\ (∀ {n : Nat}, ((n : Int)).toNat = n) /\
    (∀ {α : Type} {a : α}, (a ∈ ([] : List α)) = False) /\ (∀ {p : Prop}, (False -> p) = True) /\ (∀ {p : Prop}, (p -> True) = True) /\ (∀ {α : Type}, (∀ _ : α, True) = True) /\ (∀ {p : Prop}, (True /\ p) = p) /\ (∀ {p : Prop}, (p /\ True) = p) /\ (∀ {p : Prop}, (p /\ p) = p) /\
    (∀ {α : Type} {l : List α}, [] ++ l = l) /\ (∀ {α : Type} {l : List α}, l ++ [] = l) /\ (∀ {α : Type} {a : α} {l m : List α}, (a :: l) ++ m = a :: (l ++ m)) /\
    (∀ {α : Type} {a : α} {l : List α} {i : Nat}, (a :: l).take (i + 1) = a :: l.take i) /\ (∀ {α : Type} {l : List α}, l.take 0 = []) /\ (∀ {α : Type} {a : α} {l : List α} {i : Nat}, (a :: l).drop (i + 1) = l.drop i) /\ (∀ {α : Type} {l : List α}, l.drop 0 = l) /\
    (∀ {α : Type} {i : Nat}, ([] : List α).drop i = []) /\ (∀ {α : Type} {i : Nat}, ([] : List α).take i = []) /\ (∀ {α : Type} {a : α} {l : List α}, (a :: l).length = l.length + 1) /\ (∀ {α : Type}, ([] : List α).length = 0) /\ (∀ {n : Nat}, (n <= n) = True) /\
    (∀ {H : Zaa} {i k : Nat}, (H.bump k).get i = H.get i) /\ (∀ {H : Zaa} {k : Nat}, (H.bump k).next = H.next + k) /\ (∀ {H : Zaa} {i : Nat} {o : Zb3}, (H.set i o).next = H.next) /\ (∀ {H : Zaa} {o : Zb3}, (H.alloc o).next = H.next + 1) /\
    (∀ {H : Zaa} {i : Nat} {o : Zb3}, i < H.next -> (H.set i o).get i = some o) /\ (∀ {H : Zaa} {i id : Nat} {o : Zb3}, i ≠ id -> (H.set id o).get i = H.get i) /\ (∀ {H : Zaa} {o : Zb3}, (H.alloc o).get H.next = some o) /\
    (∀ {H : Zaa} {i : Nat} {o : Zb3}, i = H.next -> (H.alloc o).get i = some o) /\ (∀ {H : Zaa} {i : Nat} {o : Zb3}, i ≠ H.next -> (H.alloc o).get i = H.get i) :=
  ⟨zaD, List.map_nil, rfl, rfl, Nat.add_zero _, zax _, Nat.one_mul _, zbJ _, List.getElem?_cons_zero, List.getElem?_cons_succ, (Option.map_some _ _),
   by simp, Xc, Xc, Xc, Xc, Xc, rfl, rfl, Xc, Xc, Xc, Xc, Xc, Xc, Xc, Xc, Zaw, Int.toNat_natCast _,
   by simp, Xc, Xc, Xc, Xc, Xc, Xc, List.nil_append _, zaI _, List.cons_append, List.take_succ_cons, List.take_zero, List.drop_succ_cons, zby, List.drop_nil, List.take_nil, List.length_cons, List.length_nil, Xc,
   Zaa.ZaB, Zaa.ZaD, Zaa.ZaH, Zaa.Zax, Zaa.Zal, Zaa.Zah, Zaa.Zae, Zaa.Zat, Zaa.Zag⟩
theorem YC0:(∀{d op},io d op=⟨none,some d,op⟩)/\(∀{op},iz op=⟨none,none,op⟩)/\(∀{s d op},ig s d op=⟨some (s,true),some d,op⟩)/\(∀{s d op},ih s d op=⟨some (s,false),some d,op⟩)/\(∀{i},ip i=(i,[])) /\
  (∀{n},ik n=.c (.sc (.int .i64 n)))/\(∀{b},ib b=.c (.sc (.bool b)))/\(∀{f},jf f=.c (.fn f [] []))/\jn=.c (.sl .full [])/\(∀{d s},im d s=⟨none,some d,.mv (.t s)⟩)/\(∀{d n},jm d n=⟨none,some d,.mv (.c (.sc (.int .i64 n)))⟩) /\
  (∀{F},keep [] F=[])/\(∀{F t ts},keep (t :: ts) F=(t,Fr.get F t) :: keep ts F)/\(∀{F},FrL [] F=True)/\(∀{L F t a},FrL ((t,a) :: L) F=(Fr.get F t=a/\FrL L F))/\(∀{G},Zc5 [] G=True)/\(∀{O G i o},Zc5 ((i,o) :: O) G=(G.get i=some o/\Zc5 O G)) /\
  (∀{I id i t2 k Q F H},ForQ I id i t2 k Q .normal F H=(Fr.get F i=.i (k:Int)/\I (k+1) ((i,.i ((k+1:Nat):Int)) :: (t2,.i ((k+1:Nat):Int)) :: F) H))/\(∀{I id i t2 k Q F H},ForQ I id i t2 k Q .ret F H=Q .ret F H) /\
  (∀{I id i t2 k Q F H j},ForQ I id i t2 k Q (.exit j) F H=if j=id then Q .normal F H else Q (.exit j) F H)/\(∀{I n Q F H},LopQ I n Q .normal F H=∃m,m<n/\I m F H)/\(∀{I n Q F H},LopQ I n Q .ret F H=Q .ret F H)/\(∀{I n Q F H j},LopQ I n Q (.exit j) F H=Q (.exit j) F H) /\
  (∀{σ:Type} {inv V O L H1 id i t2 k Q F H},@FoK σ inv V O L H1 id i t2 k Q .normal F H=(Fr.get F i=.i (k:Int)/\∃s,inv (k+1) s/\FrL (V (k+1) s++L) ((i,.i ((k+1:Nat):Int)) :: (t2,.i ((k+1:Nat):Int)) :: F)/\HX (O (k+1) s) H1 H)) /\
  (∀{σ:Type} {inv V O L H1 id i t2 k Q F H},@FoK σ inv V O L H1 id i t2 k Q .ret F H=Q .ret F H)/\(∀{σ:Type} {inv V O L H1 id i t2 k Q F H j},@FoK σ inv V O L H1 id i t2 k Q (.exit j) F H=if j=id then Q .normal F H else Q (.exit j) F H) /\
  (∀{σ:Type} {inv μ V O L H1 id s Q F H},@LoK σ inv μ V O L H1 id s Q .normal F H=∃s',inv s'/\μ s'<μ s/\FrL (V s'++L) F/\HX (O s') H1 H)/\(∀{σ:Type} {inv μ V O L H1 id s Q F H},@LoK σ inv μ V O L H1 id s Q .ret F H=Q .ret F H) /\
  (∀{σ:Type} {inv μ V O L H1 id s Q F H j},@LoK σ inv μ V O L H1 id s Q (.exit j) F H=if j=id then Q .normal F H else Q (.exit j) F H) :=
 ⟨rfl,rfl,rfl,rfl,rfl,rfl,rfl,rfl,rfl,rfl,rfl,ZaA,Zav,ZaF,ZaX,ZaJ,ZaP,ForQ_n,ForQ_r,ForQ_e,LopQ_n,LopQ_r,Zlo,FoK_n,FoK_r,FoK_e,LoK_n,LoK_r,LoK_e⟩
def YC:=an7 YC0<|an7 qIt.eq_1<|an7 qIt.eq_2<|an7 qIt.eq_3<|an7 qIt.eq_4<|an7 qIt.eq_5<|an7 qIt.eq_6<|an7 qIt.eq_7<|an7 qIt.eq_8<|an7 qIt.eq_9<|an7 qIt.eq_10<|an7 qIt.eq_11<|an7 qIt.eq_12<|an7 qIt.eq_13<|an7 qIt.eq_14<|an7 qIt.eq_15<|an7 qIt.eq_16<|an7 qIt.eq_17<|an7 qIt.eq_18<|an7 qIt.eq_19<|an7 qIt.eq_20<|an7 qIt.eq_21<|an7 qIt.eq_22<|an7 qIt.eq_23<|an7 qIt.eq_24<|an7 qIt.eq_25<|an7 qIt.eq_26<|an7 qIt.eq_27<|an7 qIt.eq_28<|an7 qIt.eq_29<|an7 qIt.eq_30<|an7 qIt.eq_31<|an7 qIt.eq_32<|an7 qIt.eq_33<|an7 qIt.eq_34<|an7 qIt.eq_35<|an7 qIt.eq_36<|an7 qIt.eq_37<|an7 qIt.eq_38<|an7 qIt.eq_39<|an7 qIt.eq_40<|an7 qIt.eq_41<|an7 tsI.eq_1<|an7 tsI.eq_2<|an7 pkI.eq_1<|an7 pkI.eq_2<|an7 hdI.eq_2<|an7 tlI.eq_2<|an7 pmI.eq_1<|an7 pmI.eq_2<|an7 ry.eq_1<|an7 rd.eq_1<|an7 rs.eq_1<|an7 rr.eq_1<|an7 rt.eq_1<|an7 ri.eq_1<|an7 rk.eq_1<|an7 rl.eq_1<|rv.eq_1
end Go.Proofs.YtfjjpndoeppbhaaGreatDoor
