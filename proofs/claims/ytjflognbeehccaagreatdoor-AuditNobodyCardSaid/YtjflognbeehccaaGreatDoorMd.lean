/- Texts of the walk, joined: Bl Bm Bn Sh Bo Bp Bq Br Bs Bt Bu Bw Bv Bx. -/
import Derived.Test.YtjflognbeehccaaGreatDoorMc
import Derived.Below
import Derived.Test.YtjflognbeehccaaGreatDoorMa
import Derived.Deep.Slices
import Derived.ChangeArms
import Derived.OpenShut
import Derived.Laws.Strings
namespace Go.Proofs.YtjflognbeehccaaGreatDoor
set_option linter.unusedSimpArgs false
set_option linter.unusedVariables false
open Go.RowKit
abbrev CH:=List (Option Zb3)
def CH.up (C:CH):Zaa:=⟨fun i=>(C[i]?).join,C.length,fun i hi=>by rw[List.getElem?_eq_none hi];rfl⟩
def Zv1 {α:Type}:List α→(List α→Bool)→Bool
 | [],k=>k []
 | a :: l,k=>Zv1 l fun l'=>k (a :: l')
theorem ZvR {α:Type}:∀(l:List α) (k:List α→Bool),Zv1 l k=k l
 | [],_=>rfl
 | a :: l,k=>ZvR l _
def AOp.tgt (F:Fr):AOp→Option Nat
 | .st _ x _=>match x.ev F with
  | .ptr id _=>some id
  | _=>none
 | .cpy _ x _=>match x.ev F with
  | .arr id _ _ _=>some id
  | _=>none
 | .app _ _ _ s _=>match s.ev F with
  | .sl (.own id) _=>some id
  | _=>none
 | .mup _ m _ _|.men _ _ m _|.est m _ _|.del _ m _|.clr m=>match m.ev F with
  | .mp id=>some id
  | _=>none
 | .nxt _ x=>match x.ev F with
  | .ptr id _=>some id
  | _=>none
 | _=>none
def Upd (H H':Zaa) (t:Option Nat):Prop:=H'=H∨(∃o,H'=H.alloc o)∨∃id o,t=some id∧H'=H.set id o
theorem ev_upd {F:Fr} {H H':Zaa} {op:AOp} {v:AV} (h:op.ev F H=some (v,H')):Upd H H' (op.tgt F):=by
 have fin0:∀{a:AV},some (a,H)=some (v,H')→Upd H H' (op.tgt F):=fun h=>by
  simp only[Option.some.injEq,Prod.mk.injEq]at h
  exact .inl h.2.symm
 have fin1:∀{a:AV} {o:Zb3},some (a,H.alloc o)=some (v,H')→Upd H H' (op.tgt F):=fun {a o} h=>by
  simp only[Option.some.injEq,Prod.mk.injEq]at h
  exact .inr (.inl ⟨o,h.2.symm⟩)
 have finm:∀{o:Option AV},o.map (·,H)=some (v,H')→Upd H H' (op.tgt F):=fun {o} h=>by
  cases o with
  | none=>cases h
  | some a=>exact fin0 h
 have finv:∀{o:Option Value},(o.map fun r=>(AV.sc r,H))=some (v,H')→Upd H H' (op.tgt F):=fun {o} h=>by
  cases o with
  | none=>cases h
  | some a=>exact fin0 h
 cases op with
 | st sz x y =>
  simp only[AOp.ev]at h
  repeat' split at h
  all_goals first|(cases h;done)|skip
  rename_i h1 _ _ _ _ _ _
  simp only[Option.some.injEq,Prod.mk.injEq]at h
  exact .inr (.inr ⟨_,_,by simp[AOp.tgt,h1],h.2.symm⟩)
 | app E sz bytes s x =>
  simp only[AOp.ev]at h
  generalize hs:s.ev F=sv at h
  generalize ZaL H sz (x.ev F)=xr at h
  cases sv with
  | sl tok rows =>
   cases xr with
   | none=>cases h
   | some xs =>
    simp only at h
    split at h
    ·cases tok with
     | own id =>
      simp only at h
      (repeat' split at h)<;>first|(cases h;done)|skip
      simp only[Option.some.injEq,Prod.mk.injEq]at h
      exact .inr (.inr ⟨_,_,by simp[AOp.tgt,hs],h.2.symm⟩)
     | full =>
      cases xs with
      | nil=>exact fin0 h
      | cons _ _=>exact fin1 h
     | no =>
      cases xs with
      | nil=>exact fin0 h
      | cons _ _=>cases h
    ·cases h
  | _=>cases xr<;>cases h
 | mup kk m k x =>
  simp only[AOp.ev]at h
  cases hm:m.ev F with
  | mp id =>
   rw[hm]at h
   (repeat' split at h)<;>first|(cases h;done)|exact fin0 h|skip
   all_goals
    simp only[Option.some.injEq,Prod.mk.injEq]at h
    refine .inr (.inr ⟨_,_,?_,h.2.symm⟩)
    simp_all [AOp.tgt]
  | _=>rw[hm]at h;(repeat' split at h)<;>(first|(cases h;done)|exact fin0 h|simp at *)
 | men kk z m k =>
  simp only[AOp.ev]at h
  cases hm:m.ev F with
  | mp id =>
   rw[hm]at h
   (repeat' split at h)<;>first|(cases h;done)|exact fin0 h|skip
   all_goals
    simp only[Option.some.injEq,Prod.mk.injEq]at h
    refine .inr (.inr ⟨_,_,?_,h.2.symm⟩)
    simp_all [AOp.tgt]
  | _=>rw[hm]at h;(repeat' split at h)<;>(first|(cases h;done)|exact fin0 h|simp at *)
 | est m s x =>
  simp only[AOp.ev]at h
  cases hm:m.ev F with
  | mp id =>
   rw[hm]at h
   (repeat' split at h)<;>first|(cases h;done)|exact fin0 h|skip
   all_goals
    simp only[Option.some.injEq,Prod.mk.injEq]at h
    refine .inr (.inr ⟨_,_,?_,h.2.symm⟩)
    simp_all [AOp.tgt]
  | _=>rw[hm]at h;(repeat' split at h)<;>(first|(cases h;done)|exact fin0 h|simp at *)
 | del kk m k =>
  simp only[AOp.ev]at h
  cases hm:m.ev F with
  | mp id =>
   rw[hm]at h
   (repeat' split at h)<;>first|(cases h;done)|exact fin0 h|skip
   all_goals
    simp only[Option.some.injEq,Prod.mk.injEq]at h
    refine .inr (.inr ⟨_,_,?_,h.2.symm⟩)
    simp_all [AOp.tgt]
  | _=>rw[hm]at h;(repeat' split at h)<;>(first|(cases h;done)|exact fin0 h|simp at *)
 | cpy sz x y =>
  simp only[AOp.ev]at h
  cases hm:x.ev F with
  | arr id off len cap =>
   rw[hm]at h
   (repeat' split at h)<;>first|(cases h;done)|exact fin0 h|skip
   all_goals
    simp only[Option.some.injEq,Prod.mk.injEq]at h
    refine .inr (.inr ⟨_,_,?_,h.2.symm⟩)
    simp_all [AOp.tgt]
  | _=>rw[hm]at h;(repeat' split at h)<;>(first|(cases h;done)|exact fin0 h|simp at *)
 | clr m =>
  simp only[AOp.ev]at h
  cases hm:m.ev F with
  | mp id =>
   rw[hm]at h
   (repeat' split at h)<;>first|(cases h;done)|exact fin0 h|skip
   all_goals
    simp only[Option.some.injEq,Prod.mk.injEq]at h
    refine .inr (.inr ⟨_,_,?_,h.2.symm⟩)
    simp_all [AOp.tgt]
  | _=>rw[hm]at h;(repeat' split at h)<;>(first|(cases h;done)|exact fin0 h|simp at *)
 | nxt str x =>
  simp only[AOp.ev]at h
  split at h
  ·rename_i hx
   (repeat' split at h)<;>first|(cases h;done)|exact fin0 h|skip
   all_goals
    simp only[Option.some.injEq,Prod.mk.injEq]at h
    refine .inr (.inr ⟨_,_,?_,h.2.symm⟩)
    simp[AOp.tgt,hx]
  ·cases h
 | eqn kd neg x y =>
  rcases kd with _|_|kd<;>simp only[AOp.ev]at h<;>(repeat' split at h)<;>first|(cases h;done)|exact fin0 h
 | len s x =>
  cases s<;>simp only[AOp.ev]at h<;>(repeat' split at h)<;>first|(cases h;done)|exact fin0 h
 | _ =>
  simp only[AOp.ev]at h
  (repeat' split at h)<;>first|(cases h;done)|exact fin0 h|exact fin1 h|exact finm h|exact finv h
def Zbr {α:Type} (p:α→α→Bool):List α→List α→Bool
 | [],[]=>true
 | a :: l,b :: m=>p a b&&Zbr p l m
 | _,_=>false
theorem ZbY {α:Type} {p:α→α→Bool} (hp:∀a b,p a b=true→a=b):∀{l m:List α},Zbr p l m=true→l=m
 | [],[],_=>rfl
 | a :: l,b :: m,h=>by
  simp only[Zbr,Bool.and_eq_true]at h
  rw[hp _ _ h.1,ZbY hp h.2]
 | [],_ :: _,h=>by simp[Zbr]at h
 | _ :: _,[],h=>by simp[Zbr]at h
def vSame:Value→Value→Bool
 | .int k a,.int k' b=>decide (k=k')&&decide (a=b)
 | .bool a,.bool b=>a == b
 | .string a,.string b=>decide (a=b)
 | .pointer none,.pointer none=>true
 | .map none,.map none=>true
 | _,_=>false
theorem vSame_ok {a b:Value} (h:vSame a b=true):a=b:=by
 unfold vSame at h
 split at h<;>simp_all
def AV.same:Nat→AV→AV→Bool
 | n+1,a,b=>match a,b with
  | .any,.any=>true
  | .ub,.ub=>true
  | .sc u,.sc v=>vSame u v
  | .sl t r,.sl t' r'=>decide (t=t')&&Zbr (Zbr (AV.same n)) r r'
  | .el r o,.el r' o'=>Zbr (AV.same n) r r'&&decide (o=o')
  | .ptr i o,.ptr i' o'=>decide (i=i')&&decide (o=o')
  | .arr i o l c,.arr i' o' l' c'=>decide (i=i')&&(decide (o=o')&&(decide (l=l')&&decide (c=c')))
  | .agg cs,.agg ds=>Zbr (AV.same n) cs ds
  | .tup cs,.tup ds=>Zbr (AV.same n) cs ds
  | .mp i,.mp i'=>decide (i=i')
  | .fn f a b,.fn f' a' b'=>decide (f=f')&&(Zbr (AV.same n) a a'&&Zbr (AV.same n) b b')
  | _,_=>false
 | 0,_,_=>false
theorem AV.Zlv:∀{n:Nat} {a b:AV},AV.same n a b=true→a=b
 | 0,_,_,h=>by simp[AV.same]at h
 | n+1,a,b,h=>by
  have ih:∀a b,AV.same n a b=true→a=b:=fun a b h=>AV.Zlv h
  unfold AV.same at h
  split at h
  ·rfl
  ·rfl
  ·rw[vSame_ok h]
  ·simp only[Bool.and_eq_true,decide_eq_true_eq]at h
   rw[h.1,ZbY (fun a b h=>ZbY ih h) h.2]
  ·simp only[Bool.and_eq_true,decide_eq_true_eq]at h
   rw[h.2,ZbY ih h.1]
  ·simp only[Bool.and_eq_true,decide_eq_true_eq]at h
   rw[h.1,h.2]
  ·simp only[Bool.and_eq_true,decide_eq_true_eq]at h
   rw[h.1,h.2.1,h.2.2.1,h.2.2.2]
  ·rw[ZbY ih h]
  ·rw[ZbY ih h]
  ·simp only[decide_eq_true_eq]at h
   rw[h]
  ·simp only[Bool.and_eq_true,decide_eq_true_eq]at h
   rw[h.1,ZbY ih h.2.1,ZbY ih h.2.2]
  ·cases h
theorem ev_read {op:AOp} {F:Fr} {H H':Zaa} {v:AV} (hk:op.kind<2) (h:op.ev F H=some (v,H')):H'=H:=by
 rcases Nat.lt_or_ge op.kind 1 with h0|h1
 ·have:=ZjI (F:=F) H H (show op.kind=0 by omega)
  rw[h]at this
  simp only[Option.map_some,Option.some.injEq,Prod.mk.injEq,true_and]at this
  exact this
 ·have finm:∀{o:Option AV},o.map (·,H)=some (v,H')→H'=H:=fun {o} h=>by
   cases o with
   | none=>cases h
   | some a=>simp only[Option.map_some,Option.some.injEq,Prod.mk.injEq]at h;exact h.2.symm
  have fin0:∀{a:AV},some (a,H)=some (v,H')→H'=H:=fun h=>by
   simp only[Option.some.injEq,Prod.mk.injEq]at h
   exact h.2.symm
  cases op with
  | ld sz ag x =>
   simp only[AOp.ev]at h
   (repeat' split at h)<;>first|(cases h;done)|exact finm h
  | lkp kk z ok m k =>
   simp only[AOp.ev]at h
   (repeat' split at h)<;>first|(cases h;done)|exact fin0 h
  | sob x =>
   simp only[AOp.ev]at h
   (repeat' split at h)<;>first|(cases h;done)|exact fin0 h
  | ent m =>
   simp only[AOp.ev]at h
   (repeat' split at h)<;>first|(cases h;done)|exact fin0 h
  | mln m =>
   simp only[AOp.ev]at h
   (repeat' split at h)<;>first|(cases h;done)|exact fin0 h
  | _=>simp[AOp.kind]at h1 hk
abbrev CallR:=FuncId→List AV→(AV→CH→Bool)→CH→Bool
section
variable {P:Program} {call:CallR}
end
def Gh.ro (R:Nat→Nat→Prop):Gh:=⟨fun _=>none,fun _=>none,fun _ _=>none,R⟩
theorem WR.ofRO {R:Nat→Nat→Prop} {w:World} (h:∀b j,R b j→b<w.heap.size):WR (Gh.ro R) Zaa.emp w :=
 ⟨fun id o h=>by simp[Zaa.emp]at h,fun id id' o o' b h=>by simp[Zaa.emp]at h,fun id _=>⟨rfl,rfl,fun _=>rfl⟩,fun id o b h=>by simp[Zaa.emp]at h,h⟩
theorem VRs.scs {g:Gh} {w:World}:∀(vs:List Value),VRs g w (vs.map .sc) vs
 | []=>.nil
 | v :: vs=>(VRs.scs vs).cons (.sc v)
theorem Zay.calls {P:Program} {f:FuncId} {args:List AV} {R:AV→Zaa→Prop} {v:Value} (h:Zay P f args Zaa.emp R) (hR:∀r H,R r H→r=.sc v) {w:World} {vs:List Value} {RO:Nat→Nat→Prop} (hro:∀b j,RO b j→b<w.heap.size) (hV:VRs (Gh.ro RO) w args vs):Calls P f vs.toArray w fun e w'=>e=.returned v∧Below w.heap.size w w':=by
 refine(h.2 _ w vs (WR.ofRO hro) hV).mono fun e w' hh=>?_
 rcases hh with⟨u,r,H',g',he,hr,hv,hw',hs⟩|⟨_,_,_,_,hh,_⟩
 rotate_left
 ·exact hh.elim
 have:=hR _ _ hr
 subst this
 cases hv
 exact⟨he,hs.os,hs.tape,hs.output,hs.size,fun b hb=>hs.frame b hb (fun⟨id,o,h1,_⟩=>by simp[Zaa.emp]at h1)⟩
open Go.RowKit Go.Deep
inductive Sh where
 | int (k:IntKind)
 | bool
 | str
 | slice (e:Sh)
 | unit
 | pair (a b:Sh)
 | arr (n:Nat) (e:Sh)
def Sh.size:Sh→Nat
 | .unit=>0
 | .arr n e=>n * e.size
 | .pair a b=>a.size+b.size
 | _=>1
def Sh.D:Sh→Type
 | .int _=>Int
 | .bool=>Bool
 | .str=>ByteArray
 | .slice e=>List e.D
 | .unit=>Unit
 | .pair a b=>a.D×b.D
 | .arr _ e=>List e.D
def Sh.Is (w:World) (F:Nat→Prop):(s:Sh)→List Value→s.D→Prop
 | .int k,cs,n=>cs=[.int k n]∧(Lit.int k n).wf=true
 | .bool,cs,b=>cs=[.bool b]
 | .str,cs,s=>cs=[.string s]∧ByteArray.size s≤maxLen
 | .slice e,cs,l=>∃(A:Option Addr) (c:Nat) (css:List (List Value)),cs=[.slice A (List.length l) c]∧List.length l≤c∧c≤maxLen∧css.length=List.length l ∧
   Rd w F e.size A (List.length l) css.flatten∧∀(i:Nat) (r:List Value) (x:e.D),css[i]?=some r→(show List e.D from l)[i]?=some x→Sh.Is w F e r x
 | .unit,cs,_=>cs=[]
 | .pair a b,cs,x=>∃c1 c2,cs=c1++c2∧Sh.Is w F a c1 x.1∧Sh.Is w F b c2 x.2
 | .arr n e,cs,l=>∃(css:List (List Value)),cs=css.flatten∧css.length=n∧List.length l=n∧(∀r∈css,r.length=e.size) ∧
   ∀(i:Nat) (r:List Value) (x:e.D),css[i]?=some r→(show List e.D from l)[i]?=some x→Sh.Is w F e r x
theorem flat_len {css:List (List Value)} {m:Nat} (h:∀r∈css,r.length=m):css.flatten.length=css.length * m:=by
 induction css with
 | nil=>simp
 | cons x r ih =>
  rw[List.flatten_cons,List.length_append,h x List.mem_cons_self,ih (fun y hy=>h y (List.mem_cons_of_mem _ hy)),List.length_cons,Nat.add_mul];omega
section
variable {w w':World} {F F':Nat→Prop}
theorem Sh.Is.len:∀{s:Sh} {cs:List Value} {x:s.D},s.Is w F cs x→cs.length=s.size
 | .int _,_,_,h=>by rw[h.1];rfl
 | .bool,_,_,h=>by rw[show _=[_]from h];rfl
 | .str,_,_,h=>by rw[h.1];rfl
 | .slice _,_,_,h=>by obtain⟨A,c,css,h,_⟩:=h;rw[h];rfl
 | .unit,_,_,h=>by rw[show _=[]from h];rfl
 | .pair a b,_,_,h=>by
  obtain⟨c1,c2,rfl,h1,h2⟩:=h
  rw[List.length_append,h1.len,h2.len];rfl
 | .arr n e,_,_,h=>by
  obtain⟨css,rfl,h1,h2,h3,h4⟩:=h
  rw[flat_len h3,h1];rfl
theorem Sh.Is.keep (hk:∀p:Addr,F p.block→w'.cell? p=w.cell? p) (hF:∀b,F b→F' b):∀{s:Sh} {cs:List Value} {x:s.D},s.Is w F cs x→s.Is w' F' cs x
 | .int _,_,_,h=>h
 | .bool,_,_,h=>h
 | .str,_,_,h=>h
 | .slice _,_,_,h=>by
  obtain⟨A,c,css,h1,h2,h3,h4,h5,h6⟩:=h
  exact⟨A,c,css,h1,h2,h3,h4,(h5.keep hk).more hF,fun i r x hr hx=>(h6 i r x hr hx).keep hk hF⟩
 | .unit,_,_,h=>h
 | .pair a b,_,_,h=>by
  obtain⟨c1,c2,h0,h1,h2⟩:=h
  exact⟨c1,c2,h0,h1.keep hk hF,h2.keep hk hF⟩
 | .arr n e,_,_,h=>by
  obtain⟨css,h0,h1,h2,h3,h4⟩:=h
  exact⟨css,h0,h1,h2,h3,fun i r x hr hx=>(h4 i r x hr hx).keep hk hF⟩
theorem Sh.Is.kp {S:Nat→Prop} {s:Sh} {cs:List Value} {x:s.D} (h:s.Is w F cs x) (k:Kp S w w') (hF:∀b,F b→b<w.heap.size∧¬S b):s.Is w' F cs x :=
 h.keep (fun _ hp=>k.cell (hF _ hp).1 (hF _ hp).2) (fun _ h=>h)
theorem Sh.Is.more {s:Sh} {cs:List Value} {x:s.D} (h:s.Is w F cs x) (hF:∀b,F b→F' b):s.Is w F' cs x :=
 h.keep (fun _ _=>rfl) hF
theorem Sh.Is.one:∀{s:Sh} {cs:List Value} {x:s.D},s.Is w F cs x→∀u∈cs,u.oneCell'=true
 | .int _,_,_,h,u,hu=>by rw[h.1]at hu;simp at hu;subst hu;rfl
 | .bool,_,_,h,u,hu=>by rw[show _=[_]from h]at hu;simp at hu;subst hu;rfl
 | .str,_,_,h,u,hu=>by rw[h.1]at hu;simp at hu;subst hu;rfl
 | .slice _,_,_,h,u,hu=>by obtain⟨A,c,css,h,_⟩:=h;rw[h]at hu;simp at hu;subst hu;rfl
 | .unit,_,_,h,u,hu=>by rw[show _=[]from h]at hu;cases hu
 | .pair a b,_,_,h,u,hu=>by
  obtain⟨c1,c2,rfl,h1,h2⟩:=h
  rcases List.mem_append.1 hu with hu|hu
  ·exact h1.one u hu
  ·exact h2.one u hu
 | .arr n e,_,l,h,u,hu=>by
  obtain⟨css,rfl,h1,h2,h3,h4⟩:=h
  obtain⟨r,hr,hur⟩:=List.mem_flatten.1 hu
  obtain⟨i,hi,rfl⟩:=List.getElem_of_mem hr
  have hi2:i<List.length l:=by omega
  exact(h4 i css[i] (List.get l ⟨i,hi2⟩) (List.getElem?_eq_getElem hi) (List.getElem?_eq_getElem hi2)).one u hur
end
section
variable {H:Type} {enc:TypeId×Value→H} {P:Program} {w:World} {spare:Nat→Bool} {held:Bool}
end
def Sh.enc:(s:Sh)→s.D→List AV
 | .int k,n=>[.sc (.int k n)]
 | .bool,b=>[.sc (.bool b)]
 | .str,s=>[.sc (.string s)]
 | .slice e,l=>[.sl .no ((show List e.D from l).map e.enc)]
 | .unit,_=>[]
 | .pair a b,x=>a.enc x.1++b.enc x.2
 | .arr _ e,l=>((show List e.D from l).map e.enc).flatten
def Sh.pos:Sh→Prop
 | .slice e=>0<e.size∧e.pos
 | .pair a b=>a.pos∧b.pos
 | .arr _ e=>e.pos
 | _=>True
section
variable {w:World} {F:Nat→Prop} {g:Gh}
end
section
variable {P:Prg} {Q:AEx→Fr→Zaa→Prop} {F:Fr} {H:Zaa} {i n t2 N k id:Nat} {inv:Nat→Prop} {Fs:Nat→Fr} {Hs:Nat→Zaa}
end
section
variable {σ:Type} {P:Prg} {Q:AEx→Fr→Zaa→Prop} {F:Fr} {H:Zaa} {i n t2 N k id:Nat} {inv:Nat→σ→Prop} {Fs:Nat→σ→Fr} {Hs:Nat→σ→Zaa}
theorem Zaf {o:Zb3}:(H.alloc o).next=H.next+1:=by simp
theorem Zai {k:Nat}:(H.bump k).next=H.next+k:=by simp
theorem Zam {o:Zb3}:(H.set id o).next=H.next:=by simp
end
class KBox where
 out:AV→Zaa→Prop
class PBox where
 out:Prop
section
variable {P:Prg} {Q:AEx→Fr→Zaa→Prop} {F:Fr} {H:Zaa} {a b:Zar} {K:Fr→Zaa→Prop} {l:List AI} {ld:List (AI×List AI)} {d:Option Nat} {c:AX} {id k:Nat}
end
abbrev Zjd (w:World):Nat→Nat→Prop:=fun b _=>b<w.heap.size
section
variable {w:World}
theorem Zay.true {P:Program} {f:FuncId} {args:List AV} {vs:List Value} (h:Zay P f args Zaa.emp fun r _=>r=.b true) (hV:VRs (Gh.ro (Zjd w)) w args vs):Calls P f vs.toArray w fun e w'=>e=.returned (.bool true)∧Below w.heap.size w w' :=
 Zay.calls h (fun _ _ h=>h) (fun _ _ h=>h) hV
end
section
variable {P:Prg} {Q:AEx→Fr→Zaa→Prop} {F:Fr} {H:Zaa} {i t1 t2 N k n id j:Nat} {I:Nat→Fr→Zaa→Prop} {body:Zar} {X:AX}
end
def io (d:Nat) (op:AOp):AI:=⟨none,some d,op⟩
def iz (op:AOp):AI:=⟨none,none,op⟩
def ig (s d:Nat) (op:AOp):AI:=⟨some (s,true),some d,op⟩
def ih (s d:Nat) (op:AOp):AI:=⟨some (s,false),some d,op⟩
def ip (i:AI):AI×List AI:=(i,[])
def ik (n:Int):AX:=.c (.sc (.int .i64 n))
def ib (b:Bool):AX:=.c (.sc (.bool b))
def jf (f:FuncId):AX:=.c (.fn f [] [])
def jn:AX:=.c (.sl .full [])
def im (d s:Nat):AI:=⟨none,some d,.mv (.t s)⟩
def jm (d:Nat) (n:Int):AI:=⟨none,some d,.mv (.c (.sc (.int .i64 n)))⟩
def keep (ts:List Nat) (F:Fr):Fr:=ts.map fun t=>(t,Fr.get F t)
def Zc5 (O:List (Nat×Zb3)) (G:Zaa):Prop:=∀p∈O,G.get p.1=some p.2
theorem ZaP {O:List (Nat×Zb3)} {G:Zaa} {i:Nat} {o:Zb3}:Zc5 ((i,o) :: O) G=(G.get i=some o∧Zc5 O G):=by simp[Zc5]
structure HX (O:List (Nat×Zb3)) (H G:Zaa):Prop where
 n:H.next≤G.next
 o:Zc5 O G
 g:∀i,i<H.next→O.any (fun p=>p.1 == i)=false→G.get i=H.get i
section
variable {P:Prg} {Q:AEx→Fr→Zaa→Prop} {F F1:Fr} {H H1 H2 G G2:Zaa} {O O2:List (Nat×Zb3)} {i t1 t2 N k n id j:Nat} {body:Zar} {X:AX} {o:Zb3} {σ:Type}
theorem HX.refl (H:Zaa):HX [] H H:=⟨Nat.le_refl _,by simp[Zc5],fun _ _ _=>rfl⟩
theorem HX.get (h:HX [] H G) (i:Nat) (hi:i<H.next):G.get i=H.get i:=h.g i hi rfl
theorem HX.alloc (h:HX O H G):HX O H (G.alloc o):=⟨Nat.le_succ_of_le h.n,fun p hp=>by
 have:=h.o p hp
 rw[Zaa.ZbA (Zaa.lt this)];exact this,fun i hi hn=>by
 rw[Zaa.ZbA (Nat.lt_of_lt_of_le hi h.n)];exact h.g i hi hn⟩
theorem HX.bump {k:Nat} (h:HX O H G):HX O H (G.bump k):=⟨Nat.le_trans h.n (Nat.le_add_right _ _),h.o,h.g⟩
theorem HX.set (h:HX [] H G) (hid:H.next≤id):HX [] H (G.set id o):=⟨h.n,by simp[Zc5],fun i hi hn=>by
 rw[Zaa.Zah (by omega)];exact h.g i hi hn⟩
theorem HX.put {o':Zb3} (h:HX [(id,o)] H G):HX [(id,o')] H (G.set id o'):=by
 have hl:=Zaa.lt (h.o (id,o) (by simp))
 refine⟨h.n,?_,fun i hi hn=>?_⟩
 ·rw[ZaP];exact⟨Zaa.Zal hl,by simp[Zc5]⟩
 ·have:id≠i:=by simpa using hn
  rw[Zaa.Zah (Ne.symm this)];exact h.g i hi hn
theorem HX.trans (h:HX [] H H1) (k:HX O H1 G) (hO:∀p∈O,H.next≤p.1):HX [] H G:=⟨Nat.le_trans h.n k.n,by simp[Zc5],fun i hi hn=>by
 rw[k.g i (Nat.lt_of_lt_of_le hi h.n) ?_,h.g i hi rfl]
 rw[List.any_eq_false]
 intro p hp
 have:=hO p hp
 simp;omega⟩
theorem HX.ext (h:HX [] H G):Zaa.Ext H G:=⟨h.n,fun i o e=>by rw[h.g i (Zaa.lt e) rfl];exact e⟩
theorem Zaa.Ext.hx (h:Zaa.Ext H G) (hn:∀i,i<H.next→(H.get i).isSome=true):HX [] H G:=⟨h.next,by simp[Zc5],fun i hi _=>by
 obtain⟨o,ho⟩:=Option.isSome_iff_exists.1 (hn i hi)
 rw[ho,h.get i o ho]⟩
section
variable {inv:Nat→σ→Prop} {V:Nat→σ→Fr} {O:Nat→σ→List (Nat×Zb3)} {L:Fr} {linv:σ→Prop} {μ:σ→Nat} {lV:σ→Fr} {lO:σ→List (Nat×Zb3)} {s:σ}
end
end
theorem nx:(∀{H:Zaa} {o:Zb3},(H.alloc o).next=H.next+1)∧(∀{H:Zaa} {k:Nat},(H.bump k).next=H.next+k)∧(∀{H:Zaa} {i:Nat} {o:Zb3},(H.set i o).next=H.next):=⟨Zaf,Zai,Zam⟩
inductive Tr (α:Type) where
 | e
 | n (v:α) (l r:Tr α)
def Tr.get {α:Type} (d:α):Tr α→Nat→α
 | .e,_=>d
 | .n v l r,k=>bif Nat.beq k 0 then v else bif Nat.beq (k % 2) 1 then l.get d (k / 2) else r.get d (k / 2 - 1)
def Tr.put {α:Type} (d:α) (a:α):Nat→Tr α→Nat→(Tr α→Bool)→Bool
 | 0,_,_,_=>false
 | f+1,.e,k,K=>bif Nat.beq k 0 then K (.n a .e .e) else bif Nat.beq (k % 2) 1 then Tr.put d a f .e (k / 2) fun l'=>K (.n d l' .e) else Tr.put d a f .e (k / 2 - 1) fun r'=>K (.n d .e r')
 | f+1,.n v l r,k,K=>bif Nat.beq k 0 then K (.n a l r) else bif Nat.beq (k % 2) 1 then Tr.put d a f l (k / 2) fun l'=>K (.n v l' r) else Tr.put d a f r (k / 2 - 1) fun r'=>K (.n v l r')
theorem ZwR (a b:Nat):Nat.beq a b=decide (a=b):=by
 cases h:Nat.beq a b with
 | true=>have:=Nat.eq_of_beq_eq_true h;simp[this]
 | false=>have:=Nat.ne_of_beq_eq_false h;simp[this]
theorem Tr.get_e {α:Type} {d:α} {k:Nat}:(Tr.e:Tr α).get d k=d:=rfl
theorem Tr.Zwc {α:Type} {d v:α} {l r:Tr α} {k:Nat}:(Tr.n v l r).get d k=if k=0 then v else if k % 2=1 then l.get d (k / 2) else r.get d (k / 2 - 1):=by
 show(bif Nat.beq k 0 then v else bif Nat.beq (k % 2) 1 then l.get d (k / 2) else r.get d (k / 2 - 1))=_
 simp only[cond_eq_ite,ZwR,decide_eq_true_eq]
theorem Tr.ZvT {α:Type} {d a:α}:∀{f:Nat} {T:Tr α} {k:Nat} {K:Tr α→Bool},Tr.put d a f T k K=true→∃T',K T'=true∧∀j,T'.get d j=if j=k then a else T.get d j
 | 0,_,_,_,h=>by simp[Tr.put]at h
 | f+1,.e,k,K,h=>by
  simp only[Tr.put,cond_eq_ite,ZwR,decide_eq_true_eq]at h
  split at h
  ·rename_i h0
   refine⟨_,h,fun j=>?_⟩
   rw[Tr.Zwc,h0]
   simp only[Tr.get_e,ite_self]
  ·split at h
   ·obtain⟨T',h1,h2⟩:=Tr.ZvT h
    refine⟨_,h1,fun j=>?_⟩
    rw[Tr.Zwc]
    simp only[h2,Tr.get_e]
    by_cases hj:j=k
    ·subst hj;rw[if_neg (by assumption),if_pos (by assumption)];simp
    ·simp only[hj,if_false]
     by_cases a1:j=0
     ·simp[a1]
     ·by_cases a2:j % 2=1
      ·have:¬j / 2=k / 2:=by omega
       simp[a1,a2,this]
      ·simp[a1,a2]
   ·obtain⟨T',h1,h2⟩:=Tr.ZvT h
    refine⟨_,h1,fun j=>?_⟩
    rw[Tr.Zwc]
    simp only[h2,Tr.get_e]
    by_cases hj:j=k
    ·subst hj;rw[if_neg (by assumption),if_neg (by assumption)];simp
    ·simp only[hj,if_false]
     by_cases a1:j=0
     ·simp[a1]
     ·by_cases a2:j % 2=1
      ·simp[a1,a2]
      ·have:¬j / 2 - 1=k / 2 - 1:=by omega
       simp[a1,a2,this]
 | f+1,.n v l r,k,K,h=>by
  simp only[Tr.put,cond_eq_ite,ZwR,decide_eq_true_eq]at h
  split at h
  ·rename_i h0
   refine⟨_,h,fun j=>?_⟩
   rw[Tr.Zwc,Tr.Zwc,h0]
   by_cases a1:j=0<;>simp[a1]
  ·split at h
   ·obtain⟨T',h1,h2⟩:=Tr.ZvT h
    refine⟨_,h1,fun j=>?_⟩
    rw[Tr.Zwc,Tr.Zwc]
    simp only[h2]
    by_cases hj:j=k
    ·subst hj;rw[if_neg (by assumption),if_pos (by assumption)];simp
    ·simp only[hj,if_false]
     by_cases a1:j=0
     ·simp[a1]
     ·by_cases a2:j % 2=1
      ·have:¬j / 2=k / 2:=by omega
       simp[a1,a2,this]
      ·simp[a1,a2]
   ·obtain⟨T',h1,h2⟩:=Tr.ZvT h
    refine⟨_,h1,fun j=>?_⟩
    rw[Tr.Zwc,Tr.Zwc]
    simp only[h2]
    by_cases hj:j=k
    ·subst hj;rw[if_neg (by assumption),if_neg (by assumption)];simp
    ·simp only[hj,if_false]
     by_cases a1:j=0
     ·simp[a1]
     ·by_cases a2:j % 2=1
      ·simp[a1,a2]
      ·have:¬j / 2 - 1=k / 2 - 1:=by omega
       simp[a1,a2,this]
def fN (n:Nat) (k:Nat→Bool):Bool:=Nat.casesOn (motive:=fun _=>Bool) n (k 0) fun m=>k (Nat.succ m)
theorem Zwf (n:Nat) (k:Nat→Bool):fN n k=k n:=by cases n<;>rfl
def fI (n:Int) (k:Int→Bool):Bool:=match n with
 | .ofNat m=>fN m fun m=>k (.ofNat m)
 | .negSucc m=>fN m fun m=>k (.negSucc m)
theorem fI_eq (n:Int) (k:Int→Bool):fI n k=k n:=by
 cases n with
 | ofNat m=>exact Zwf m fun m=>k (.ofNat m)
 | negSucc m=>exact Zwf m fun m=>k (.negSucc m)
def fV (v:AV) (k:AV→Bool):Bool:=match v with
 | .sl tok rows=>Zv1 rows fun r=>k (.sl tok r)
 | .agg cs=>Zv1 cs fun c=>k (.agg c)
 | .tup cs=>Zv1 cs fun c=>k (.tup c)
 | .sc (.bool b)=>bif b then k (.sc (.bool true)) else k (.sc (.bool false))
 | .sc (.int kd n)=>fI n fun n=>k (.sc (.int kd n))
 | .sc (.string s)=>Zv1 s.data.toList fun l=>k (.sc (.string ⟨⟨l⟩⟩))
 | .ptr id off=>fN id fun id=>fN off fun off=>k (.ptr id off)
 | .el row off=>fN off fun off=>k (.el row off)
 | .arr id off len cap=>fN off fun off=>fN len fun len=>fN cap fun cap=>k (.arr id off len cap)
 | v=>k v
theorem ZwT (v:AV) (k:AV→Bool):fV v k=k v:=by
 unfold fV
 split
 ·exact ZvR _ _
 ·exact ZvR _ _
 ·exact ZvR _ _
 ·rename_i b;cases b<;>rfl
 ·exact fI_eq _ _
 ·exact ZvR _ _
 ·simp only[Zwf]
 ·simp only[Zwf]
 ·simp only[Zwf]
 ·rfl
def fVs:List AV→(List AV→Bool)→Bool
 | [],k=>k []
 | a :: l,k=>fV a fun a=>fVs l fun l=>k (a :: l)
theorem fVs_eq:∀(l:List AV) (k:List AV→Bool),fVs l k=k l
 | [],_=>rfl
 | a :: l,k=>by simp only[fVs,ZwT];exact fVs_eq l _
def fO (o:Option Zb3) (k:Option Zb3→Bool):Bool:=match o with
 | some (.cells cs E)=>Zv1 cs fun c=>k (some (.cells c E))
 | some (.tok n E sz)=>fN n fun n=>k (some (.tok n E sz))
 | some (.map kk es d)=>Zv1 es fun es=>k (some (.map kk es d))
 | some (.iter m n s)=>Zv1 s fun s=>k (some (.iter m n s))
 | none=>k none
theorem fO_eq (o:Option Zb3) (k:Option Zb3→Bool):fO o k=k o:=by
 unfold fO
 split
 ·exact ZvR _ _
 ·exact Zwf _ _
 ·exact ZvR _ _
 ·exact ZvR _ _
 ·rfl
def u8Eq:List UInt8→List UInt8→Bool
 | [],[]=>true
 | a :: l,b :: m=>bif Nat.beq a.toNat b.toNat then u8Eq l m else false
 | _,_=>false
theorem Zwb:∀(l m:List UInt8),u8Eq l m=(l == m)
 | [],[]=>rfl
 | [],_ :: _=>rfl
 | _ :: _,[]=>rfl
 | a :: l,b :: m=>by
  rw[u8Eq,Zwb l m,cond_eq_ite,List.cons_beq_cons]
  by_cases h:a=b
  ·subst h;simp
  ·have:¬a.toNat=b.toNat:=fun e=>h (UInt8.toNat_inj.1 e)
   simp[ZwR,this,h]
def strQ (op:BinOp) (a b:List UInt8):Option Value:=match op with
 | .add=>if a.length+b.length≤maxLen then some (.string ⟨⟨a++b⟩⟩) else none
 | .eql=>some (.bool (u8Eq a b))
 | .neq=>some (.bool !(u8Eq a b))
 | .lss=>some (.bool (Op.bytesLess a b))
 | .leq=>some (.bool (Op.bytesLess a b || u8Eq a b))
 | .gtr=>some (.bool !(Op.bytesLess a b || u8Eq a b))
 | .geq=>some (.bool !(Op.bytesLess a b))
 | _=>none
theorem Zw6 (a b:ByteArray):a++b=⟨⟨a.data.toList++b.data.toList⟩⟩:=by
 apply ByteArray.ext
 rw[ByteArray.data_append]
 apply Array.toList_inj.1
 rw[Array.toList_append]
theorem strQ_eq (op:BinOp) (a b:ByteArray):strQ op a.data.toList b.data.toList=ZwL op a b:=by
 cases op<;>simp only[strQ,ZwL,Zwb,ByteArray.toList_eq]
 rw[Zw6]
 rfl
def AOp.evq (op:AOp) (H:Zaa):Option (AV×Zaa):=match op with
 | .bin o x y=>match x.ev [],y.ev []with
  | .sc (.string a),.sc (.string b)=>(strQ o a.data.toList b.data.toList).map fun r=>(.sc r,H)
  | .sc u,.sc v=>(ZaI o u v).map fun r=>(.sc r,H)
  | _,_=>none
 | .slS x lo hi=>match x.ev []with
  | .sc (.string s)=>match Zdi [] 0 lo,Zdi [] s.data.toList.length hi with
   | some l,some h=>if l≤h∧h≤s.data.toList.length then some (.sc (.string ⟨⟨(s.data.toList.drop l).take (h - l)⟩⟩),H) else none
   | _,_=>none
  | _=>none
 | .ixs x i=>match x.ev [],i.ev []with
  | .sc (.string s),.sc (.int _ j)=>if 0≤j then (match s.data.toList[j.toNat]? with
   | some b=>some (.sc (.int .u8 b.toNat),H)
   | none=>none) else none
  | _,_=>none
 | .len true x=>match x.ev []with
  | .sc (.string s)=>some (.i s.data.toList.length,H)
  | _=>none
 | .sob x=>match ZaL H 1 (x.ev [])with
  | some rows=>match Zef rows with
   | some ns=>some (.sc (.string ⟨⟨ns.map fun n=>UInt8.ofNat n.toNat⟩⟩),H)
   | none=>none
  | none=>none
 | op=>op.ev [] H
theorem strOf_eq (ns:List Int):(⟨⟨ns.map fun n=>UInt8.ofNat n.toNat⟩⟩:ByteArray)=strOf ns:=by
 have key:∀(ns:List Int) (a:ByteArray),(ns.foldl (fun r n=>r.push (UInt8.ofNat n.toNat)) a).data.toList=a.data.toList++ns.map fun n=>UInt8.ofNat n.toNat:=by
  intro ns
  induction ns with
  | nil=>intro a;rw[List.foldl_nil,List.map_nil,List.append_nil]
  | cons n ns ih =>
   intro a
   rw[List.foldl_cons,ih,List.map_cons]
   show(a.data.push _).toList++_=_
   rw[Array.toList_push,List.append_assoc]
   rfl
 apply ByteArray.ext
 apply Array.toList_inj.1
 unfold strOf
 rw[key]
 rfl
theorem Zh9 (s:ByteArray) (j:Nat):s.data.toList[j]?=s[j]?:=by
 by_cases h:j<s.size
 ·rw[getElem?_pos s j h]
  have h':j<s.data.toList.length:=h
  rw[List.getElem?_eq_getElem h']
  rfl
 ·rw[getElem?_neg s j h]
  rw[List.getElem?_eq_none]
  exact Nat.le_of_not_lt h
theorem ZwX (s:ByteArray) (l h:Nat):(⟨⟨(s.data.toList.drop l).take (h - l)⟩⟩:ByteArray)=s.extract l h:=by
 apply ByteArray.ext
 apply Array.toList_inj.1
 rw[ByteArray.data_extract,Array.toList_extract]
theorem ZwW (op:AOp) (H:Zaa):op.evq H=op.ev [] H:=by
 cases op with
 | bin o x y =>
  simp only[AOp.evq,AOp.ev]
  split
  ·rename_i h1 h2;rw[h1,h2];simp only[strQ_eq,ZaI]
  ·rename_i h1 h2;rw[h1,h2]
  ·rename_i h1 h2
   split
   ·rename_i h3 h4;exact absurd h4 (h2 _ _ h3)
   ·rfl
 | slS x lo hi =>
  simp only[AOp.evq,AOp.ev]
  split
  ·rename_i s h1
   simp only[ZwX,h1]
   rfl
  ·rename_i h1
   split
   ·rename_i s h2;exact absurd h2 (h1 s)
   ·rfl
 | ixs x i =>
  simp only[AOp.evq,AOp.ev]
  split
  ·rename_i s j h1 h2
   simp only[Zh9,h1,h2]
   rfl
  ·rename_i h1
   split
   ·rename_i s j h2 h3;exact absurd h3 (h1 _ _ _ h2)
   ·rfl
 | len b x =>
  cases b
  ·rfl
  ·simp only[AOp.evq,AOp.ev]
   split
   ·rename_i h1;simp only[h1];rfl
   ·rename_i h1
    split
    ·rename_i s h2;exact absurd h2 (h1 s)
    ·rfl
 | sob x =>
  simp only[AOp.evq,AOp.ev,strOf_eq]
  rfl
 | _=>rfl
abbrev TF:=Tr AV
def AX.sub (T:TF):AX→AX
 | .t n=>.c (T.get .any n)
 | .c a=>.c a
def Zv4 (T:TF) (F:Fr):Prop:=∀t,Fr.get F t=T.get .any t
def AOp.sub (T:TF):AOp→AOp
 | .mv x=>.mv (x.sub T)
 | .pick c a b=>.pick (c.sub T) (a.sub T) (b.sub T)
 | .box E x=>.box E (x.sub T)
 | .bld z ps=>.bld z (ps.map fun p=>(p.1,p.2.1,p.2.2.sub T))
 | .bsl sz ps=>.bsl sz (ps.map (AX.sub T))
 | .bsv E sz ps=>.bsv E sz (ps.map (AX.sub T))
 | .ld sz a x=>.ld sz a (x.sub T)
 | .st sz x y=>.st sz (x.sub T) (y.sub T)
 | .nck x=>.nck (x.sub T)
 | .bin o x y=>.bin o (x.sub T) (y.sub T)
 | .eqf ks n x y=>.eqf ks n (x.sub T) (y.sub T)
 | .bnb n x y=>.bnb n (x.sub T) (y.sub T)
 | .eqn k n x y=>.eqn k n (x.sub T) (y.sub T)
 | .un o x=>.un o (x.sub T)
 | .cnv k x=>.cnv k (x.sub T)
 | .cvs x=>.cvs (x.sub T)
 | .sob x=>.sob (x.sub T)
 | .clr m=>.clr (m.sub T)
 | .cpy sz x y=>.cpy sz (x.sub T) (y.sub T)
 | .mkf f a b=>.mkf f (a.map (AX.sub T)) (b.map (AX.sub T))
 | .mks E sz by_ z l c=>.mks E sz by_ z (l.sub T) (c.sub T)
 | .slc sz x lo hi mx=>.slc sz (x.sub T) (lo.map (AX.sub T)) (hi.map (AX.sub T)) (mx.map (AX.sub T))
 | .sla n sz x lo hi mx=>.sla n sz (x.sub T) (lo.map (AX.sub T)) (hi.map (AX.sub T)) (mx.map (AX.sub T))
 | .slS x lo hi=>.slS (x.sub T) (lo.map (AX.sub T)) (hi.map (AX.sub T))
 | .fla off x=>.fla off (x.sub T)
 | .fld off sz a x=>.fld off sz a (x.sub T)
 | .ixa sz x i=>.ixa sz (x.sub T) (i.sub T)
 | .ixA n sz x i=>.ixA n sz (x.sub T) (i.sub T)
 | .ixv n sz a x i=>.ixv n sz a (x.sub T) (i.sub T)
 | .ixs x i=>.ixs (x.sub T) (i.sub T)
 | .ext x i=>.ext (x.sub T) i
 | .len s x=>.len s (x.sub T)
 | .lnA n=>.lnA n
 | .app E sz by_ s x=>.app E sz by_ (s.sub T) (x.sub T)
 | .apv E sz by_ z s x=>.apv E sz by_ z (s.sub T) (x.sub T)
 | .mm m x y=>.mm m (x.sub T) (y.sub T)
 | .mkm kk=>.mkm kk
 | .lkp kk z ok m k=>.lkp kk z ok (m.sub T) (k.sub T)
 | .mup kk m k x=>.mup kk (m.sub T) (k.sub T) (x.sub T)
 | .men kk z m k=>.men kk z (m.sub T) (k.sub T)
 | .est m s x=>.est (m.sub T) (s.sub T) (x.sub T)
 | .mln m=>.mln (m.sub T)
 | .rng m=>.rng (m.sub T)
 | .nxt s x=>.nxt s (x.sub T)
 | .ent x=>.ent (x.sub T)
 | .del kk m k=>.del kk (m.sub T) (k.sub T)
 | .call f as=>.call (f.sub T) (as.map (AX.sub T))
 | .eqs n x=>.eqs n (x.sub T)
 | .cap x=>.cap (x.sub T)
 | .bad=>.bad
section
variable {T:TF} {F:Fr}
theorem ZvW (h:Zv4 T F) (x:AX):(x.sub T).ev []=x.ev F:=by
 cases x with
 | t n=>exact(h n).symm
 | c a=>rfl
theorem ZwS (h:Zv4 T F) (xs:List AX):evs [] (xs.map (AX.sub T))=evs F xs:=by
 simp[evs,Function.comp_def,ZvW h]
theorem Zw5 (h:Zv4 T F) (d:Nat) (x:Option AX):Zdi [] d (x.map (AX.sub T))=Zdi F d x:=by
 cases x with
 | none=>rfl
 | some x=>simp only[Option.map_some,Zdi,ZvW h]
theorem ZwJ (h:Zv4 T F):∀(ps:List (Nat×Nat×AX)) (cs:List AV),Zb9 [] cs (ps.map fun p=>(p.1,p.2.1,p.2.2.sub T))=Zb9 F cs ps
 | [],_=>rfl
 | (a,b,x) :: ps,cs=>by
  simp only[List.map_cons,Zb9,ZvW h,ZwJ h ps]
theorem ZwA (h:Zv4 T F) (sz:Nat):∀(xs:List AX),rowsOf [] sz (xs.map (AX.sub T))=rowsOf F sz xs
 | []=>rfl
 | x :: xs=>by simp only[List.map_cons,rowsOf,ZvW h,ZwA h sz xs]
theorem ZwU (h:Zv4 T F) (op:AOp) (H:Zaa):(op.sub T).ev [] H=op.ev F H:=by
 cases op with
 | eqn k n x y=>rcases k with _|_|k<;>simp only[AOp.sub,AOp.ev,ZvW h]
 | len s x=>cases s<;>simp only[AOp.sub,AOp.ev,ZvW h]
 | slc sz x lo hi mx =>
  simp only[AOp.sub,AOp.ev,ZvW h,Zw5 h,Option.map_map]
  rfl
 | _=>simp only[AOp.sub,AOp.ev,ZvW h,ZwS h,Zw5 h,ZwJ h,ZwA h]
def Zw0 (i:AI) (T:TF):Option Bool:=match i.gd with
 | none=>some true
 | some (s,b)=>match T.get .any s with
  | .sc (.bool c)=>some (c == b)
  | .sc _=>some false
  | _=>none
theorem Zwe (h:Zv4 T F) (i:AI):Zw0 i T=i.want F:=by
 unfold Zw0 AI.want
 have h':∀t,Fr.get F t=T.get .any t:=h
 simp only[h']
 rfl
end
abbrev TH:=Tr (Option Zb3)
def upT (T:TH) (n:Nat):Zaa:=⟨fun i=>bif Nat.ble n i then none else T.get none i,n,fun i hi=>by rw[Nat.ble_eq_true_of_le hi];rfl⟩
theorem ZvS {T:TH} {n i:Nat} (h:i<n):(upT T n).get i=T.get none i:=by
 have:Nat.ble n i=false:=by
  cases hb:Nat.ble n i with
  | false=>rfl
  | true=>have:=Nat.le_of_ble_eq_true hb;omega
 show(bif Nat.ble n i then none else T.get none i)=_
 rw[this];rfl
theorem upT_eq {T T':TH} {n:Nat} (h:∀i,i<n→T'.get none i=T.get none i):upT T' n=upT T n:=by
 refine Zaa.ext ?_ rfl
 funext i
 by_cases hi:i<n
 ·rw[ZvS hi,ZvS hi,h i hi]
 ·rw[(upT T' n).wf i (by show n≤i;omega),(upT T n).wf i (by show n≤i;omega)]
def nextT (op:AOp) (T:TH) (n:Nat) (H':Zaa) (k:TH→Nat→Bool):Bool :=
 bif Nat.beq H'.next n then
  match op.tgt []with
  | some id=>fO (H'.get id) fun o=>Tr.put none o 40 T id fun T'=>k T' n
  | none=>k T n
 else fO (H'.get n) fun o=>Tr.put none o 40 T n fun T'=>fN (n+1) fun m=>k T' m
theorem ZwF {op:AOp} {T:TH} {n:Nat} {v:AV} {H':Zaa} {k:TH→Nat→Bool} (h:op.ev [] (upT T n)=some (v,H')) (hk:nextT op T n H' k=true):∃T' m,upT T' m=H'∧k T' m=true:=by
 unfold nextT at hk
 rcases ev_upd h with e|⟨o,e⟩|⟨id,o,ht,e⟩
 ·subst e
  have:Nat.beq (upT T n).next n=true:=Nat.beq_refl n
  rw[this,cond_true]at hk
  split at hk
  ·rename_i id hid
   rw[fO_eq]at hk
   obtain⟨T',h1,h2⟩:=Tr.ZvT hk
   refine⟨T',n,upT_eq fun i hi=>?_,h1⟩
   rw[h2]
   split
   ·rename_i e;subst e;exact ZvS hi
   ·rfl
  ·exact⟨T,n,rfl,hk⟩
 ·subst e
  have:Nat.beq ((upT T n).alloc o).next n=false:=by
   show Nat.beq (n+1) n=false
   cases hb:Nat.beq (n+1) n with
   | false=>rfl
   | true=>have:=Nat.eq_of_beq_eq_true hb;omega
  rw[this,cond_false,fO_eq]at hk
  have hn:((upT T n).alloc o).get n=some o:=Zaa.Zae (H:=upT T n)
  rw[hn]at hk
  obtain⟨T',h1,h2⟩:=Tr.ZvT hk
  rw[Zwf]at h1
  refine⟨T',n+1,?_,h1⟩
  refine Zaa.ext ?_ rfl
  funext i
  by_cases hi:i<n+1
  ·rw[ZvS hi,h2]
   by_cases e:i=n
   ·subst e;rw[if_pos rfl,hn]
   ·rw[if_neg e,Zaa.Zag (H:=upT T n) e,ZvS (by omega)]
  ·rw[(upT T' (n+1)).wf i (by show n+1≤i;omega),((upT T n).alloc o).wf i (by show n+1≤i;omega)]
 ·subst e
  have:Nat.beq ((upT T n).set id o).next n=true:=Nat.beq_refl n
  rw[this,cond_true,ht]at hk
  simp only at hk
  rw[fO_eq]at hk
  obtain⟨T',h1,h2⟩:=Tr.ZvT hk
  refine⟨T',n,?_,h1⟩
  refine Zaa.ext ?_ rfl
  funext i
  by_cases hi:i<n
  ·rw[ZvS hi,h2]
   by_cases e:i=id
   ·subst e;rw[if_pos rfl]
   ·rw[if_neg e,Zaa.Zah e,ZvS hi]
  ·rw[(upT T' n).wf i (by show n≤i;omega),((upT T n).set id o).wf i (by show n≤i;omega)]
def putT (T:TF) (d:Option Nat) (a:AV) (k:TF→Bool):Bool:=match d with
 | some d=>Tr.put .any a 40 T d k
 | none=>k T
theorem Zv7 {T:TF} {F:Fr} {d:Option Nat} {a:AV} {k:TF→Bool} (hF:Zv4 T F) (h:putT T d a k=true):∃T',Zv4 T' (Fr.put F d a)∧k T'=true:=by
 cases d with
 | none=>exact⟨T,hF,h⟩
 | some d =>
  obtain⟨T',h1,h2⟩:=Tr.ZvT h
  refine⟨T',fun t=>?_,h1⟩
  rw[h2]
  simp only[Fr.put,Fr.get]
  split
  ·rfl
  ·exact hF t
abbrev Zwq:=FuncId→List AV→(AV→TH→Nat→Bool)→TH→Nat→Bool
def Zwd (r:AI) (T:TF) (M:TH) (n:Nat):Bool:=match Zw0 r T with
 | some false=>true
 | some true=>match r.dst with
  | some d=>Nat.blt r.op.kind 2&&(match (r.op.sub T).evq (upT M n)with
   | some (v,_)=>AV.same 20 v (T.get .any d)
   | none=>false)
  | none=>false
 | none=>false
theorem ZwM {r:AI} {T:TF} {F:Fr} {M:TH} {n:Nat} (hF:Zv4 T F) (h:Zwd r T M n=true):r.stable F (upT M n):=by
 unfold Zwd at h
 unfold AI.stable
 rw[Zwe hF]at h
 split at h
 ·rename_i e;rw[e];trivial
 ·rename_i e
  rw[e]
  split at h
  ·rename_i d hd
   simp only[Bool.and_eq_true]at h
   obtain⟨hk,h⟩:=h
   have hk:r.op.kind<2:=Nat.le_of_ble_eq_true hk
   rw[ZwW,ZwU hF]at h
   split at h
   ·rename_i v H' hv
    have:=ev_read hk hv
    subst this
    refine⟨d,hd,?_⟩
    rw[hv,AV.Zlv h,hF]
   ·cases h
  ·cases h
 ·cases h
def Zwt (call:Zwq) (i:AI) (k:TF→TH→Nat→Bool) (T:TF) (M:TH) (n:Nat):Bool:=match i.op with
 | .call f args=>match (f.sub T).ev []with
  | .fn h first caps=>call h (first++evs [] (args.map (AX.sub T))++caps) (fun r M' n'=>putT T i.dst r fun T'=>k T' M' n') M n
  | _=>false
 | op=>match (op.sub T).evq (upT M n)with
  | some (v,H')=>fV v fun v=>nextT (op.sub T) M n H' fun M' n'=>putT T i.dst v fun T'=>k T' M' n'
  | none=>false
def Zv6 (call:Zwq):List AI→(TF→TH→Nat→Bool)→TF→TH→Nat→Bool
 | [],k,T,M,n=>k T M n
 | i :: l,k,T,M,n=>match Zw0 i T with
  | some true=>Zwt call i (Zv6 call l k) T M n
  | some false=>putT T i.dst ZaO fun T'=>Zv6 call l k T' M n
  | none=>false
def allB {α:Type} (p:α→Bool):List α→Bool
 | []=>true
 | a :: l=>bif p a then allB p l else false
theorem ZwV {α:Type} {p:α→Bool}:∀{l:List α},allB p l=true→∀a∈l,p a=true
 | [],_,a,h=>by cases h
 | b :: l,h,a,ha=>by
  unfold allB at h
  cases hb:p b with
  | false=>rw[hb]at h;cases h
  | true =>
   rw[hb,cond_true]at h
   rcases List.mem_cons.1 ha with rfl|ha
   ·exact hb
   ·exact ZwV h a ha
def ZvZ (call:Zwq):List (AI×List AI)→(TF→TH→Nat→Bool)→TF→TH→Nat→Bool
 | [],k,T,M,n=>k T M n
 | (i,chk) :: l,k,T,M,n=>match Zw0 i T with
  | some true=>Zwt call i (fun T' M' n'=>bif allB (fun r=>Zwd r T' M' n') chk then ZvZ call l k T' M' n' else false) T M n
  | some false=>putT T i.dst ZaO fun T'=>ZvZ call l k T' M n
  | none=>false
def Zwm (step:(AEx→TF→TH→Nat→Bool)→TF→TH→Nat→Bool) (k:AEx→TF→TH→Nat→Bool):Nat→TF→TH→Nat→Bool
 | 0,_,_,_=>false
 | m+1,T,M,n=>step (fun e T' M' n'=>match e with
  | .normal=>Zwm step k m T' M' n'
  | e=>k e T' M' n') T M n
def ZvU (call:Zwq) (lf:Nat):Zar→(AEx→TF→TH→Nat→Bool)→TF→TH→Nat→Bool
 | .skip,k,T,M,n=>k .normal T M n
 | .reg l,k,T,M,n=>Zv6 call l (k .normal) T M n
 | .drw l,k,T,M,n=>ZvZ call l (k .normal) T M n
 | .seq a b,k,T,M,n=>ZvU call lf a (fun e T M n=>match e with
  | .normal=>ZvU call lf b k T M n
  | e=>k e T M n) T M n
 | .cond c a b,k,T,M,n=>match (c.sub T).ev []with
  | .sc (.bool t)=>bif t then ZvU call lf a k T M n else ZvU call lf b k T M n
  | .ub=>bif ZvU call lf a k T M n then ZvU call lf b k T M n else false
  | _=>false
 | .blk id a,k,T,M,n=>ZvU call lf a (fun e T M n=>match e with
  | .exit j=>bif Nat.beq j id then k .normal T M n else k (.exit j) T M n
  | e=>k e T M n) T M n
 | .loop a,k,T,M,n=>Zwm (ZvU call lf a) k lf T M n
 | .exit id,k,T,M,n=>k (.exit id) T M n
 | .ret,k,T,M,n=>k .ret T M n
 | .bad,_,_,_,_=>false
def argsT:Nat→List AV→TF→(TF→Bool)→Bool
 | _,[],T,k=>k T
 | i,a :: as,T,k=>Tr.put .any a 40 T i fun T'=>argsT (i+1) as T' k
theorem Zww:∀{as:List AV} {i:Nat} {T:TF} {k:TF→Bool} {F:Fr},Zv4 T F→(∀t,i≤t→Fr.get F t=.any)→argsT i as T k=true→∃T',k T'=true∧∀t,T'.get .any t=if t<i then Fr.get F t else Fr.get (Za2 i as) t
 | [],i,T,k,F,hF,h0,h=>⟨T,h,fun t=>by
   rw[← hF]
   split
   ·rfl
   ·exact h0 t (by omega)⟩
 | a :: as,i,T,k,F,hF,h0,h=>by
  obtain⟨T',h1,h2⟩:=Tr.ZvT h
  obtain⟨T'',h3,h4⟩:=Zww (F:=(i,a) :: F) (fun t=>by
   rw[h2]
   simp only[Fr.get]
   split
   ·rfl
   ·exact hF t) (fun t ht=>by
   simp only[Fr.get]
   rw[if_neg (by omega)]
   exact h0 t (by omega)) h1
  refine⟨T'',h3,fun t=>?_⟩
  rw[h4]
  simp only[Za2,Fr.get]
  by_cases e1:t<i
  ·rw[if_pos (by omega),if_pos e1,if_neg (by omega)]
  ·by_cases e2:t=i
   ·rw[if_pos (by omega),if_pos e2,if_neg e1,if_pos e2]
   ·rw[if_neg (by omega),if_neg e1,if_neg e2]
def ZwY (T:TF) (H:Zaa):Zcq→Option AV
 | .tmp t=>some (T.get .any t)
 | .cell sz ag a=>match AOp.ev [] H (.ld sz ag (.c (T.get .any a)))with
  | some (v,_)=>some v
  | none=>none
def resTL (T:TF) (H:Zaa):List Zcq→Option (List AV)
 | []=>some []
 | r :: rs=>match ZwY T H r with
  | some v=>match resTL T H rs with
   | some vs=>some (v :: vs)
   | none=>none
  | none=>none
def resT (T:TF) (H:Zaa) (rs:List Zcq):Option AV:=match rs with
 | [r]=>ZwY T H r
 | rs=>match resTL T H rs with
  | some vs=>some (.tup vs)
  | none=>none
theorem ZwC {T:TF} {F:Fr} (h:Zv4 T F) (H:Zaa) (r:Zcq):ZwY T H r=r.ev F H:=by
 have h':∀t,Fr.get F t=T.get .any t:=h
 cases r with
 | tmp t=>simp only[ZwY,Zcq.ev,h']
 | cell sz ag a =>
  simp only[ZwY,Zcq.ev,AOp.ev,AX.ev,h']
  rfl
theorem Zwz {T:TF} {F:Fr} (h:Zv4 T F) (H:Zaa):∀rs:List Zcq,resTL T H rs=ZcF F H rs
 | []=>rfl
 | r :: rs=>by
  simp only[resTL,ZcF,ZwC h,Zwz h H rs]
  rfl
theorem resT_eq {T:TF} {F:Fr} (h:Zv4 T F) (H:Zaa) (rs:List Zcq):resT T H rs=ZcU F H rs:=by
 match rs with
 | []=>rfl
 | [r]=>exact ZwC h H r
 | a :: b :: rs =>
  simp only[resT,ZcU,Zwz h]
  rfl
section
variable {P:Prg} {call:Zwq}
def Zv9 (P:Prg) (call:Zwq):Prop:=∀f args k M n,call f args k M n=true→Zay P f args (upT M n) fun r H'=>∃M' n',upT M' n'=H'∧k r M' n'=true
theorem ZwG (hc:Zv9 P call) {i:AI} {k:TF→TH→Nat→Bool} {T:TF} {F:Fr} {M:TH} {n:Nat} {K:Fr→Zaa→Prop} (hF:Zv4 T F) (h:Zwt call i k T M n=true) (hk:∀T' F' M' n',Zv4 T' F'→k T' M' n'=true→K F' (upT M' n')):i.step P F (upT M n) K:=by
 have key:(∀f args,i.op≠.call f args)→(∀E sz bytes zero s x,i.op≠.apv E sz bytes zero s x)→(∀str x,i.op≠.nxt str x)→i.step P F (upT M n) K:=by
  intro hnc hna hnn
  unfold Zwt at h
  unfold AI.step
  split
  ·rename_i f args he;exact absurd he (hnc f args)
  ·rename_i he;exact absurd he (hna _ _ _ _ _ _)
  ·rename_i he;exact absurd he (hnn _ _)
  ·split at h
   ·rename_i f args he;exact absurd he (hnc f args)
   ·split at h
    ·rename_i v H' hv
     rw[ZwT]at h
     rw[ZwW]at hv
     obtain⟨M',n',h1,h2⟩:=ZwF hv h
     rw[ZwU hF]at hv
     rw[hv]
     obtain⟨T',h3,h4⟩:=Zv7 hF h2
     have:=hk _ _ _ _ h3 h4
     rw[h1]at this
     exact this
    ·cases h
 cases hio:i.op with
 | call f args =>
  unfold Zwt at h
  unfold AI.step
  rw[hio]at h ⊢
  simp only at h ⊢
  rw[ZvW hF]at h
  split at h
  ·rename_i hf
   rw[hf]
   rw[ZwS hF]at h
   exact(hc _ _ _ _ _ h).mono fun r H' ⟨M',n',h1,h2⟩=>by
    obtain⟨T',h3,h4⟩:=Zv7 hF h2
    have:=hk _ _ _ _ h3 h4
    rw[h1]at this
    exact this
  ·cases h
 | apv E sz bytes zero s x =>
  exfalso
  unfold Zwt at h
  rw[hio]at h
  simp[AOp.sub,AOp.evq,AOp.ev]at h
 | nxt str x =>
  unfold Zwt at h
  unfold AI.step
  rw[hio]at h ⊢
  simp only at h ⊢
  split at h
  ·rename_i v H' hv
   rw[ZwT]at h
   rw[ZwW]at hv
   obtain⟨M',n',h1,h2⟩:=ZwF hv h
   have e:=ZwU (H:=upT M n) (op:=.nxt str x) hF
   rw[e]at hv
   obtain⟨T',h3,h4⟩:=Zv7 hF h2
   have:=hk _ _ _ _ h3 h4
   rw[h1]at this
   exact Zj7.of_ev hv this
  ·cases h
 | _=>exact key (by intro f args e;rw[hio]at e;cases e) (by intro E sz bytes zero s x e;rw[hio]at e;cases e) (by intro str x e;rw[hio]at e;cases e)
theorem Zv3 (hc:Zv9 P call):∀{l:List AI} {k:TF→TH→Nat→Bool} {T:TF} {F:Fr} {M:TH} {n:Nat} {K:Fr→Zaa→Prop},Zv4 T F→Zv6 call l k T M n=true→(∀T' F' M' n',Zv4 T' F'→k T' M' n'=true→K F' (upT M' n'))→Zau P l F (upT M n) K
 | [],k,T,F,M,n,K,hF,h,hk=>hk _ _ _ _ hF h
 | i :: l,k,T,F,M,n,K,hF,h,hk=>by
  simp only[Zv6]at h
  simp only[Zau]
  rw[Zwe hF]at h
  split at h
  ·rename_i e;rw[e];exact ZwG hc hF h fun T' F' M' n' hF' h'=>Zv3 hc hF' h' hk
  ·rename_i e
   rw[e]
   obtain⟨T',h3,h4⟩:=Zv7 hF h
   exact Zv3 hc h3 h4 hk
  ·cases h
theorem ZvX (hc:Zv9 P call):∀{l:List (AI×List AI)} {k:TF→TH→Nat→Bool} {T:TF} {F:Fr} {M:TH} {n:Nat} {K:Fr→Zaa→Prop},Zv4 T F→ZvZ call l k T M n=true→(∀T' F' M' n',Zv4 T' F'→k T' M' n'=true→K F' (upT M' n'))→Zaj P l F (upT M n) K
 | [],k,T,F,M,n,K,hF,h,hk=>hk _ _ _ _ hF h
 | (i,chk) :: l,k,T,F,M,n,K,hF,h,hk=>by
  simp only[ZvZ]at h
  simp only[Zaj]
  rw[Zwe hF]at h
  split at h
  ·rename_i e
   rw[e]
   refine ZwG hc hF h fun T' F' M' n' hF' h'=>?_
   cases ha:allB (fun r=>Zwd r T' M' n') chk with
   | true =>
    rw[ha,cond_true]at h'
    exact⟨fun r hr=>ZwM hF' (ZwV ha r hr),ZvX hc hF' h' hk⟩
   | false=>rw[ha]at h';cases h'
  ·rename_i e
   rw[e]
   obtain⟨T',h3,h4⟩:=Zv7 hF h
   exact ZvX hc h3 h4 hk
  ·cases h
theorem runC2_ok (hc:Zv9 P call) {lf:Nat}:∀(c:Zar) {k:AEx→TF→TH→Nat→Bool} {T:TF} {F:Fr} {M:TH} {n:Nat} {Q:AEx→Fr→Zaa→Prop},Zv4 T F→ZvU call lf c k T M n=true→(∀e T' F' M' n',Zv4 T' F'→k e T' M' n'=true→Q e F' (upT M' n'))→AW P c Q F (upT M n):=by
 intro c
 induction c with
 | skip=>intro k T F M n Q hF h hk;exact hk _ _ _ _ _ hF h
 | reg l=>intro k T F M n Q hF h hk;exact Zv3 hc hF h fun T' F' M' n' hF' h'=>hk _ _ _ _ _ hF' h'
 | drw l=>intro k T F M n Q hF h hk;exact ZvX hc hF h fun T' F' M' n' hF' h'=>hk _ _ _ _ _ hF' h'
 | seq a b iha ihb =>
  intro k T F M n Q hF h hk
  simp only[ZvU]at h
  simp only[AW]
  refine iha hF h fun e T' F' M' n' hF' h'=>?_
  cases e with
  | normal=>exact ihb hF' h' hk
  | exit i=>exact hk _ _ _ _ _ hF' h'
  | ret=>exact hk _ _ _ _ _ hF' h'
 | cond c a b iha ihb =>
  intro k T F M n Q hF h hk
  simp only[ZvU]at h
  simp only[AW]
  rw[ZvW hF]at h
  split at h
  ·rename_i t e
   rw[e]
   simp only
   cases t
   ·exact ihb hF h hk
   ·exact iha hF h hk
  ·rename_i e
   rw[e]
   simp only
   cases ha:ZvU call lf a k T M n with
   | true=>rw[ha,cond_true]at h;exact⟨iha hF ha hk,ihb hF h hk⟩
   | false=>rw[ha]at h;cases h
  ·cases h
 | blk id a iha =>
  intro k T F M n Q hF h hk
  simp only[ZvU]at h
  simp only[AW]
  refine iha hF h fun e T' F' M' n' hF' h'=>?_
  cases e with
  | normal=>exact hk _ _ _ _ _ hF' h'
  | ret=>exact hk _ _ _ _ _ hF' h'
  | exit j =>
   simp only[cond_eq_ite,ZwR,decide_eq_true_eq]at h' ⊢
   by_cases hj:j=id
   ·rw[if_pos hj]at h' ⊢;exact hk _ _ _ _ _ hF' h'
   ·rw[if_neg hj]at h' ⊢;exact hk _ _ _ _ _ hF' h'
 | loop a iha =>
  intro k T F M n Q hF h hk
  simp only[ZvU]at h
  simp only[AW]
  refine⟨fun m F H=>∃T' M' n',Zv4 T' F∧upT M' n'=H∧Zwm (ZvU call lf a) k m T' M' n'=true,⟨lf,F,_,.refl _ _,T,M,n,hF,rfl,h⟩,?_⟩
  rintro m F H ⟨T',M',n',hF',rfl,h'⟩
  cases m with
  | zero=>simp[Zwm]at h'
  | succ m =>
   simp only[Zwm]at h'
   refine iha hF' h' fun e T'' F'' M'' n'' hF'' h''=>?_
   cases e with
   | normal=>exact⟨m,F'',_,Nat.lt_succ_self _,.refl _ _,T'',M'',n'',hF'',rfl,h''⟩
   | exit i=>exact hk _ _ _ _ _ hF'' h''
   | ret=>exact hk _ _ _ _ _ hF'' h''
 | exit id=>intro k T F M n Q hF h hk;exact hk _ _ _ _ _ hF h
 | ret=>intro k T F M n Q hF h hk;exact hk _ _ _ _ _ hF h
 | bad=>intro k T F M n Q hF h hk;simp[ZvU]at h
end
theorem Zwr:upT .e 0=Zaa.emp:=Zaa.ext (by funext i;rfl) rfl
end Go.Proofs.YtjflognbeehccaaGreatDoor
