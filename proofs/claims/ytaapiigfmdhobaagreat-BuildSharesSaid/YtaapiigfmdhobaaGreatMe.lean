/- Texts of the walk, joined: Rep D24 P24 Eq24 P25 P25b. -/
import Derived.Test.YtaapiigfmdhobaaGreatMd
import Derived.Test.YtaapiigfmdhobaaGreatChecked
namespace Go.Proofs.YtaapiigfmdhobaaGreat
set_option linter.unusedSimpArgs false
set_option linter.unusedVariables false
open Go.RowKit
def I64 (n:Int):Prop := -9223372036854775808≤n∧n≤9223372036854775807
class Rep (α:Type) where
 size:Nat
 pos:0<size
 Is:World→(Nat→Prop)→List Value→α→Prop
 len:∀{w F cs x},Is w F cs x→cs.length=size
 one:∀{w F cs x},Is w F cs x→∀u∈cs,u.oneCell'=true
 keep:∀{w w' F F' cs x},(∀p:Addr,F p.block→w'.cell? p=w.cell? p)→(∀b,F b→F' b)→Is w F cs x→Is w' F' cs x
section
variable {α:Type} [Rep α] {w w':World} {F F':Nat→Prop} {cs:List Value} {x:α}
theorem Rep.kp {S:Nat→Prop} (h:Rep.Is w F cs x) (k:Kp S w w') (hF:∀b,F b→b<w.heap.size∧¬S b):Rep.Is w' F cs x :=
 Rep.keep (fun _ hp=>k.cell (hF _ hp).1 (hF _ hp).2) (fun _ h=>h) h
theorem Rep.below {B:Nat} (h:Rep.Is w F cs x) (k:Below B w w') (hF:∀b,F b→b<B):Rep.Is w' F cs x :=
 Rep.keep (fun _ hp=>k.cell (hF _ hp)) (fun _ h=>h) h
theorem Rep.more (h:Rep.Is w F cs x) (hF:∀b,F b→F' b):Rep.Is w F' cs x:=Rep.keep (fun _ _=>rfl) hF h
end
def Rws {α:Type} [Rep α] (w:World) (F:Nat→Prop) (css:List (List Value)) (l:List α):Prop :=
 css.length=l.length∧∀(i:Nat) (r:List Value) (x:α),css[i]?=some r→l[i]?=some x→Rep.Is w F r x
section
variable {α:Type} [Rep α] {w w':World} {F F':Nat→Prop} {css css':List (List Value)} {l l':List α}
theorem Rws.nil:Rws w F [] ([]:List α):=⟨rfl,fun i r x h=>by simp at h⟩
theorem Rws.keep (hk:∀p:Addr,F p.block→w'.cell? p=w.cell? p) (hF:∀b,F b→F' b) (h:Rws w F css l):Rws w' F' css l :=
 ⟨h.1,fun i r x hr hx=>Rep.keep hk hF (h.2 i r x hr hx)⟩
theorem Rws.app (h:Rws w F css l) (h':Rws w F css' l'):Rws w F (css++css') (l++l'):=by
 refine⟨by rw[List.length_append,List.length_append,h.1,h'.1],fun i r x hr hx=>?_⟩
 by_cases hi:i<css.length
 ·rw[List.getElem?_append_left hi]at hr
  rw[List.getElem?_append_left (by rw[← h.1];exact hi)]at hx
  exact h.2 i r x hr hx
 ·rw[List.getElem?_append_right (by omega)]at hr
  rw[List.getElem?_append_right (by rw[← h.1];omega),← h.1]at hx
  exact h'.2 _ r x hr hx
theorem Rws.single {cs:List Value} {x:α} (h:Rep.Is w F cs x):Rws w F [cs] [x]:=by
 refine⟨rfl,fun i r y hr hy=>?_⟩
 cases i with
 | zero=>simp at hr hy;subst hr hy;exact h
 | succ i=>simp at hr
theorem Rws.lens (h:Rws w F css l):∀r∈css,r.length=Rep.size α:=by
 intro r hr
 obtain⟨i,hi,rfl⟩:=List.getElem_of_mem hr
 exact Rep.len (h.2 i css[i] (l[i]'(by rw[← h.1];exact hi)) (List.getElem?_eq_getElem hi) (List.getElem?_eq_getElem _))
theorem Rws.one (h:Rws w F css l):∀u∈css.flatten,u.oneCell'=true:=by
 intro u hu
 obtain⟨r,hr,hur⟩:=List.mem_flatten.1 hu
 obtain⟨i,hi,rfl⟩:=List.getElem_of_mem hr
 exact Rep.one (h.2 i css[i] (l[i]'(by rw[← h.1];exact hi)) (List.getElem?_eq_getElem hi) (List.getElem?_eq_getElem _)) u hur
theorem Rws.get (h:Rws w F css l) {i:Nat} (hi:i<l.length):∃r,css[i]?=some r∧Rep.Is w F r l[i]∧∀j u,r[j]?=some u→css.flatten[i * Rep.size α+j]?=some u:=by
 have hi2:i<css.length:=by rw[h.1];exact hi
 have hr:=h.2 i css[i] l[i] (List.getElem?_eq_getElem hi2) (List.getElem?_eq_getElem hi)
 refine⟨css[i],List.getElem?_eq_getElem hi2,hr,fun j u hu=>?_⟩
 have hj:j<Rep.size α:=by
  have:=(List.getElem?_eq_some_iff.1 hu).1
  rw[Rep.len hr]at this;exact this
 rw[Zfl h.lens Rep.pos]
 have e1:(i * Rep.size α+j) / Rep.size α=i:=by
  rw[Nat.mul_comm,Nat.mul_add_div Rep.pos,Nat.div_eq_of_lt hj];rfl
 have e2:(i * Rep.size α+j) % Rep.size α=j:=by
  rw[Nat.mul_comm,Nat.mul_add_mod,Nat.mod_eq_of_lt hj]
 rw[e1,e2,List.getElem?_eq_getElem hi2]
 exact hu
theorem Rws.drop (h:Rws w F css l) (k:Nat):Rws w F (css.drop k) (l.drop k) :=
 ⟨by simp[h.1],fun i r x hr hx=>by rw[List.getElem?_drop]at hr hx;exact h.2 _ r x hr hx⟩
theorem Rws.take (h:Rws w F css l) (k:Nat):Rws w F (css.take k) (l.take k) :=
 ⟨by simp[h.1],fun i r x hr hx=>by
  rw[List.getElem?_take]at hr hx
  split at hr
  ·rename_i hlt;rw[if_pos hlt]at hx;exact h.2 _ r x hr hx
  ·cases hr⟩
end
def Zbb {α:Type} [Rep α] (w:World) (F:Nat→Prop) (A:Option Addr) (l:List α):Prop:=∃css,Rws w F css l∧Rd w F (Rep.size α) A l.length css.flatten
def Zhn {α:Type} [Rep α] (w:World) (F:Nat→Prop) (v:Value) (l:List α):Prop:=∃A c,v=.slice A l.length c∧l.length≤c∧c≤maxLen∧Zbb w F A l
section
variable {α:Type} [Rep α] {w w':World} {F F':Nat→Prop} {A:Option Addr} {v:Value} {l:List α}
theorem Zbb.keep (hk:∀p:Addr,F p.block→w'.cell? p=w.cell? p) (hF:∀b,F b→F' b) (h:Zbb w F A l):Zbb w' F' A l:=by
 obtain⟨css,h1,h2⟩:=h
 exact⟨css,h1.keep hk hF,(h2.keep hk).more hF⟩
theorem Zhn.keep (hk:∀p:Addr,F p.block→w'.cell? p=w.cell? p) (hF:∀b,F b→F' b) (h:Zhn w F v l):Zhn w' F' v l:=by
 obtain⟨A,c,e,h1,h2,h3⟩:=h
 exact⟨A,c,e,h1,h2,h3.keep hk hF⟩
theorem Zhn.kp {S:Nat→Prop} (h:Zhn w F v l) (k:Kp S w w') (hF:∀b,F b→b<w.heap.size∧¬S b):Zhn w' F v l:=h.keep (fun _ hp=>k.cell (hF _ hp).1 (hF _ hp).2) (fun _ h=>h)
theorem Zhn.below {B:Nat} (h:Zhn w F v l) (k:Below B w w') (hF:∀b,F b→b<B):Zhn w' F v l:=h.keep (fun _ hp=>k.cell (hF _ hp)) (fun _ h=>h)
theorem Zhn.more (h:Zhn w F v l) (hF:∀b,F b→F' b):Zhn w F' v l:=h.keep (fun _ _=>rfl) hF
theorem Zbb.kp {S:Nat→Prop} (h:Zbb w F A l) (k:Kp S w w') (hF:∀b,F b→b<w.heap.size∧¬S b):Zbb w' F A l:=h.keep (fun _ hp=>k.cell (hF _ hp).1 (hF _ hp).2) (fun _ h=>h)
theorem Zbb.below {B:Nat} (h:Zbb w F A l) (k:Below B w w') (hF:∀b,F b→b<B):Zbb w' F A l:=h.keep (fun _ hp=>k.cell (hF _ hp)) (fun _ h=>h)
theorem Zbb.more (h:Zbb w F A l) (hF:∀b,F b→F' b):Zbb w F' A l:=h.keep (fun _ _=>rfl) hF
theorem Zhn.nil:Zhn w F (.slice none 0 0) ([]:List α):=⟨none,0,rfl,Nat.le_refl _,by unfold maxLen;omega,[],Rws.nil,Rd.nil⟩
theorem Zbb.nil:Zbb w F A ([]:List α):=⟨[],Rws.nil,Rd.nil⟩
theorem Zbb.get (h:Zbb w F A l) {i:Nat} (hi:i<l.length):∃b o r,A=some ⟨b,o,none⟩∧F b∧Rep.Is w F r l[i]∧∀j u,r[j]?=some u→w.cell? ⟨b,o+i * Rep.size α+j,none⟩=some u:=by
 obtain⟨css,h1,h2⟩:=h
 obtain⟨b,o,e,hF,hc⟩:=h2.lit (by omega) Rep.pos
 obtain⟨r,_,hr,hj⟩:=h1.get hi
 exact⟨b,o,r,e,hF,hr,fun j u hu=>by rw[Nat.add_assoc];exact hc _ u (hj j u hu)⟩
theorem Zbb.lt (h:Zbb w F A l) {b o:Nat} (hA:A=some ⟨b,o,none⟩) (hl:0<l.length):b<w.heap.size:=by
 obtain⟨b',o',r,e,hF,hr,hc⟩:=h.get hl
 rw[hA]at e
 injection e with e
 injection e with e1 e2
 subst e1
 have hp:0<r.length:=by rw[Rep.len hr];exact Rep.pos
 exact Zf4 (hc 0 r[0] (List.getElem?_eq_getElem hp))
end
instance:Rep Int where
 size:=1
 pos:=Nat.one_pos
 Is _ _ cs x:=cs=[.int .i64 x]∧I64 x
 len h:=by rw[h.1];rfl
 one h u hu:=by rw[h.1]at hu;simp at hu;subst hu;rfl
 keep _ _ h:=h
instance:Rep Bool where
 size:=1
 pos:=Nat.one_pos
 Is _ _ cs x:=cs=[.bool x]
 len h:=by rw[h];rfl
 one h u hu:=by rw[h]at hu;simp at hu;subst hu;rfl
 keep _ _ h:=h
instance:Rep ByteArray where
 size:=1
 pos:=Nat.one_pos
 Is _ _ cs x:=cs=[.string x]∧x.size≤maxLen
 len h:=by rw[h.1];rfl
 one h u hu:=by rw[h.1]at hu;simp at hu;subst hu;rfl
 keep _ _ h:=h
instance {α:Type} [Rep α]:Rep (List α) where
 size:=1
 pos:=Nat.one_pos
 Is w F cs l:=∃v,cs=[v]∧Zhn w F v l
 len h:=by obtain⟨v,e,_⟩:=h;rw[e];rfl
 one h u hu:=by obtain⟨v,e,A,c,e2,_⟩:=h;rw[e]at hu;simp at hu;subst hu;rw[e2];rfl
 keep hk hF h:=by obtain⟨v,e,h⟩:=h;exact⟨v,e,h.keep hk hF⟩
section
variable {w w':World} {F F':Nat→Prop} {A:Option Addr} {v:Value}
theorem Zbb.int {l:List Int} (h:Zbb w F A l) {i:Nat} (hi:i<l.length):∃b o,A=some ⟨b,o,none⟩∧F b∧b<w.heap.size∧w.cell? ⟨b,o+i,none⟩=some (.int .i64 l[i])∧I64 l[i]:=by
 obtain⟨b,o,r,e,hF,⟨hr,h64⟩,hc⟩:=h.get hi
 subst hr
 have:=hc 0 _ rfl
 simp only[Rep.size,Nat.mul_one,Nat.add_zero]at this
 exact⟨b,o,e,hF,Zf4 this,this,h64⟩
theorem Zbb.sub {α:Type} [Rep α] {l:List (List α)} (h:Zbb w F A l) {i:Nat} (hi:i<l.length):∃b o B c,A=some ⟨b,o,none⟩∧F b∧b<w.heap.size∧w.cell? ⟨b,o+i,none⟩=some (.slice B l[i].length c)∧l[i].length≤c∧c≤maxLen∧Zbb w F B l[i]:=by
 obtain⟨b,o,r,e,hF,⟨v,hr,B,c,rfl,h1,h2,h3⟩,hc⟩:=h.get hi
 subst hr
 have:=hc 0 _ rfl
 simp only[Rep.size,Nat.mul_one,Nat.add_zero]at this
 exact⟨b,o,B,c,e,hF,Zf4 this,this,h1,h2,h3⟩
end
def ZdT {α:Type} [Rep α] (G:Nat→Prop) (w:World) (base:Nat) (E:TypeId) (v:Value) (l:List α):Prop :=
 ∃css,w.ownsRow base E (Rep.size α) v l.length css.flatten∧Rws w (fun b=>G b∧b<w.heap.size∧v.ownBlock≠some b) css l
abbrev OwnL {α:Type} [Rep α] (w:World) (base:Nat) (E:TypeId) (v:Value) (l:List α):Prop:=ZdT (fun _=>True) w base E v l
section
variable {α:Type} [Rep α] {G G':Nat→Prop} {w w':World} {base:Nat} {E:TypeId} {v:Value} {l:List α}
theorem ZdT.nil:ZdT G w base E (.slice none 0 0) ([]:List α):=⟨[],World.ownsRow_nil _ _ _ _,Rws.nil⟩
theorem OwnL.nil:OwnL w base E (.slice none 0 0) ([]:List α):=ZdT.nil
theorem ZdT.block (h:ZdT G w base E v l):∀k,v.ownBlock=some k→base≤k∧k<w.heap.size:=by
 obtain⟨css,h1,h2⟩:=h
 exact Zl9 h1
theorem ZdT.more (h:ZdT G w base E v l) (hG:∀b,b<w.heap.size→G b→G' b):ZdT G' w base E v l:=by
 obtain⟨css,h1,h2⟩:=h
 exact⟨css,h1,h2.keep (fun _ _=>rfl) (fun b hb=>⟨hG b hb.2.1 hb.1,hb.2⟩)⟩
theorem ZdT.sl (h:ZdT G w base E v l):Zhn w (·<w.heap.size) v l:=by
 obtain⟨css,h1,h2⟩:=h
 obtain⟨A,c,rfl,h3,h4⟩:=own_form h1
 exact⟨A,c,rfl,h3,h4,css,h2.keep (fun _ _=>rfl) (fun b hb=>hb.2.1),(Rd.of_own h1).more (fun b hb=>hb.2)⟩
theorem ZdT.kpS {S:Nat→Prop} (h:ZdT G w base E v l) (k:Kp S w w') (hv:∀b,v.ownBlock=some b→¬S b) (hS:∀b,b<w.heap.size→G b→¬S b):ZdT G w' base E v l:=by
 obtain⟨css,h1,h2⟩:=h
 refine⟨css,?_,h2.keep (fun p hp=>k.cell hp.2.1 (hS _ hp.2.1 hp.1)) (fun b hb=>⟨hb.1,Nat.lt_of_lt_of_le hb.2.1 k.size,hb.2.2⟩)⟩
 refine⟨h1.1,?_⟩
 rcases h1.2 with h3|⟨g,cap,cur,e,hg,hc,r⟩
 ·exact .inl h3
 ·refine .inr ⟨g,cap,cur,e,hg,?_,r⟩
  have hlt:g<w.heap.size:=by
   rcases Nat.lt_or_ge g w.heap.size with hlt|hge
   ·exact hlt
   ·rw[Array.getElem?_eq_none hge]at hc;cases hc
  rw[k.block g hlt (hv g (by rw[e];rfl))]
  exact hc
theorem ZdT.kp {S:Nat→Prop} (h:ZdT G w base E v l) (k:Kp S w w') (hS:∀b,b<w.heap.size→¬S b):ZdT G w' base E v l :=
 h.kpS k (fun b hb=>hS b (h.block b hb).2) (fun b hb _=>hS b hb)
theorem ZdT.below (h:ZdT G w base E v l) (k:Below w.heap.size w w'):ZdT G w' base E v l:=h.kp (Kp.of_below (S:=fun _=>False) k) (fun _ _ h=>h)
theorem ZdT.alloc (h:ZdT G w base E v l) (o:Obj):ZdT G (w.alloc o) base E v l:=h.kp ((Kp.refl (fun _=>False) w).alloc o) (fun _ _ h=>h)
theorem ZdT.drewN (h:ZdT G w base E v l) (n:Nat):ZdT G (w.drewN n) base E v l:=h.kp ((Kp.refl (fun _=>False) w).drewN n) (fun _ _ h=>h)
theorem ZdT.drew (h:ZdT G w base E v l):ZdT G w.drew base E v l:=h.kp ((Kp.refl (fun _=>False) w).drew) (fun _ _ h=>h)
theorem ZdT.setCell (h:ZdT G w base E v l) {p:Addr} (hp:v.ownBlock≠some p.block) (hG:¬G p.block) (u:Value):ZdT G (w.setCell p u) base E v l :=
 h.kpS ((Kp.refl (fun b=>b=p.block) w).setCell (p:=p) (.inl rfl) u) (fun b hb e=>hp (by rw[← e];exact hb)) (fun b _ hb e=>hG (by rw[← e];exact hb))
theorem ZdT.ne {g:Nat} {t:TypeId} {cs:List Value} (h:ZdT G w base E v l) (hb:Blk w g t cs) (hne:E≠t):v.ownBlock≠some g:=by
 obtain⟨css,h1,h2⟩:=h
 intro e
 rcases h1.2 with⟨rfl,_⟩|⟨g',cap,cur,rfl,hg,hc,r⟩
 ·cases e
 ·have e:g'=g:=by injection e
  subst e
  unfold Blk at hb
  rw[hb]at hc
  injection hc with hc
  injection hc with _ ht
  exact hne ht.symm
end
section
variable {P:Program} {α:Type} [Rep α] {G:Nat→Prop} (w:World)
end
theorem wpList_append_run {P:Program} {w w':World} {ops:Array Oper} {rest:List Oper} {o:Oper} {a:Act} {Q:Exit→Act→World→Prop} (hgd:o.guard=none) (s x:Operand) (t u:TypeId)
  (ho:o.op=.call { callee:=.builtin .append,args:=#[s,x],argTypes:=#[t,u] }) {vs vx v:Value} (hs:a.eval s=vs) (hx:a.eval x=vx)
  (hrun:(Builtin.append_ #[t,u] o.type #[vs,vx]).run P w=.ok v w') (h:wpList P ops Q rest (a.put o.dst v) w'):wpList P ops Q (o :: rest) a w :=
 wpList_plain hgd fun _ hK=>by
  unfold Oper.wp execOp
  simp only[ho,resolve,invoke,builtin,Sem.run_bind,Sem.run_pure,Result.andThen_ok,List.map_toArray,List.map_cons,List.map_nil,hs,hx,hrun]
  exact hK _ _ h
structure Ag where
 (n s0 l0 h0 s1 l1 h1 s2 l2 h2:Int)
 deriving DecidableEq
structure Cel where
 (key child:Int)
 (agg:Ag)
 deriving DecidableEq
structure Nod where
 dim:Int
 lists:List (List Cel)
 all:Cel
 deriving DecidableEq
structure Shp where
 sizes:List (List Int)
 measures:Int
 deriving DecidableEq
abbrev Ag.arr (a:Ag):Array Value:=#[.int .i64 a.n,.int .i64 a.s0,.int .i64 a.l0,.int .i64 a.h0,.int .i64 a.s1,.int .i64 a.l1,.int .i64 a.h1,.int .i64 a.s2,.int .i64 a.l2,.int .i64 a.h2]
abbrev Cel.arr (c:Cel):Array Value:=#[.int .i64 c.key,.int .i64 c.child,.int .i64 c.agg.n,.int .i64 c.agg.s0,.int .i64 c.agg.l0,.int .i64 c.agg.h0,.int .i64 c.agg.s1,.int .i64 c.agg.l1,.int .i64 c.agg.h1,.int .i64 c.agg.s2,.int .i64 c.agg.l2,.int .i64 c.agg.h2]
abbrev nodArr (d:Int) (v:Value) (c:Cel):Array Value:=#[.int .i64 d,v,.int .i64 c.key,.int .i64 c.child,.int .i64 c.agg.n,.int .i64 c.agg.s0,.int .i64 c.agg.l0,.int .i64 c.agg.h0,.int .i64 c.agg.s1,.int .i64 c.agg.l1,.int .i64 c.agg.h1,.int .i64 c.agg.s2,.int .i64 c.agg.l2,.int .i64 c.agg.h2]
def Ag.ok (a:Ag):Prop:=I64 a.n∧(I64 a.s0∧I64 a.l0∧I64 a.h0)∧(I64 a.s1∧I64 a.l1∧I64 a.h1)∧(I64 a.s2∧I64 a.l2∧I64 a.h2)
def Cel.ok (c:Cel):Prop:=I64 c.key∧I64 c.child∧c.agg.ok
def ag0:Ag:=⟨0,0,0,0,0,0,0,0,0,0⟩
def ZcE:Cel:=⟨0,0,ag0⟩
theorem Zer (l:List Int):∀u∈l.map (Value.int .i64),u.oneCell'=true:=by
 intro u hu
 obtain⟨x,_,rfl⟩:=List.mem_map.1 hu
 rfl
instance:Rep Ag where
 size:=10
 pos:=by decide
 Is _ _ cs x:=cs=x.arr.toList∧x.ok
 len h:=by rw[h.1];rfl
 one {_ _ _ x} h u hu:=by rw[h.1]at hu;exact Zer [x.n,x.s0,x.l0,x.h0,x.s1,x.l1,x.h1,x.s2,x.l2,x.h2] u hu
 keep _ _ h:=h
instance:Rep Cel where
 size:=12
 pos:=by decide
 Is _ _ cs x:=cs=x.arr.toList∧x.ok
 len h:=by rw[h.1];rfl
 one {_ _ _ x} h u hu:=by rw[h.1]at hu;exact Zer [x.key,x.child,x.agg.n,x.agg.s0,x.agg.l0,x.agg.h0,x.agg.s1,x.agg.l1,x.agg.h1,x.agg.s2,x.agg.l2,x.agg.h2] u hu
 keep _ _ h:=h
instance:Rep Nod where
 size:=14
 pos:=by decide
 Is w F cs x:=∃v,cs=(nodArr x.dim v x.all).toList∧I64 x.dim∧Zhn w F v x.lists∧x.all.ok
 len h:=by obtain⟨v,e,_⟩:=h;rw[e];rfl
 one {_ _ _ x} h u hu:=by
  obtain⟨v,e,_,hv,_⟩:=h
  obtain⟨A,c,rfl,_⟩:=hv
  rw[e]at hu
  simp only[List.mem_cons,List.not_mem_nil,or_false]at hu
  rcases hu with h|h|h|h|h|h|h|h|h|h|h|h|h|h<;>(rw[h];rfl)
 keep hk hF h:=by
  obtain⟨v,e,h1,h2,h3⟩:=h
  exact⟨v,e,h1,h2.keep hk hF,h3⟩
instance:Rep Shp where
 size:=2
 pos:=by decide
 Is w F cs x:=∃v,cs=[v,.int .i64 x.measures]∧Zhn w F v x.sizes∧I64 x.measures
 len h:=by obtain⟨v,e,_⟩:=h;rw[e];rfl
 one {_ _ _ x} h u hu:=by
  obtain⟨v,e,hv,_⟩:=h
  obtain⟨A,c,rfl,_⟩:=hv
  rw[e]at hu
  simp only[List.mem_cons,List.not_mem_nil,or_false]at hu
  rcases hu with h|h<;>(rw[h];rfl)
 keep hk hF h:=by
  obtain⟨v,e,h1,h2⟩:=h
  exact⟨v,e,h1.keep hk hF,h2⟩
def CelAt (w:World) (b o:Nat) (c:Cel):Prop :=
 w.cell? ⟨b,o,none⟩=some (.int .i64 c.key)∧w.cell? ⟨b,o+1,none⟩=some (.int .i64 c.child)∧w.cell? ⟨b,o+2,none⟩=some (.int .i64 c.agg.n) ∧
 w.cell? ⟨b,o+3,none⟩=some (.int .i64 c.agg.s0)∧w.cell? ⟨b,o+4,none⟩=some (.int .i64 c.agg.l0)∧w.cell? ⟨b,o+5,none⟩=some (.int .i64 c.agg.h0) ∧
 w.cell? ⟨b,o+6,none⟩=some (.int .i64 c.agg.s1)∧w.cell? ⟨b,o+7,none⟩=some (.int .i64 c.agg.l1)∧w.cell? ⟨b,o+8,none⟩=some (.int .i64 c.agg.h1) ∧
 w.cell? ⟨b,o+9,none⟩=some (.int .i64 c.agg.s2)∧w.cell? ⟨b,o+10,none⟩=some (.int .i64 c.agg.l2)∧w.cell? ⟨b,o+11,none⟩=some (.int .i64 c.agg.h2)
section
variable {w w':World} {F F':Nat→Prop} {A:Option Addr} {v:Value}
theorem Zbb.nod {l:List Nod} (h:Zbb w F A l) {i:Nat} (hi:i<l.length):∃b o B c,A=some ⟨b,o,none⟩∧F b∧b<w.heap.size∧w.cell? ⟨b,o+i * 14,none⟩=some (.int .i64 l[i].dim) ∧
  w.cell? ⟨b,o+i * 14+1,none⟩=some (.slice B l[i].lists.length c)∧CelAt w b (o+i * 14+2) l[i].all∧I64 l[i].dim∧l[i].lists.length≤c∧c≤maxLen∧Zbb w F B l[i].lists∧l[i].all.ok:=by
 obtain⟨b,o,r,e,hF,⟨v,hr,h1,⟨B,c,rfl,h2,h3,h4⟩,h5⟩,hc⟩:=h.get hi
 subst hr
 exact⟨b,o,B,c,e,hF,Zf4 (hc 0 _ rfl),hc 0 _ rfl,hc 1 _ rfl,⟨hc 2 _ rfl,hc 3 _ rfl,hc 4 _ rfl,hc 5 _ rfl,hc 6 _ rfl,hc 7 _ rfl,hc 8 _ rfl,hc 9 _ rfl,hc 10 _ rfl,hc 11 _ rfl,hc 12 _ rfl,hc 13 _ rfl⟩,h1,h2,h3,h4,h5⟩
end
theorem Zbb.made {α:Type} [Rep α] {w:World} {F:Nat→Prop} {cs:Array Value} {x:α} {t:TypeId} (h:Rep.Is (w.alloc (.cells cs t)) F cs.toList x) (hF:F w.heap.size):Zbb (w.alloc (.cells cs t)) F (some ⟨w.heap.size,0,none⟩) [x]:=by
 refine⟨[cs.toList],Rws.single h,by simp[Rep.len h],fun _=>⟨_,rfl,hF,fun j u hu=>?_⟩⟩
 have hb:Blk (w.alloc (.cells cs t)) w.heap.size t cs.toList:=heap_alloc_new w _
 have:(⟨w.heap.size,0,none⟩:Addr).add j=⟨w.heap.size,j,none⟩:=by unfold Addr.add;split<;>simp_all
 rw[this,hb.cell]
 simpa using hu
def Zd9:Sh:=.int .i64
def Zio:Sh:=.pair Zd9 (.pair Zd9 (.pair Zd9 .unit))
def agSh:Sh:=.pair Zd9 (.pair (.arr 3 Zio) .unit)
section
variable {w:World} {F:Nat→Prop}
end
theorem Zis:(Sh.slice Zd9).Fits Tryz.prog (.inl 57):=⟨3,Tryz.underlying57,by kernel_rfl,by decide,Tryz.underlying3⟩
theorem ZmO:Zio.Fits Tryz.prog (.inl 51) :=
 ⟨_,_,Tryz.underlying51,by kernel_rfl,rfl,by kernel_rfl,Tryz.underlying2,_,_,rfl,rfl,by kernel_rfl,Tryz.underlying2,_,_,rfl,rfl,by kernel_rfl,Tryz.underlying2,rfl⟩
theorem fits_ag:agSh.Fits Tryz.prog (.inl 54) :=
 ⟨_,_,Tryz.underlying54,by kernel_rfl,rfl,by kernel_rfl,Tryz.underlying2,_,_,rfl,rfl,by kernel_rfl,⟨_,Tryz.underlying52,by kernel_rfl,by kernel_rfl,ZmO⟩,rfl⟩
def Zb2 (i m n s l h:Int):Bool:=if m≤i then decide (s=0∧l=0∧h=0) else decide (l≤h)&&!(decide (n=1)&&(decide (s≠l) || decide (s≠h)))
def Zbw (m:Int) (a:Ag):Bool:=decide (0≤m)&&decide (m≤3)&&decide (1≤a.n)&&Zb2 0 m a.n a.s0 a.l0 a.h0&&Zb2 1 m a.n a.s1 a.l1 a.h1&&Zb2 2 m a.n a.s2 a.l2 a.h2
structure Prt where
 (s l h:Int)
def Ag.prt (a:Ag):Nat→Prt
 | 0=>⟨a.s0,a.l0,a.h0⟩
 | 1=>⟨a.s1,a.l1,a.h1⟩
 | _=>⟨a.s2,a.l2,a.h2⟩
def ZcQ (k:Nat) (m:Int) (a:Ag):Bool:=match k with
 | 0=>Zb2 0 m a.n a.s0 a.l0 a.h0&&Zb2 1 m a.n a.s1 a.l1 a.h1&&Zb2 2 m a.n a.s2 a.l2 a.h2
 | 1=>Zb2 1 m a.n a.s1 a.l1 a.h1&&Zb2 2 m a.n a.s2 a.l2 a.h2
 | 2=>Zb2 2 m a.n a.s2 a.l2 a.h2
 | _=>true
theorem tail0 {m:Int} {a:Ag} (h0:0≤m) (h1:m≤3) (h2:1≤a.n):Zbw m a=ZcQ 0 m a:=by
 unfold Zbw ZcQ
 simp[h0,h1,h2]
theorem Zii {k:Nat} (hk:k<3) (m:Int) (a:Ag):ZcQ k m a=(Zb2 k m a.n (a.prt k).s (a.prt k).l (a.prt k).h&&ZcQ (k+1) m a):=by
 obtain rfl|rfl|rfl:k=0∨k=1∨k=2:=by omega
 ·simp[ZcQ,Ag.prt,Bool.and_assoc]
 ·simp[ZcQ,Ag.prt]
 ·simp[ZcQ,Ag.prt]
def lastB (x:Shp) (dim:Int):Bool:=dim == (x.sizes.length:Int) - 1
def ZbQ (x:Shp) (dim:Int) (c:Cel):Bool:=if lastB x dim then decide (c.child=0)&&Zbw x.measures c.agg else decide (0≤c.child)&&decide (c.agg=ag0)
def ZiJ:Option Int→Int→Bool
 | none,_=>false
 | some q,k=>decide (k≤q)
def Zkf:Option Nat→Nat→Bool
 | none,_=>false
 | some q,k=>decide (q<k)
def ZcA (x:Shp) (dim size:Int):Option Int→List Cel→Int
 | _,[]=>0
 | p,c :: r=>if c.key<0∨size≤c.key then 13 else if ZiJ p c.key=true then 4 else if ZbQ x dim c=false then 2 else ZcA x dim size (some c.key) r
def Zb1 (l:List Cel) (k:Nat):Option Int:=if k=0 then none else (l[k - 1]?).map Cel.key
theorem Zhe {l:List Cel} {k:Nat} (h:k<l.length):Zb1 l (k+1)=some l[k].key:=by
 unfold Zb1;simp[h]
theorem Zh4 (x:Shp) (dim size:Int) (l:List Cel) (k:Nat) (h:k<l.length):ZcA x dim size (Zb1 l k) (l.drop k) =
  if l[k].key<0∨size≤l[k].key then 13 else if ZiJ (Zb1 l k) l[k].key=true then 4 else if ZbQ x dim l[k]=false then 2 else ZcA x dim size (Zb1 l (k+1)) (l.drop (k+1)):=by
 rw[List.drop_eq_getElem_cons h,Zhe h,ZcA]
def ZbN (x:Shp) (dim size:Int) (l:List Cel):Int:=if l.length=0 then 2 else ZcA x dim size none l
def ZbH (x:Shp) (dim:Int):Option Nat→List Int→List (List Cel)→Int
 | _,_,[]=>0
 | _,[],_=>0
 | p,s :: ss,l :: r=>if ZbN x dim s l≠0 then ZbN x dim s l else if Zkf p l.length=true then 14 else ZbH x dim (some l.length) ss r
def ZcG (l:List (List Cel)) (k:Nat):Option Nat:=if k=0 then none else (l[k - 1]?).map List.length
theorem Zg6 {l:List (List Cel)} {k:Nat} (h:k<l.length):ZcG l (k+1)=some l[k].length:=by
 unfold ZcG;simp[h]
theorem Zhi (x:Shp) (dim:Int) (s:List Int) (l:List (List Cel)) (k:Nat) (h:k<l.length) (h':k<s.length):ZbH x dim (ZcG l k) (s.drop k) (l.drop k) =
  if ZbN x dim s[k] l[k]≠0 then ZbN x dim s[k] l[k] else if Zkf (ZcG l k) l[k].length=true then 14 else ZbH x dim (ZcG l (k+1)) (s.drop (k+1)) (l.drop (k+1)):=by
 rw[List.drop_eq_getElem_cons h,List.drop_eq_getElem_cons h',Zg6 h,ZbH]
theorem ZeZ (x:Shp) (dim:Int) (p:Option Nat) (s:List Int):ZbH x dim p s []=0:=by
 cases p<;>cases s<;>rfl
def Zbf (x:Shp) (n:Nod):Int :=
 if n.dim<0∨(x.sizes.length:Int)≤n.dim then 2 else
 let s:=x.sizes.getD n.dim.toNat []
 if n.lists.length≠s.length∨n.lists.length=0 then 2 else
 if ZbH x n.dim none s n.lists≠0 then ZbH x n.dim none s n.lists else
 if n.all.key≠0∨ZbQ x n.dim n.all=false then 2 else 0
def each (n:Nod):List Cel:=n.lists.flatten++[n.all]
def ZeO (x:Shp) (l:List Nod) (n:Nod):Bool:=lastB x n.dim || (each n).all fun c=>decide (c.child<l.length)&&decide ((l.getD c.child.toNat ⟨0,[],ZcE⟩).dim=n.dim+1)
def ZbF (x:Shp) (most:Int) (l:List Nod) (n:Nod):Int :=
 if Zbf x n≠0 then Zbf x n else if ZeO x l n=false then 9 else if most≤l.length then 7 else 0
def ZcZ:Option Int→List Int→Bool
 | _,[]=>true
 | p,n :: r=>decide (1≤n)&&decide (n≤200)&&(match p with|none=>true|some q=>decide (n≤q))&&ZcZ (some n) r
def ZbT (l:List Int):Bool:=decide (1≤l.length)&&decide (l.length≤4)&&ZcZ none l
def ZbS (x:Shp):Bool:=decide (1≤x.sizes.length)&&decide (x.sizes.length≤16)&&decide (1≤x.measures)&&decide (x.measures≤3)&&x.sizes.all ZbT
set_option maxHeartbeats 1000000 in
set_option maxRecDepth 100000 in
theorem Zfh (d:Nat) (w:World) (a0 a1 a2 b0 b1 b2:Int):(Op.equalIn (d+2) 51 (.agg #[.int .i64 a0,.int .i64 a1,.int .i64 a2]) (.agg #[.int .i64 b0,.int .i64 b1,.int .i64 b2])).run Tryz.prog w =
  .ok (decide (a0=b0∧a1=b1∧a2=b2)) w:=by
 rw[run_equalIn_struct w (d+1) _ _ _ (by kernel_rfl) (by kernel_rfl)]
 by_cases h0:a0=b0<;>by_cases h1:a1=b1<;>by_cases h2:a2=b2<;>simp[go_sem,h0,h1,h2]
set_option maxHeartbeats 1000000 in
set_option maxRecDepth 100000 in
theorem eq_parts (d:Nat) (w:World) (a0 a1 a2 a3 a4 a5 a6 a7 a8 b0 b1 b2 b3 b4 b5 b6 b7 b8:Int):(Op.equalIn (d+3) 52 (.agg #[.int .i64 a0,.int .i64 a1,.int .i64 a2,.int .i64 a3,.int .i64 a4,.int .i64 a5,.int .i64 a6,.int .i64 a7,.int .i64 a8]) (.agg #[.int .i64 b0,.int .i64 b1,.int .i64 b2,.int .i64 b3,.int .i64 b4,.int .i64 b5,.int .i64 b6,.int .i64 b7,.int .i64 b8])).run Tryz.prog w =
  .ok (decide (a0=b0∧a1=b1∧a2=b2)&&(decide (a3=b3∧a4=b4∧a5=b5)&&decide (a6=b6∧a7=b7∧a8=b8))) w:=by
 unfold Op.equalIn
 by_cases h0:a0=b0∧a1=b1∧a2=b2
 ·by_cases h1:a3=b3∧a4=b4∧a5=b5
  ·by_cases h2:a6=b6∧a7=b7∧a8=b8
   ·obtain⟨rfl,rfl,rfl⟩:=h0
    obtain⟨rfl,rfl,rfl⟩:=h1
    obtain⟨rfl,rfl,rfl⟩:=h2
    simp[run_underlying Tryz.underlying52,go_sem,List.range'_succ]
   ·obtain⟨rfl,rfl,rfl⟩:=h0
    obtain⟨rfl,rfl,rfl⟩:=h1
    have e2:=fun w=>Zfh d w a6 a7 a8 b6 b7 b8
    rw[decide_eq_false h2]at e2 ⊢
    simp[run_underlying Tryz.underlying52,part,isAgg,go_sem,List.range'_succ,Zfh,e2,h2]
    exact fun h1 h3 h4=>h2 ⟨h1,h3,h4⟩
  ·obtain⟨rfl,rfl,rfl⟩:=h0
   have e1:=fun w=>Zfh d w a3 a4 a5 b3 b4 b5
   rw[decide_eq_false h1]at e1 ⊢
   simp[run_underlying Tryz.underlying52,go_sem,List.range'_succ,e1]
   exact fun h3 h4 h5=>absurd ⟨h3,h4,h5⟩ h1
 ·have e0:=fun w=>Zfh d w a0 a1 a2 b0 b1 b2
  rw[decide_eq_false h0]at e0 ⊢
  simp[run_underlying Tryz.underlying52,go_sem,List.range'_succ,e0]
theorem ag_eq (a b:Ag):(a=b)=(a.n=b.n∧(a.s0=b.s0∧a.l0=b.l0∧a.h0=b.h0)∧(a.s1=b.s1∧a.l1=b.l1∧a.h1=b.h1)∧(a.s2=b.s2∧a.l2=b.l2∧a.h2=b.h2)):=by
 cases a;cases b;simp only[Ag.mk.injEq,and_assoc]
set_option maxHeartbeats 1000000 in
set_option maxRecDepth 100000 in
theorem eq_ag (d:Nat) (w:World) (a b:Ag):(Op.equalIn (d+4) 54 (.agg a.arr) (.agg b.arr)).run Tryz.prog w=.ok (decide (a=b)) w:=by
 rw[run_equalIn_struct w (d+3) _ _ _ (by kernel_rfl) (by kernel_rfl)]
 have e0:=fun w=>eq_parts d w a.s0 a.l0 a.h0 a.s1 a.l1 a.h1 a.s2 a.l2 a.h2 b.s0 b.l0 b.h0 b.s1 b.l1 b.h1 b.s2 b.l2 b.h2
 simp only[ag_eq]
 rw[← Bool.decide_and,← Bool.decide_and]at e0
 cases h0:decide ((a.s0=b.s0∧a.l0=b.l0∧a.h0=b.h0)∧(a.s1=b.s1∧a.l1=b.l1∧a.h1=b.h1)∧(a.s2=b.s2∧a.l2=b.l2∧a.h2=b.h2))<;>simp only[h0]at e0 <;>
 by_cases h1:a.n=b.n<;>simp[go_sem,e0,h1]<;>simpa using h0
theorem cel_eq (a b:Cel):(a=b)=(a.key=b.key∧a.child=b.child∧a.agg=b.agg):=by
 cases a;cases b;simp only[Cel.mk.injEq]
set_option maxHeartbeats 1000000 in
set_option maxRecDepth 100000 in
theorem eq_cel (d:Nat) (w:World) (a b:Cel):(Op.equalIn (d+5) 113 (.agg a.arr) (.agg b.arr)).run Tryz.prog w=.ok (decide (a=b)) w:=by
 rw[run_equalIn_struct w (d+4) _ _ _ (by kernel_rfl) (by kernel_rfl)]
 have e0:=fun w=>eq_ag d w a.agg b.agg
 simp only[cel_eq]
 by_cases h1:a.key=b.key
 ·by_cases h2:a.child=b.child
  ·cases h0:decide (a.agg=b.agg)<;>simp only[h0]at e0<;>simp[go_sem,e0,h1,h2]<;>simpa using h0
  ·simp[go_sem,h1,h2]
 ·simp[go_sem,h1]
def ZcX (l:List Int) (k:Nat):Option Int:=if k=0 then none else l[k - 1]?
theorem ZgQ {l:List Int} {k:Nat} (h:k<l.length):ZcX l (k+1)=some l[k]:=by
 unfold ZcX;simp[h]
def leI:Option Int→Int→Bool
 | none,_=>true
 | some q,n=>decide (n≤q)
theorem Ziz (p:Option Int) (n:Int) (r:List Int):ZcZ p (n :: r)=(decide (1≤n)&&decide (n≤200)&&leI p n&&ZcZ (some n) r):=by
 cases p<;>rfl
theorem Zjs (l:List Int) (k:Nat) (h:k<l.length):ZcZ (ZcX l k) (l.drop k)=(decide (1≤l[k])&&decide (l[k]≤200)&&leI (ZcX l k) l[k]&&ZcZ (ZcX l (k+1)) (l.drop (k+1))):=by
 rw[List.drop_eq_getElem_cons h,ZgQ h,Ziz]
theorem all_step (l:List (List Int)) (k:Nat) (h:k<l.length):(l.drop k).all ZbT=(ZbT l[k]&&(l.drop (k+1)).all ZbT):=by
 rw[List.drop_eq_getElem_cons h,List.all_cons]
theorem Zby {x:Shp} (h:ZbS x=true):1≤x.sizes.length∧x.sizes.length≤16∧1≤x.measures∧x.measures≤3∧∀l∈x.sizes,ZbT l=true:=by
 unfold ZbS at h
 simp only[Bool.and_eq_true,decide_eq_true_eq,List.all_eq_true]at h
 exact⟨h.1.1.1.1,h.1.1.1.2,h.1.1.2,h.1.2,h.2⟩
theorem ZcP {l:List Int} (h:ZbT l=true):1≤l.length∧l.length≤4∧ZcZ none l=true:=by
 unfold ZbT at h
 simp only[Bool.and_eq_true,decide_eq_true_eq]at h
 exact⟨h.1.1,h.1.2,h.2⟩
theorem Zkm (x:Shp) (dim size:Int):∀(l:List Cel) (p:Option Int),ZcA x dim size p l=0→∀c∈l,ZbQ x dim c=true:=by
 intro l
 induction l with
 | nil=>intro p _ c hc;cases hc
 | cons y r ih =>
  intro p h c hc
  rw[ZcA]at h
  split at h
  ·cases h
  split at h
  ·cases h
  split at h
  ·cases h
  rename_i h3
  rcases List.mem_cons.1 hc with rfl|hc
  ·simpa using h3
  ·exact ih _ h c hc
theorem Zjo (x:Shp) (dim:Int):∀(ls:List (List Cel)) (ss:List Int) (p:Option Nat),ls.length≤ss.length→ZbH x dim p ss ls=0→∀l∈ls,∀c∈l,ZbQ x dim c=true:=by
 intro ls
 induction ls with
 | nil=>intro ss p _ _ l hl;cases hl
 | cons y r ih =>
  intro ss p hlen h l hl c hc
  cases ss with
  | nil=>simp at hlen
  | cons s ss =>
   rw[ZbH]at h
   split at h
   ·rename_i h1;exact absurd h h1
   split at h
   ·cases h
   rename_i h1 h2
   rcases List.mem_cons.1 hl with rfl|hl
   ·have h3:ZbN x dim s l=0:=by simpa using h1
    unfold ZbN at h3
    split at h3
    ·cases h3
    exact Zkm x dim s l none h3 c hc
   ·exact ih ss _ (by simpa using hlen) h l hl c hc
theorem Zfw {x:Shp} {n:Nod} (h:Zbf x n=0):0≤n.dim∧n.dim<x.sizes.length∧n.lists.length=(x.sizes.getD n.dim.toNat []).length∧1≤n.lists.length∧n.all.key=0:=by
 unfold Zbf at h
 split at h
 ·cases h
 simp only at h
 split at h
 ·cases h
 split at h
 ·rename_i h1;exact absurd h h1
 split at h
 ·cases h
 rename_i h1 h2 h3 h4
 refine⟨by omega,by omega,by omega,by omega,?_⟩
 by_cases hk:n.all.key=0
 ·exact hk
 ·exact absurd (.inl hk) h4
theorem Zjj {x:Shp} {n:Nod} (h:Zbf x n=0):∀c∈each n,ZbQ x n.dim c=true:=by
 obtain⟨_,_,hl,_⟩:=Zfw h
 unfold Zbf at h
 split at h
 ·cases h
 simp only at h
 split at h
 ·cases h
 split at h
 ·rename_i h1;exact absurd h h1
 rename_i h3
 split at h
 ·cases h
 rename_i h4
 intro c hc
 unfold each at hc
 rcases List.mem_append.1 hc with hc|hc
 ·obtain⟨l,hl1,hl2⟩:=List.mem_flatten.1 hc
  exact Zjo x n.dim n.lists (x.sizes.getD n.dim.toNat []) none (by omega) (by simpa using h3) l hl1 c hl2
 ·rw[List.mem_singleton]at hc
  subst hc
  cases hb:ZbQ x n.dim n.all with
  | true=>rfl
  | false=>exact absurd (.inr hb) h4
theorem Zfu {x:Shp} {n:Nod} (h:Zbf x n=0) (hl:lastB x n.dim=false):∀c∈each n,0≤c.child:=by
 intro c hc
 have h1:=Zjj h c hc
 unfold ZbQ at h1
 rw[hl]at h1
 simp at h1
 exact h1.1
def Zg3 (l:List Nod) (dim:Int) (c:Cel):Bool:=decide (c.child<l.length)&&decide ((l.getD c.child.toNat ⟨0,[],ZcE⟩).dim=dim+1)
theorem ZmM (x:Shp) (l:List Nod) (n:Nod):ZeO x l n=(lastB x n.dim || (each n).all (Zg3 l n.dim)):=rfl
end Go.Proofs.YtaapiigfmdhobaaGreat
