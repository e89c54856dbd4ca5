/- Texts of the walk. -/
import Derived.Test.YtaapiigfmdhobaaGreatMd
import Derived.Test.YtaapiigfmdhobaaGreatChecked
namespace Go.Proofs.YtaapiigfmdhobaaGreat
set_option linter.defProp false
set_option linter.unusedSimpArgs false
set_option linter.unusedVariables false
open Go.RowKit
class Rep (α:Type) where
 size:Nat
 pos:0<size
 Is:World->(Nat->Prop)->List Value->α->Prop
 len:∀{w F cs x},Is w F cs x->cs.length=size
 one:∀{w F cs x},Is w F cs x->∀u∈cs,u.oneCell'=true
 keep:∀{w w' F F' cs x},(∀p:Addr,F p.block->w'.cell? p=w.cell? p)->(∀b,F b->F' b)->Is w F cs x->Is w' F' cs x
section
variable {α:Type} [Rep α] {w w':World} {F F':Nat->Prop} {cs:List Value} {x:α}
end
section
variable {α:Type} [Rep α] {w w':World} {F F':Nat->Prop} {css css':List (List Value)} {l l':List α}
end
section
variable {α:Type} [Rep α] {w w':World} {F F':Nat->Prop} {A:Option Addr} {v:Value} {l:List α}
end
section
variable {w w':World} {F F':Nat->Prop} {A:Option Addr} {v:Value}
end
section
variable {α:Type} [Rep α] {G G':Nat->Prop} {w w':World} {base:Nat} {E:TypeId} {v:Value} {l:List α}
end
section
variable {P:Program} {α:Type} [Rep α] {G:Nat->Prop} (w:World)
end
theorem wpList_append_run {P:Program} {w w':World} {ops:Array Oper} {rest:List Oper} {o:Oper} {a:Act} {Q:Exit->Act->World->Prop} (hgd:o.guard=none) (s x:Operand) (t u:TypeId)
  (ho:o.op=.call { callee:=.builtin .append,args:=#[s,x],argTypes:=#[t,u] }) {vs vx v:Value} (hs:a.eval s=vs) (hx:a.eval x=vx)
  (hrun:(Builtin.append_ #[t,u] o.type #[vs,vx]).run P w=.ok v w') (h:wpList P ops Q rest (a.put o.dst v) w'):wpList P ops Q (o :: rest) a w :=
 wpList_plain hgd fun _ hK=>by
  unfold Oper.wp execOp
  simp only[ho,resolve,invoke,builtin,Sem.run_bind,Sem.run_pure,Result.andThen_ok,List.map_toArray,zas,zaS,hs,hx,hrun]
  exact hK _ _ h
structure Ag where
 (n s0 l0 h0 s1 l1 h1 s2 l2 h2:Int)
 deriving DecidableEq
structure Cel where
 (key child:Int)
 (agg:Ag)
 deriving DecidableEq
structure Nod where
 dim:Int
 lists:List (List Cel)
 all:Cel
 deriving DecidableEq
structure Shp where
 sizes:List (List Int)
 measures:Int
 deriving DecidableEq
abbrev Ag.arr (a:Ag):Array Value:=#[.int .i64 a.n,.int .i64 a.s0,.int .i64 a.l0,.int .i64 a.h0,.int .i64 a.s1,.int .i64 a.l1,.int .i64 a.h1,.int .i64 a.s2,.int .i64 a.l2,.int .i64 a.h2]
abbrev Cel.arr (c:Cel):Array Value:=#[.int .i64 c.key,.int .i64 c.child,.int .i64 c.agg.n,.int .i64 c.agg.s0,.int .i64 c.agg.l0,.int .i64 c.agg.h0,.int .i64 c.agg.s1,.int .i64 c.agg.l1,.int .i64 c.agg.h1,.int .i64 c.agg.s2,.int .i64 c.agg.l2,.int .i64 c.agg.h2]
def ag0:Ag:=⟨0,0,0,0,0,0,0,0,0,0⟩
def ZcE:Cel:=⟨0,0,ag0⟩
section
variable {w w':World} {F F':Nat->Prop} {A:Option Addr} {v:Value}
end
def Zd9:Sh:=.int .i64
def Zio:Sh:=.pair Zd9 (.pair Zd9 (.pair Zd9 .unit))
def ZsI:Sh:=.pair Zd9 (.pair (.arr 3 Zio) .unit)
section
variable {w:World} {F:Nat->Prop}
end
theorem Zis:(Sh.slice Zd9).Fits Tryz.prog (.inl 57):=⟨3,Tryz.underlying57,by kernel_rfl,by decide,Tryz.underlying3⟩
theorem ZmO:Zio.Fits Tryz.prog (.inl 51) :=
 ⟨_,_,Tryz.underlying51,by kernel_rfl,rfl,by kernel_rfl,Tryz.underlying2,_,_,rfl,rfl,by kernel_rfl,Tryz.underlying2,_,_,rfl,rfl,by kernel_rfl,Tryz.underlying2,rfl⟩
theorem ZsX:ZsI.Fits Tryz.prog (.inl 54) :=
 ⟨_,_,Tryz.underlying54,by kernel_rfl,rfl,by kernel_rfl,Tryz.underlying2,_,_,rfl,rfl,by kernel_rfl,⟨_,Tryz.underlying52,by kernel_rfl,by kernel_rfl,ZmO⟩,rfl⟩
def Zb2 (i m n s l h:Int):Bool:=if m<=i then decide (s=0/\l=0/\h=0) else decide (l<=h)&&!(decide (n=1)&&(decide (s≠l) || decide (s≠h)))
def Zbw (m:Int) (a:Ag):Bool:=decide (0<=m)&&decide (m<=3)&&decide (1<=a.n)&&Zb2 0 m a.n a.s0 a.l0 a.h0&&Zb2 1 m a.n a.s1 a.l1 a.h1&&Zb2 2 m a.n a.s2 a.l2 a.h2
structure Prt where
 (s l h:Int)
def Ag.prt (a:Ag):Nat->Prt
 | 0=>⟨a.s0,a.l0,a.h0⟩
 | 1=>⟨a.s1,a.l1,a.h1⟩
 | _=>⟨a.s2,a.l2,a.h2⟩
def ZcQ (k:Nat) (m:Int) (a:Ag):Bool:=match k with
 | 0=>Zb2 0 m a.n a.s0 a.l0 a.h0&&Zb2 1 m a.n a.s1 a.l1 a.h1&&Zb2 2 m a.n a.s2 a.l2 a.h2
 | 1=>Zb2 1 m a.n a.s1 a.l1 a.h1&&Zb2 2 m a.n a.s2 a.l2 a.h2
 | 2=>Zb2 2 m a.n a.s2 a.l2 a.h2
 | _=>true
theorem tail0 {m:Int} {a:Ag} (h0:0<=m) (h1:m<=3) (h2:1<=a.n):Zbw m a=ZcQ 0 m a:=by
 unfold Zbw ZcQ
 simp[h0,h1,h2]
theorem Zii {k:Nat} (hk:k<3) (m:Int) (a:Ag):ZcQ k m a=(Zb2 k m a.n (a.prt k).s (a.prt k).l (a.prt k).h&&ZcQ (k+1) m a):=by
 obtain rfl|rfl|rfl:k=0\/k=1\/k=2:=by omega
 ·simp[ZcQ,Ag.prt,Bool.and_assoc]
 ·simp[ZcQ,Ag.prt]
 ·simp[ZcQ,Ag.prt]
def lastB (x:Shp) (dim:Int):Bool:=dim == (x.sizes.length:Int) - 1
def ZbQ (x:Shp) (dim:Int) (c:Cel):Bool:=if lastB x dim then decide (c.child=0)&&Zbw x.measures c.agg else decide (0<=c.child)&&decide (c.agg=ag0)
def ZiJ:Option Int->Int->Bool
 | none,_=>false
 | some q,k=>decide (k<=q)
def Zkf:Option Nat->Nat->Bool
 | none,_=>false
 | some q,k=>decide (q<k)
def ZcA (x:Shp) (dim size:Int):Option Int->List Cel->Int
 | _,[]=>0
 | p,c :: r=>if c.key<0\/size<=c.key then 13 else if ZiJ p c.key=true then 4 else if ZbQ x dim c=false then 2 else ZcA x dim size (some c.key) r
def Zb1 (l:List Cel) (k:Nat):Option Int:=if k=0 then none else (l[k - 1]?).map Cel.key
theorem Zhe {l:List Cel} {k:Nat} (h:k<l.length):Zb1 l (k+1)=some l[k].key:=by
 unfold Zb1;simp[h]
theorem Zh4 (x:Shp) (dim size:Int) (l:List Cel) (k:Nat) (h:k<l.length):ZcA x dim size (Zb1 l k) (l.drop k) =
  if l[k].key<0\/size<=l[k].key then 13 else if ZiJ (Zb1 l k) l[k].key=true then 4 else if ZbQ x dim l[k]=false then 2 else ZcA x dim size (Zb1 l (k+1)) (l.drop (k+1)):=by
 rw[zao h,Zhe h,ZcA]
def ZbN (x:Shp) (dim size:Int) (l:List Cel):Int:=if l.length=0 then 2 else ZcA x dim size none l
def ZbH (x:Shp) (dim:Int):Option Nat->List Int->List (List Cel)->Int
 | _,_,[]=>0
 | _,[],_=>0
 | p,s :: ss,l :: r=>if ZbN x dim s l≠0 then ZbN x dim s l else if Zkf p l.length=true then 14 else ZbH x dim (some l.length) ss r
def ZcG (l:List (List Cel)) (k:Nat):Option Nat:=if k=0 then none else (l[k - 1]?).map List.length
theorem Zg6 {l:List (List Cel)} {k:Nat} (h:k<l.length):ZcG l (k+1)=some l[k].length:=by
 unfold ZcG;simp[h]
theorem Zhi (x:Shp) (dim:Int) (s:List Int) (l:List (List Cel)) (k:Nat) (h:k<l.length) (h':k<s.length):ZbH x dim (ZcG l k) (s.drop k) (l.drop k) =
  if ZbN x dim s[k] l[k]≠0 then ZbN x dim s[k] l[k] else if Zkf (ZcG l k) l[k].length=true then 14 else ZbH x dim (ZcG l (k+1)) (s.drop (k+1)) (l.drop (k+1)):=by
 rw[zao h,zao h',Zg6 h,ZbH]
theorem ZeZ (x:Shp) (dim:Int) (p:Option Nat) (s:List Int):ZbH x dim p s []=0:=by
 cases p<;>cases s<;>rfl
def Zbf (x:Shp) (n:Nod):Int :=
 if n.dim<0\/(x.sizes.length:Int)<=n.dim then 2 else
 let s:=x.sizes.getD n.dim.toNat []
 if n.lists.length≠s.length\/n.lists.length=0 then 2 else
 if ZbH x n.dim none s n.lists≠0 then ZbH x n.dim none s n.lists else
 if n.all.key≠0\/ZbQ x n.dim n.all=false then 2 else 0
def each (n:Nod):List Cel:=n.lists.flatten++[n.all]
def ZeO (x:Shp) (l:List Nod) (n:Nod):Bool:=lastB x n.dim || (each n).all fun c=>decide (c.child<l.length)&&decide ((l.getD c.child.toNat ⟨0,[],ZcE⟩).dim=n.dim+1)
def ZbF (x:Shp) (most:Int) (l:List Nod) (n:Nod):Int :=
 if Zbf x n≠0 then Zbf x n else if ZeO x l n=false then 9 else if most<=l.length then 7 else 0
def ZcZ:Option Int->List Int->Bool
 | _,[]=>true
 | p,n :: r=>decide (1<=n)&&decide (n<=200)&&(match p with|none=>true|some q=>decide (n<=q))&&ZcZ (some n) r
def ZbT (l:List Int):Bool:=decide (1<=l.length)&&decide (l.length<=4)&&ZcZ none l
def ZbS (x:Shp):Bool:=decide (1<=x.sizes.length)&&decide (x.sizes.length<=16)&&decide (1<=x.measures)&&decide (x.measures<=3)&&x.sizes.all ZbT
def Znc (x:Shp) (most:Int) (was:List Nod):List Nod->Int
 | []=>0
 | n :: r=>if ZbF x most was n≠0 then ZbF x most was n else Znc x most (was++[n]) r
def Zm5 (x:Shp) (l:List Nod):Int:=if ZbS x=false then 2 else Znc x 131072 [] l
set_option maxHeartbeats 1000000 in
set_option maxRecDepth 100000 in
theorem Zfh (d:Nat) (w:World) (a0 a1 a2 b0 b1 b2:Int):(Op.equalIn (d+2) 51 (.agg #[.int .i64 a0,.int .i64 a1,.int .i64 a2]) (.agg #[.int .i64 b0,.int .i64 b1,.int .i64 b2])).run Tryz.prog w =
  .ok (decide (a0=b0/\a1=b1/\a2=b2)) w:=by
 rw[run_equalIn_struct w (d+1) _ _ _ (by kernel_rfl) (by kernel_rfl)]
 by_cases h0:a0=b0<;>by_cases h1:a1=b1<;>by_cases h2:a2=b2<;>simp[go_sem,h0,h1,h2]
set_option maxHeartbeats 1000000 in
set_option maxRecDepth 100000 in
theorem eq_parts (d:Nat) (w:World) (a0 a1 a2 a3 a4 a5 a6 a7 a8 b0 b1 b2 b3 b4 b5 b6 b7 b8:Int):(Op.equalIn (d+3) 52 (.agg #[.int .i64 a0,.int .i64 a1,.int .i64 a2,.int .i64 a3,.int .i64 a4,.int .i64 a5,.int .i64 a6,.int .i64 a7,.int .i64 a8]) (.agg #[.int .i64 b0,.int .i64 b1,.int .i64 b2,.int .i64 b3,.int .i64 b4,.int .i64 b5,.int .i64 b6,.int .i64 b7,.int .i64 b8])).run Tryz.prog w =
  .ok (decide (a0=b0/\a1=b1/\a2=b2)&&(decide (a3=b3/\a4=b4/\a5=b5)&&decide (a6=b6/\a7=b7/\a8=b8))) w:=by
 unfold Op.equalIn
 by_cases h0:a0=b0/\a1=b1/\a2=b2
 ·by_cases h1:a3=b3/\a4=b4/\a5=b5
  ·by_cases h2:a6=b6/\a7=b7/\a8=b8
   ·obtain⟨rfl,rfl,rfl⟩:=h0
    obtain⟨rfl,rfl,rfl⟩:=h1
    obtain⟨rfl,rfl,rfl⟩:=h2
    simp[run_underlying Tryz.underlying52,go_sem,zbF]
   ·obtain⟨rfl,rfl,rfl⟩:=h0
    obtain⟨rfl,rfl,rfl⟩:=h1
    have e2:=fun w=>Zfh d w a6 a7 a8 b6 b7 b8
    rw[decide_eq_false h2]at e2 ⊢
    simp[run_underlying Tryz.underlying52,part,isAgg,go_sem,zbF,Zfh,e2,h2]
    exact fun h1 h3 h4=>h2 ⟨h1,h3,h4⟩
  ·obtain⟨rfl,rfl,rfl⟩:=h0
   have e1:=fun w=>Zfh d w a3 a4 a5 b3 b4 b5
   rw[decide_eq_false h1]at e1 ⊢
   simp[run_underlying Tryz.underlying52,go_sem,zbF,e1]
   exact fun h3 h4 h5=>absurd ⟨h3,h4,h5⟩ h1
 ·have e0:=fun w=>Zfh d w a0 a1 a2 b0 b1 b2
  rw[decide_eq_false h0]at e0 ⊢
  simp[run_underlying Tryz.underlying52,go_sem,zbF,e0]
theorem ag_eq (a b:Ag):(a=b)=(a.n=b.n/\(a.s0=b.s0/\a.l0=b.l0/\a.h0=b.h0)/\(a.s1=b.s1/\a.l1=b.l1/\a.h1=b.h1)/\(a.s2=b.s2/\a.l2=b.l2/\a.h2=b.h2)):=by
 cases a;cases b;simp only[Ag.mk.injEq,and_assoc]
set_option maxHeartbeats 1000000 in
set_option maxRecDepth 100000 in
theorem eq_ag (d:Nat) (w:World) (a b:Ag):(Op.equalIn (d+4) 54 (.agg a.arr) (.agg b.arr)).run Tryz.prog w=.ok (decide (a=b)) w:=by
 rw[run_equalIn_struct w (d+3) _ _ _ (by kernel_rfl) (by kernel_rfl)]
 have e0:=fun w=>eq_parts d w a.s0 a.l0 a.h0 a.s1 a.l1 a.h1 a.s2 a.l2 a.h2 b.s0 b.l0 b.h0 b.s1 b.l1 b.h1 b.s2 b.l2 b.h2
 simp only[ag_eq]
 rw[<- Bool.decide_and,<- Bool.decide_and]at e0
 cases h0:decide ((a.s0=b.s0/\a.l0=b.l0/\a.h0=b.h0)/\(a.s1=b.s1/\a.l1=b.l1/\a.h1=b.h1)/\(a.s2=b.s2/\a.l2=b.l2/\a.h2=b.h2))<;>simp only[h0]at e0 <;>
 by_cases h1:a.n=b.n<;>simp[go_sem,e0,h1]<;>simpa using h0
theorem cel_eq (a b:Cel):(a=b)=(a.key=b.key/\a.child=b.child/\a.agg=b.agg):=by
 cases a;cases b;simp only[Cel.mk.injEq]
set_option maxHeartbeats 1000000 in
set_option maxRecDepth 100000 in
theorem eq_cel (d:Nat) (w:World) (a b:Cel):(Op.equalIn (d+5) 113 (.agg a.arr) (.agg b.arr)).run Tryz.prog w=.ok (decide (a=b)) w:=by
 rw[run_equalIn_struct w (d+4) _ _ _ (by kernel_rfl) (by kernel_rfl)]
 have e0:=fun w=>eq_ag d w a.agg b.agg
 simp only[cel_eq]
 by_cases h1:a.key=b.key
 ·by_cases h2:a.child=b.child
  ·cases h0:decide (a.agg=b.agg)<;>simp only[h0]at e0<;>simp[go_sem,e0,h1,h2]<;>simpa using h0
  ·simp[go_sem,h1,h2]
 ·simp[go_sem,h1]
def ZcX (l:List Int) (k:Nat):Option Int:=if k=0 then none else l[k - 1]?
theorem ZgQ {l:List Int} {k:Nat} (h:k<l.length):ZcX l (k+1)=some l[k]:=by
 unfold ZcX;simp[h]
def leI:Option Int->Int->Bool
 | none,_=>true
 | some q,n=>decide (n<=q)
theorem Ziz (p:Option Int) (n:Int) (r:List Int):ZcZ p (n :: r)=(decide (1<=n)&&decide (n<=200)&&leI p n&&ZcZ (some n) r):=by
 cases p<;>rfl
theorem Zjs (l:List Int) (k:Nat) (h:k<l.length):ZcZ (ZcX l k) (l.drop k)=(decide (1<=l[k])&&decide (l[k]<=200)&&leI (ZcX l k) l[k]&&ZcZ (ZcX l (k+1)) (l.drop (k+1))):=by
 rw[zao h,ZgQ h,Ziz]
theorem Zu8 (l:List (List Int)) (k:Nat) (h:k<l.length):(l.drop k).all ZbT=(ZbT l[k]&&(l.drop (k+1)).all ZbT):=by
 rw[zao h,List.all_cons]
theorem Zby {x:Shp} (h:ZbS x=true):1<=x.sizes.length/\x.sizes.length<=16/\1<=x.measures/\x.measures<=3/\∀l∈x.sizes,ZbT l=true:=by
 unfold ZbS at h
 simp only[zax,decide_eq_true_eq,zaO]at h
 exact⟨h.1.1.1.1,h.1.1.1.2,h.1.1.2,h.1.2,h.2⟩
theorem ZcP {l:List Int} (h:ZbT l=true):1<=l.length/\l.length<=4/\ZcZ none l=true:=by
 unfold ZbT at h
 simp only[zax,decide_eq_true_eq]at h
 exact⟨h.1.1,h.1.2,h.2⟩
theorem Zkm (x:Shp) (dim size:Int):∀(l:List Cel) (p:Option Int),ZcA x dim size p l=0->∀c∈l,ZbQ x dim c=true:=by
 intro l
 induction l with
 | nil=>intro p _ c hc;cases hc
 | cons y r ih =>
  intro p h c hc
  rw[ZcA]at h
  split at h
  ·cases h
  split at h
  ·cases h
  split at h
  ·cases h
  rename_i h3
  rcases zal.1 hc with rfl|hc
  ·simpa using h3
  ·exact ih _ h c hc
theorem Zjo (x:Shp) (dim:Int):∀(ls:List (List Cel)) (ss:List Int) (p:Option Nat),ls.length<=ss.length->ZbH x dim p ss ls=0->∀l∈ls,∀c∈l,ZbQ x dim c=true:=by
 intro ls
 induction ls with
 | nil=>intro ss p _ _ l hl;cases hl
 | cons y r ih =>
  intro ss p hlen h l hl c hc
  cases ss with
  | nil=>simp at hlen
  | cons s ss =>
   rw[ZbH]at h
   split at h
   ·rename_i h1;exact absurd h h1
   split at h
   ·cases h
   rename_i h1 h2
   rcases zal.1 hl with rfl|hl
   ·have h3:ZbN x dim s l=0:=by simpa using h1
    unfold ZbN at h3
    split at h3
    ·cases h3
    exact Zkm x dim s l none h3 c hc
   ·exact ih ss _ (by simpa using hlen) h l hl c hc
theorem Zfw {x:Shp} {n:Nod} (h:Zbf x n=0):0<=n.dim/\n.dim<x.sizes.length/\n.lists.length=(x.sizes.getD n.dim.toNat []).length/\1<=n.lists.length/\n.all.key=0:=by
 unfold Zbf at h
 split at h
 ·cases h
 simp only at h
 split at h
 ·cases h
 split at h
 ·rename_i h1;exact absurd h h1
 split at h
 ·cases h
 rename_i h1 h2 h3 h4
 refine⟨by omega,by omega,by omega,by omega,?_⟩
 by_cases hk:n.all.key=0
 ·exact hk
 ·exact absurd (.inl hk) h4
theorem Zjj {x:Shp} {n:Nod} (h:Zbf x n=0):∀c∈each n,ZbQ x n.dim c=true:=by
 obtain⟨_,_,hl,_⟩:=Zfw h
 unfold Zbf at h
 split at h
 ·cases h
 simp only at h
 split at h
 ·cases h
 split at h
 ·rename_i h1;exact absurd h h1
 rename_i h3
 split at h
 ·cases h
 rename_i h4
 intro c hc
 unfold each at hc
 rcases zav.1 hc with hc|hc
 ·obtain⟨l,hl1,hl2⟩:=zbm.1 hc
  exact Zjo x n.dim n.lists (x.sizes.getD n.dim.toNat []) none (by omega) (by simpa using h3) l hl1 c hl2
 ·rw[zam]at hc
  subst hc
  cases hb:ZbQ x n.dim n.all with
  | true=>rfl
  | false=>exact absurd (.inr hb) h4
theorem Zfu {x:Shp} {n:Nod} (h:Zbf x n=0) (hl:lastB x n.dim=false):∀c∈each n,0<=c.child:=by
 intro c hc
 have h1:=Zjj h c hc
 unfold ZbQ at h1
 rw[hl]at h1
 simp at h1
 exact h1.1
def Zg3 (l:List Nod) (dim:Int) (c:Cel):Bool:=decide (c.child<l.length)&&decide ((l.getD c.child.toNat ⟨0,[],ZcE⟩).dim=dim+1)
theorem ZmM (x:Shp) (l:List Nod) (n:Nod):ZeO x l n=(lastB x n.dim || (each n).all (Zg3 l n.dim)):=rfl
end Go.Proofs.YtaapiigfmdhobaaGreat
