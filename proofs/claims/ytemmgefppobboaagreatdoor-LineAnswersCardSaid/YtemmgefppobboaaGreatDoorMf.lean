/- Texts of the walk, joined: Bx L5 L6 L7 L8. -/
import Derived.Test.YtemmgefppobboaaGreatDoorMd
import Derived.Test.YtemmgefppobboaaGreatDoorMe
import Derived.Laws.Strings
import Derived.Lib.AppendIntMem
import Derived.Lib.AtoiErrMem
namespace Go.Proofs.YtemmgefppobboaaGreatDoor
set_option linter.unusedSimpArgs false
set_option linter.unusedVariables false
open Go.RowKit
inductive Tr (α:Type) where
 | e
 | n (v:α) (l r:Tr α)
def Tr.get {α:Type} (d:α):Tr α→Nat→α
 | .e,_=>d
 | .n v l r,k=>bif Nat.beq k 0 then v else bif Nat.beq (k % 2) 1 then l.get d (k / 2) else r.get d (k / 2 - 1)
def Tr.put {α:Type} (d:α) (a:α):Nat→Tr α→Nat→(Tr α→Bool)→Bool
 | 0,_,_,_=>false
 | f+1,.e,k,K=>bif Nat.beq k 0 then K (.n a .e .e) else bif Nat.beq (k % 2) 1 then Tr.put d a f .e (k / 2) fun l'=>K (.n d l' .e) else Tr.put d a f .e (k / 2 - 1) fun r'=>K (.n d .e r')
 | f+1,.n v l r,k,K=>bif Nat.beq k 0 then K (.n a l r) else bif Nat.beq (k % 2) 1 then Tr.put d a f l (k / 2) fun l'=>K (.n v l' r) else Tr.put d a f r (k / 2 - 1) fun r'=>K (.n v l r')
theorem ZwR (a b:Nat):Nat.beq a b=decide (a=b):=by
 cases h:Nat.beq a b with
 | true=>have:=Nat.eq_of_beq_eq_true h;simp[this]
 | false=>have:=Nat.ne_of_beq_eq_false h;simp[this]
theorem Tr.get_e {α:Type} {d:α} {k:Nat}:(Tr.e:Tr α).get d k=d:=rfl
theorem Tr.Zwc {α:Type} {d v:α} {l r:Tr α} {k:Nat}:(Tr.n v l r).get d k=if k=0 then v else if k % 2=1 then l.get d (k / 2) else r.get d (k / 2 - 1):=by
 show(bif Nat.beq k 0 then v else bif Nat.beq (k % 2) 1 then l.get d (k / 2) else r.get d (k / 2 - 1))=_
 simp only[cond_eq_ite,ZwR,decide_eq_true_eq]
theorem Tr.ZvT {α:Type} {d a:α}:∀{f:Nat} {T:Tr α} {k:Nat} {K:Tr α→Bool},Tr.put d a f T k K=true→∃T',K T'=true∧∀j,T'.get d j=if j=k then a else T.get d j
 | 0,_,_,_,h=>by simp[Tr.put]at h
 | f+1,.e,k,K,h=>by
  simp only[Tr.put,cond_eq_ite,ZwR,decide_eq_true_eq]at h
  split at h
  ·rename_i h0
   refine⟨_,h,fun j=>?_⟩
   rw[Tr.Zwc,h0]
   simp only[Tr.get_e,ite_self]
  ·split at h
   ·obtain⟨T',h1,h2⟩:=Tr.ZvT h
    refine⟨_,h1,fun j=>?_⟩
    rw[Tr.Zwc]
    simp only[h2,Tr.get_e]
    by_cases hj:j=k
    ·subst hj;rw[if_neg (by assumption),if_pos (by assumption)];simp
    ·simp only[hj,if_false]
     by_cases a1:j=0
     ·simp[a1]
     ·by_cases a2:j % 2=1
      ·have:¬j / 2=k / 2:=by omega
       simp[a1,a2,this]
      ·simp[a1,a2]
   ·obtain⟨T',h1,h2⟩:=Tr.ZvT h
    refine⟨_,h1,fun j=>?_⟩
    rw[Tr.Zwc]
    simp only[h2,Tr.get_e]
    by_cases hj:j=k
    ·subst hj;rw[if_neg (by assumption),if_neg (by assumption)];simp
    ·simp only[hj,if_false]
     by_cases a1:j=0
     ·simp[a1]
     ·by_cases a2:j % 2=1
      ·simp[a1,a2]
      ·have:¬j / 2 - 1=k / 2 - 1:=by omega
       simp[a1,a2,this]
 | f+1,.n v l r,k,K,h=>by
  simp only[Tr.put,cond_eq_ite,ZwR,decide_eq_true_eq]at h
  split at h
  ·rename_i h0
   refine⟨_,h,fun j=>?_⟩
   rw[Tr.Zwc,Tr.Zwc,h0]
   by_cases a1:j=0<;>simp[a1]
  ·split at h
   ·obtain⟨T',h1,h2⟩:=Tr.ZvT h
    refine⟨_,h1,fun j=>?_⟩
    rw[Tr.Zwc,Tr.Zwc]
    simp only[h2]
    by_cases hj:j=k
    ·subst hj;rw[if_neg (by assumption),if_pos (by assumption)];simp
    ·simp only[hj,if_false]
     by_cases a1:j=0
     ·simp[a1]
     ·by_cases a2:j % 2=1
      ·have:¬j / 2=k / 2:=by omega
       simp[a1,a2,this]
      ·simp[a1,a2]
   ·obtain⟨T',h1,h2⟩:=Tr.ZvT h
    refine⟨_,h1,fun j=>?_⟩
    rw[Tr.Zwc,Tr.Zwc]
    simp only[h2]
    by_cases hj:j=k
    ·subst hj;rw[if_neg (by assumption),if_neg (by assumption)];simp
    ·simp only[hj,if_false]
     by_cases a1:j=0
     ·simp[a1]
     ·by_cases a2:j % 2=1
      ·simp[a1,a2]
      ·have:¬j / 2 - 1=k / 2 - 1:=by omega
       simp[a1,a2,this]
def fN (n:Nat) (k:Nat→Bool):Bool:=Nat.casesOn (motive:=fun _=>Bool) n (k 0) fun m=>k (Nat.succ m)
theorem Zwf (n:Nat) (k:Nat→Bool):fN n k=k n:=by cases n<;>rfl
def fI (n:Int) (k:Int→Bool):Bool:=match n with
 | .ofNat m=>fN m fun m=>k (.ofNat m)
 | .negSucc m=>fN m fun m=>k (.negSucc m)
theorem fI_eq (n:Int) (k:Int→Bool):fI n k=k n:=by
 cases n with
 | ofNat m=>exact Zwf m fun m=>k (.ofNat m)
 | negSucc m=>exact Zwf m fun m=>k (.negSucc m)
def fV (v:AV) (k:AV→Bool):Bool:=match v with
 | .sl tok rows=>Zv1 rows fun r=>k (.sl tok r)
 | .agg cs=>Zv1 cs fun c=>k (.agg c)
 | .tup cs=>Zv1 cs fun c=>k (.tup c)
 | .sc (.bool b)=>bif b then k (.sc (.bool true)) else k (.sc (.bool false))
 | .sc (.int kd n)=>fI n fun n=>k (.sc (.int kd n))
 | .sc (.string s)=>Zv1 s.data.toList fun l=>k (.sc (.string ⟨⟨l⟩⟩))
 | .ptr id off=>fN id fun id=>fN off fun off=>k (.ptr id off)
 | .el row off=>fN off fun off=>k (.el row off)
 | .arr id off len cap=>fN off fun off=>fN len fun len=>fN cap fun cap=>k (.arr id off len cap)
 | v=>k v
theorem ZwT (v:AV) (k:AV→Bool):fV v k=k v:=by
 unfold fV
 split
 ·exact ZvR _ _
 ·exact ZvR _ _
 ·exact ZvR _ _
 ·rename_i b;cases b<;>rfl
 ·exact fI_eq _ _
 ·exact ZvR _ _
 ·simp only[Zwf]
 ·simp only[Zwf]
 ·simp only[Zwf]
 ·rfl
def fVs:List AV→(List AV→Bool)→Bool
 | [],k=>k []
 | a :: l,k=>fV a fun a=>fVs l fun l=>k (a :: l)
theorem fVs_eq:∀(l:List AV) (k:List AV→Bool),fVs l k=k l
 | [],_=>rfl
 | a :: l,k=>by simp only[fVs,ZwT];exact fVs_eq l _
def fO (o:Option Zb3) (k:Option Zb3→Bool):Bool:=match o with
 | some (.cells cs E)=>Zv1 cs fun c=>k (some (.cells c E))
 | some (.tok n E sz)=>fN n fun n=>k (some (.tok n E sz))
 | some (.map kk es d)=>Zv1 es fun es=>k (some (.map kk es d))
 | some (.iter m n s)=>Zv1 s fun s=>k (some (.iter m n s))
 | none=>k none
theorem fO_eq (o:Option Zb3) (k:Option Zb3→Bool):fO o k=k o:=by
 unfold fO
 split
 ·exact ZvR _ _
 ·exact Zwf _ _
 ·exact ZvR _ _
 ·exact ZvR _ _
 ·rfl
def u8Eq:List UInt8→List UInt8→Bool
 | [],[]=>true
 | a :: l,b :: m=>bif Nat.beq a.toNat b.toNat then u8Eq l m else false
 | _,_=>false
theorem Zwb:∀(l m:List UInt8),u8Eq l m=(l == m)
 | [],[]=>rfl
 | [],_ :: _=>rfl
 | _ :: _,[]=>rfl
 | a :: l,b :: m=>by
  rw[u8Eq,Zwb l m,cond_eq_ite,List.cons_beq_cons]
  by_cases h:a=b
  ·subst h;simp
  ·have:¬a.toNat=b.toNat:=fun e=>h (UInt8.toNat_inj.1 e)
   simp[ZwR,this,h]
def strQ (op:BinOp) (a b:List UInt8):Option Value:=match op with
 | .add=>if a.length+b.length≤maxLen then some (.string ⟨⟨a++b⟩⟩) else none
 | .eql=>some (.bool (u8Eq a b))
 | .neq=>some (.bool !(u8Eq a b))
 | .lss=>some (.bool (Op.bytesLess a b))
 | .leq=>some (.bool (Op.bytesLess a b || u8Eq a b))
 | .gtr=>some (.bool !(Op.bytesLess a b || u8Eq a b))
 | .geq=>some (.bool !(Op.bytesLess a b))
 | _=>none
theorem Zw6 (a b:ByteArray):a++b=⟨⟨a.data.toList++b.data.toList⟩⟩:=by
 apply ByteArray.ext
 rw[ByteArray.data_append]
 apply Array.toList_inj.1
 rw[Array.toList_append]
theorem strQ_eq (op:BinOp) (a b:ByteArray):strQ op a.data.toList b.data.toList=ZwL op a b:=by
 cases op<;>simp only[strQ,ZwL,Zwb,ByteArray.toList_eq]
 rw[Zw6]
 rfl
def AOp.evq (op:AOp) (H:Zaa):Option (AV×Zaa):=match op with
 | .bin o x y=>match x.ev [],y.ev []with
  | .sc (.string a),.sc (.string b)=>(strQ o a.data.toList b.data.toList).map fun r=>(.sc r,H)
  | .sc u,.sc v=>(ZaI o u v).map fun r=>(.sc r,H)
  | _,_=>none
 | .slS x lo hi=>match x.ev []with
  | .sc (.string s)=>match Zdi [] 0 lo,Zdi [] s.data.toList.length hi with
   | some l,some h=>if l≤h∧h≤s.data.toList.length then some (.sc (.string ⟨⟨(s.data.toList.drop l).take (h - l)⟩⟩),H) else none
   | _,_=>none
  | _=>none
 | .ixs x i=>match x.ev [],i.ev []with
  | .sc (.string s),.sc (.int _ j)=>if 0≤j then (match s.data.toList[j.toNat]? with
   | some b=>some (.sc (.int .u8 b.toNat),H)
   | none=>none) else none
  | _,_=>none
 | .len true x=>match x.ev []with
  | .sc (.string s)=>some (.i s.data.toList.length,H)
  | _=>none
 | .sob x=>match ZaL H 1 (x.ev [])with
  | some rows=>match Zef rows with
   | some ns=>some (.sc (.string ⟨⟨ns.map fun n=>UInt8.ofNat n.toNat⟩⟩),H)
   | none=>none
  | none=>none
 | op=>op.ev [] H
theorem strOf_eq (ns:List Int):(⟨⟨ns.map fun n=>UInt8.ofNat n.toNat⟩⟩:ByteArray)=strOf ns:=by
 have key:∀(ns:List Int) (a:ByteArray),(ns.foldl (fun r n=>r.push (UInt8.ofNat n.toNat)) a).data.toList=a.data.toList++ns.map fun n=>UInt8.ofNat n.toNat:=by
  intro ns
  induction ns with
  | nil=>intro a;rw[List.foldl_nil,List.map_nil,List.append_nil]
  | cons n ns ih =>
   intro a
   rw[List.foldl_cons,ih,List.map_cons]
   show(a.data.push _).toList++_=_
   rw[Array.toList_push,List.append_assoc]
   rfl
 apply ByteArray.ext
 apply Array.toList_inj.1
 unfold strOf
 rw[key]
 rfl
theorem Zh9 (s:ByteArray) (j:Nat):s.data.toList[j]?=s[j]?:=by
 by_cases h:j<s.size
 ·rw[getElem?_pos s j h]
  have h':j<s.data.toList.length:=h
  rw[List.getElem?_eq_getElem h']
  rfl
 ·rw[getElem?_neg s j h]
  rw[List.getElem?_eq_none]
  exact Nat.le_of_not_lt h
theorem ZwX (s:ByteArray) (l h:Nat):(⟨⟨(s.data.toList.drop l).take (h - l)⟩⟩:ByteArray)=s.extract l h:=by
 apply ByteArray.ext
 apply Array.toList_inj.1
 rw[ByteArray.data_extract,Array.toList_extract]
theorem ZwW (op:AOp) (H:Zaa):op.evq H=op.ev [] H:=by
 cases op with
 | bin o x y =>
  simp only[AOp.evq,AOp.ev]
  split
  ·rename_i h1 h2;rw[h1,h2];simp only[strQ_eq,ZaI]
  ·rename_i h1 h2;rw[h1,h2]
  ·rename_i h1 h2
   split
   ·rename_i h3 h4;exact absurd h4 (h2 _ _ h3)
   ·rfl
 | slS x lo hi =>
  simp only[AOp.evq,AOp.ev]
  split
  ·rename_i s h1
   simp only[ZwX,h1]
   rfl
  ·rename_i h1
   split
   ·rename_i s h2;exact absurd h2 (h1 s)
   ·rfl
 | ixs x i =>
  simp only[AOp.evq,AOp.ev]
  split
  ·rename_i s j h1 h2
   simp only[Zh9,h1,h2]
   rfl
  ·rename_i h1
   split
   ·rename_i s j h2 h3;exact absurd h3 (h1 _ _ _ h2)
   ·rfl
 | len b x =>
  cases b
  ·rfl
  ·simp only[AOp.evq,AOp.ev]
   split
   ·rename_i h1;simp only[h1];rfl
   ·rename_i h1
    split
    ·rename_i s h2;exact absurd h2 (h1 s)
    ·rfl
 | sob x =>
  simp only[AOp.evq,AOp.ev,strOf_eq]
  rfl
 | _=>rfl
abbrev TF:=Tr AV
def AX.sub (T:TF):AX→AX
 | .t n=>.c (T.get .any n)
 | .c a=>.c a
def Zv4 (T:TF) (F:Fr):Prop:=∀t,Fr.get F t=T.get .any t
def AOp.sub (T:TF):AOp→AOp
 | .mv x=>.mv (x.sub T)
 | .pick c a b=>.pick (c.sub T) (a.sub T) (b.sub T)
 | .box E x=>.box E (x.sub T)
 | .bld z ps=>.bld z (ps.map fun p=>(p.1,p.2.1,p.2.2.sub T))
 | .bsl sz ps=>.bsl sz (ps.map (AX.sub T))
 | .bsv E sz ps=>.bsv E sz (ps.map (AX.sub T))
 | .ld sz a x=>.ld sz a (x.sub T)
 | .st sz x y=>.st sz (x.sub T) (y.sub T)
 | .nck x=>.nck (x.sub T)
 | .bin o x y=>.bin o (x.sub T) (y.sub T)
 | .eqf ks n x y=>.eqf ks n (x.sub T) (y.sub T)
 | .bnb n x y=>.bnb n (x.sub T) (y.sub T)
 | .eqn k n x y=>.eqn k n (x.sub T) (y.sub T)
 | .un o x=>.un o (x.sub T)
 | .cnv k x=>.cnv k (x.sub T)
 | .cvs x=>.cvs (x.sub T)
 | .sob x=>.sob (x.sub T)
 | .clr m=>.clr (m.sub T)
 | .cpy sz x y=>.cpy sz (x.sub T) (y.sub T)
 | .mkf f a b=>.mkf f (a.map (AX.sub T)) (b.map (AX.sub T))
 | .mks E sz by_ z l c=>.mks E sz by_ z (l.sub T) (c.sub T)
 | .slc sz x lo hi mx=>.slc sz (x.sub T) (lo.map (AX.sub T)) (hi.map (AX.sub T)) (mx.map (AX.sub T))
 | .sla n sz x lo hi mx=>.sla n sz (x.sub T) (lo.map (AX.sub T)) (hi.map (AX.sub T)) (mx.map (AX.sub T))
 | .slS x lo hi=>.slS (x.sub T) (lo.map (AX.sub T)) (hi.map (AX.sub T))
 | .fla off x=>.fla off (x.sub T)
 | .fld off sz a x=>.fld off sz a (x.sub T)
 | .ixa sz x i=>.ixa sz (x.sub T) (i.sub T)
 | .ixA n sz x i=>.ixA n sz (x.sub T) (i.sub T)
 | .ixv n sz a x i=>.ixv n sz a (x.sub T) (i.sub T)
 | .ixs x i=>.ixs (x.sub T) (i.sub T)
 | .ext x i=>.ext (x.sub T) i
 | .len s x=>.len s (x.sub T)
 | .lnA n=>.lnA n
 | .app E sz by_ s x=>.app E sz by_ (s.sub T) (x.sub T)
 | .apv E sz by_ z s x=>.apv E sz by_ z (s.sub T) (x.sub T)
 | .mm m x y=>.mm m (x.sub T) (y.sub T)
 | .mkm kk=>.mkm kk
 | .lkp kk z ok m k=>.lkp kk z ok (m.sub T) (k.sub T)
 | .mup kk m k x=>.mup kk (m.sub T) (k.sub T) (x.sub T)
 | .men kk z m k=>.men kk z (m.sub T) (k.sub T)
 | .est m s x=>.est (m.sub T) (s.sub T) (x.sub T)
 | .mln m=>.mln (m.sub T)
 | .rng m=>.rng (m.sub T)
 | .nxt s x=>.nxt s (x.sub T)
 | .ent x=>.ent (x.sub T)
 | .del kk m k=>.del kk (m.sub T) (k.sub T)
 | .call f al=>.call (f.sub T) (al.map (AX.sub T))
 | .eqs n x=>.eqs n (x.sub T)
 | .cap x=>.cap (x.sub T)
 | .bad=>.bad
section
variable {T:TF} {F:Fr}
theorem ZvW (h:Zv4 T F) (x:AX):(x.sub T).ev []=x.ev F:=by
 cases x with
 | t n=>exact(h n).symm
 | c a=>rfl
theorem ZwS (h:Zv4 T F) (xs:List AX):evs [] (xs.map (AX.sub T))=evs F xs:=by
 simp[evs,Function.comp_def,ZvW h]
theorem Zw5 (h:Zv4 T F) (d:Nat) (x:Option AX):Zdi [] d (x.map (AX.sub T))=Zdi F d x:=by
 cases x with
 | none=>rfl
 | some x=>simp only[Option.map_some,Zdi,ZvW h]
theorem ZwJ (h:Zv4 T F):∀(ps:List (Nat×Nat×AX)) (cs:List AV),Zb9 [] cs (ps.map fun p=>(p.1,p.2.1,p.2.2.sub T))=Zb9 F cs ps
 | [],_=>rfl
 | (a,b,x) :: ps,cs=>by
  simp only[List.map_cons,Zb9,ZvW h,ZwJ h ps]
theorem ZwA (h:Zv4 T F) (sz:Nat):∀(xs:List AX),rowsOf [] sz (xs.map (AX.sub T))=rowsOf F sz xs
 | []=>rfl
 | x :: xs=>by simp only[List.map_cons,rowsOf,ZvW h,ZwA h sz xs]
theorem ZwU (h:Zv4 T F) (op:AOp) (H:Zaa):(op.sub T).ev [] H=op.ev F H:=by
 cases op with
 | eqn k n x y=>rcases k with _|_|_|_|k<;>simp only[AOp.sub,AOp.ev,ZvW h]
 | len s x=>cases s<;>simp only[AOp.sub,AOp.ev,ZvW h]
 | slc sz x lo hi mx =>
  simp only[AOp.sub,AOp.ev,ZvW h,Zw5 h,Option.map_map]
  rfl
 | _=>simp only[AOp.sub,AOp.ev,ZvW h,ZwS h,Zw5 h,ZwJ h,ZwA h]
def Zw0 (i:AI) (T:TF):Option Bool:=match i.gd with
 | none=>some true
 | some (s,b)=>match T.get .any s with
  | .sc (.bool c)=>some (c == b)
  | .sc _=>some false
  | _=>none
theorem Zwe (h:Zv4 T F) (i:AI):Zw0 i T=i.want F:=by
 unfold Zw0 AI.want
 have h':∀t,Fr.get F t=T.get .any t:=h
 simp only[h']
 rfl
end
abbrev TH:=Tr (Option Zb3)
def upT (T:TH) (n:Nat):Zaa:=⟨fun i=>bif Nat.ble n i then none else T.get none i,n,fun i hi=>by rw[Nat.ble_eq_true_of_le hi];rfl⟩
theorem ZvS {T:TH} {n i:Nat} (h:i<n):(upT T n).get i=T.get none i:=by
 have:Nat.ble n i=false:=by
  cases hb:Nat.ble n i with
  | false=>rfl
  | true=>have:=Nat.le_of_ble_eq_true hb;omega
 show(bif Nat.ble n i then none else T.get none i)=_
 rw[this];rfl
theorem upT_eq {T T':TH} {n:Nat} (h:∀i,i<n→T'.get none i=T.get none i):upT T' n=upT T n:=by
 refine Zaa.ext ?_ rfl
 funext i
 by_cases hi:i<n
 ·rw[ZvS hi,ZvS hi,h i hi]
 ·rw[(upT T' n).wf i (by show n≤i;omega),(upT T n).wf i (by show n≤i;omega)]
def nextT (op:AOp) (T:TH) (n:Nat) (H':Zaa) (k:TH→Nat→Bool):Bool :=
 bif Nat.beq H'.next n then
  match op.tgt []with
  | some id=>fO (H'.get id) fun o=>Tr.put none o 40 T id fun T'=>k T' n
  | none=>k T n
 else fO (H'.get n) fun o=>Tr.put none o 40 T n fun T'=>fN (n+1) fun m=>k T' m
theorem ZwF {op:AOp} {T:TH} {n:Nat} {v:AV} {H':Zaa} {k:TH→Nat→Bool} (h:op.ev [] (upT T n)=some (v,H')) (hk:nextT op T n H' k=true):∃T' m,upT T' m=H'∧k T' m=true:=by
 unfold nextT at hk
 rcases ev_upd h with e|⟨o,e⟩|⟨id,o,ht,e⟩
 ·subst e
  have:Nat.beq (upT T n).next n=true:=Nat.beq_refl n
  rw[this,cond_true]at hk
  split at hk
  ·rename_i id hid
   rw[fO_eq]at hk
   obtain⟨T',h1,h2⟩:=Tr.ZvT hk
   refine⟨T',n,upT_eq fun i hi=>?_,h1⟩
   rw[h2]
   split
   ·rename_i e;subst e;exact ZvS hi
   ·rfl
  ·exact⟨T,n,rfl,hk⟩
 ·subst e
  have:Nat.beq ((upT T n).alloc o).next n=false:=by
   show Nat.beq (n+1) n=false
   cases hb:Nat.beq (n+1) n with
   | false=>rfl
   | true=>have:=Nat.eq_of_beq_eq_true hb;omega
  rw[this,cond_false,fO_eq]at hk
  have hn:((upT T n).alloc o).get n=some o:=Zaa.Zae (H:=upT T n)
  rw[hn]at hk
  obtain⟨T',h1,h2⟩:=Tr.ZvT hk
  rw[Zwf]at h1
  refine⟨T',n+1,?_,h1⟩
  refine Zaa.ext ?_ rfl
  funext i
  by_cases hi:i<n+1
  ·rw[ZvS hi,h2]
   by_cases e:i=n
   ·subst e;rw[if_pos rfl,hn]
   ·rw[if_neg e,Zaa.Zag (H:=upT T n) e,ZvS (by omega)]
  ·rw[(upT T' (n+1)).wf i (by show n+1≤i;omega),((upT T n).alloc o).wf i (by show n+1≤i;omega)]
 ·subst e
  have:Nat.beq ((upT T n).set id o).next n=true:=Nat.beq_refl n
  rw[this,cond_true,ht]at hk
  simp only at hk
  rw[fO_eq]at hk
  obtain⟨T',h1,h2⟩:=Tr.ZvT hk
  refine⟨T',n,?_,h1⟩
  refine Zaa.ext ?_ rfl
  funext i
  by_cases hi:i<n
  ·rw[ZvS hi,h2]
   by_cases e:i=id
   ·subst e;rw[if_pos rfl]
   ·rw[if_neg e,Zaa.Zah e,ZvS hi]
  ·rw[(upT T' n).wf i (by show n≤i;omega),((upT T n).set id o).wf i (by show n≤i;omega)]
def putT (T:TF) (d:Option Nat) (a:AV) (k:TF→Bool):Bool:=match d with
 | some d=>Tr.put .any a 40 T d k
 | none=>k T
theorem Zv7 {T:TF} {F:Fr} {d:Option Nat} {a:AV} {k:TF→Bool} (hF:Zv4 T F) (h:putT T d a k=true):∃T',Zv4 T' (Fr.put F d a)∧k T'=true:=by
 cases d with
 | none=>exact⟨T,hF,h⟩
 | some d =>
  obtain⟨T',h1,h2⟩:=Tr.ZvT h
  refine⟨T',fun t=>?_,h1⟩
  rw[h2]
  simp only[Fr.put,Fr.get]
  split
  ·rfl
  ·exact hF t
abbrev Zwq:=FuncId→List AV→(AV→TH→Nat→Bool)→TH→Nat→Bool
def Zwd (r:AI) (T:TF) (M:TH) (n:Nat):Bool:=match Zw0 r T with
 | some false=>true
 | some true=>match r.dst with
  | some d=>Nat.blt r.op.kind 2&&(match (r.op.sub T).evq (upT M n)with
   | some (v,_)=>AV.same 20 v (T.get .any d)
   | none=>false)
  | none=>false
 | none=>false
theorem ZwM {r:AI} {T:TF} {F:Fr} {M:TH} {n:Nat} (hF:Zv4 T F) (h:Zwd r T M n=true):r.stable F (upT M n):=by
 unfold Zwd at h
 unfold AI.stable
 rw[Zwe hF]at h
 split at h
 ·rename_i e;rw[e];trivial
 ·rename_i e
  rw[e]
  split at h
  ·rename_i d hd
   simp only[Bool.and_eq_true]at h
   obtain⟨hk,h⟩:=h
   have hk:r.op.kind<2:=Nat.le_of_ble_eq_true hk
   rw[ZwW,ZwU hF]at h
   split at h
   ·rename_i v H' hv
    have:=ev_read hk hv
    subst this
    refine⟨d,hd,?_⟩
    rw[hv,AV.Zlv h,hF]
   ·cases h
  ·cases h
 ·cases h
def Zwt (call:Zwq) (i:AI) (k:TF→TH→Nat→Bool) (T:TF) (M:TH) (n:Nat):Bool:=match i.op with
 | .call f args=>match (f.sub T).ev []with
  | .fn h first caps=>call h (first++evs [] (args.map (AX.sub T))++caps) (fun r M' n'=>putT T i.dst r fun T'=>k T' M' n') M n
  | _=>false
 | op=>match (op.sub T).evq (upT M n)with
  | some (v,H')=>fV v fun v=>nextT (op.sub T) M n H' fun M' n'=>putT T i.dst v fun T'=>k T' M' n'
  | none=>false
def Zv6 (call:Zwq):List AI→(TF→TH→Nat→Bool)→TF→TH→Nat→Bool
 | [],k,T,M,n=>k T M n
 | i :: l,k,T,M,n=>match Zw0 i T with
  | some true=>Zwt call i (Zv6 call l k) T M n
  | some false=>putT T i.dst ZaO fun T'=>Zv6 call l k T' M n
  | none=>false
def allB {α:Type} (p:α→Bool):List α→Bool
 | []=>true
 | a :: l=>bif p a then allB p l else false
theorem ZwV {α:Type} {p:α→Bool}:∀{l:List α},allB p l=true→∀a∈l,p a=true
 | [],_,a,h=>by cases h
 | b :: l,h,a,ha=>by
  unfold allB at h
  cases hb:p b with
  | false=>rw[hb]at h;cases h
  | true =>
   rw[hb,cond_true]at h
   rcases List.mem_cons.1 ha with rfl|ha
   ·exact hb
   ·exact ZwV h a ha
def ZvZ (call:Zwq):List (AI×List AI)→(TF→TH→Nat→Bool)→TF→TH→Nat→Bool
 | [],k,T,M,n=>k T M n
 | (i,chk) :: l,k,T,M,n=>match Zw0 i T with
  | some true=>Zwt call i (fun T' M' n'=>bif allB (fun r=>Zwd r T' M' n') chk then ZvZ call l k T' M' n' else false) T M n
  | some false=>putT T i.dst ZaO fun T'=>ZvZ call l k T' M n
  | none=>false
def Zwm (step:(AEx→TF→TH→Nat→Bool)→TF→TH→Nat→Bool) (k:AEx→TF→TH→Nat→Bool):Nat→TF→TH→Nat→Bool
 | 0,_,_,_=>false
 | m+1,T,M,n=>step (fun e T' M' n'=>match e with
  | .normal=>Zwm step k m T' M' n'
  | e=>k e T' M' n') T M n
def ZzJ:TF→List Nat→List AV→(TF→Bool)→Bool
 | T,p :: ps,x :: xs,k=>fV x fun x=>Tr.put .any x 40 T p fun T'=>ZzJ T' ps xs k
 | T,_,_,k=>k T
def Zz2:List Nat→TH→(TH→Bool)→Bool
 | [],M,k=>k M
 | i :: is,M,k=>Tr.put none none 40 M i fun M'=>Zz2 is M' k
def isCells:Option Zb3→Bool
 | some (.cells _ _)=>true
 | _=>false
def iterN (ra rb:(AEx→TF→TH→Nat→Bool)→TF→TH→Nat→Bool) (k:AEx→TF→TH→Nat→Bool) (ps:List Nat) (T:TF):List (List AV)→TH→Nat→Bool
 | [],M,n=>k .normal T M n
 | x :: xs,M,n=>ZzJ T ps x fun T'=>ra (fun e T1 M1 n1=>match e with
  | .normal=>rb (fun e _ M2 n2=>match e with
   | .normal=>iterN ra rb k ps T xs M2 n2
   | .ret=>k .ret T M2 n2
   | .exit _=>false) T1 M1 n1
  | _=>false) T' M n
def ZvU (call0 call:Zwq) (lf:Nat):Zar→(AEx→TF→TH→Nat→Bool)→TF→TH→Nat→Bool
 | .skip,k,T,M,n=>k .normal T M n
 | .reg l,k,T,M,n=>Zv6 call l (k .normal) T M n
 | .drw l,k,T,M,n=>ZvZ call l (k .normal) T M n
 | .seq a b,k,T,M,n=>ZvU call0 call lf a (fun e T M n=>match e with
  | .normal=>ZvU call0 call lf b k T M n
  | e=>k e T M n) T M n
 | .cond c a b,k,T,M,n=>match (c.sub T).ev []with
  | .sc (.bool t)=>bif t then ZvU call0 call lf a k T M n else ZvU call0 call lf b k T M n
  | .ub=>bif ZvU call0 call lf a k T M n then ZvU call0 call lf b k T M n else false
  | _=>false
 | .blk id a,k,T,M,n=>ZvU call0 call lf a (fun e T M n=>match e with
  | .exit j=>bif Nat.beq j id then k .normal T M n else k (.exit j) T M n
  | e=>k e T M n) T M n
 | .loop a,k,T,M,n=>Zwm (ZvU call0 call lf a) k lf T M n
 | .exit id,k,T,M,n=>k (.exit id) T M n
 | .ret,k,T,M,n=>k .ret T M n
 | .rf gx ps al b,k,T,M,n=>match (gx.sub T).ev []with
  | .fn f [] caps=>match itX f caps (upT M n)with
   | some (ks,xs)=>bif allB (fun id=>bif Nat.blt id n then isCells (M.get none id) else false) ks then bif allB (fun x=>Nat.beq x.length ps.length) xs then
     Zz2 ks M fun M0=>iterN (ZvU call0 call0 lf al) (ZvU call0 call0 lf b) k ps T xs M0 n else false else false
   | none=>false
  | _=>false
 | .bad,_,_,_,_=>false
def argsT:Nat→List AV→TF→(TF→Bool)→Bool
 | _,[],T,k=>k T
 | i,a :: al,T,k=>Tr.put .any a 40 T i fun T'=>argsT (i+1) al T' k
theorem Zww:∀{al:List AV} {i:Nat} {T:TF} {k:TF→Bool} {F:Fr},Zv4 T F→(∀t,i≤t→Fr.get F t=.any)→argsT i al T k=true→∃T',k T'=true∧∀t,T'.get .any t=if t<i then Fr.get F t else Fr.get (Za2 i al) t
 | [],i,T,k,F,hF,h0,h=>⟨T,h,fun t=>by
   rw[← hF]
   split
   ·rfl
   ·exact h0 t (by omega)⟩
 | a :: al,i,T,k,F,hF,h0,h=>by
  obtain⟨T',h1,h2⟩:=Tr.ZvT h
  obtain⟨T'',h3,h4⟩:=Zww (F:=(i,a) :: F) (fun t=>by
   rw[h2]
   simp only[Fr.get]
   split
   ·rfl
   ·exact hF t) (fun t ht=>by
   simp only[Fr.get]
   rw[if_neg (by omega)]
   exact h0 t (by omega)) h1
  refine⟨T'',h3,fun t=>?_⟩
  rw[h4]
  simp only[Za2,Fr.get]
  by_cases e1:t<i
  ·rw[if_pos (by omega),if_pos e1,if_neg (by omega)]
  ·by_cases e2:t=i
   ·rw[if_pos (by omega),if_pos e2,if_neg e1,if_pos e2]
   ·rw[if_neg (by omega),if_neg e1,if_neg e2]
def ZwY (T:TF) (H:Zaa):Zcq→Option AV
 | .tmp t=>some (T.get .any t)
 | .cell sz ag a=>match AOp.ev [] H (.ld sz ag (.c (T.get .any a)))with
  | some (v,_)=>some v
  | none=>none
def resTL (T:TF) (H:Zaa):List Zcq→Option (List AV)
 | []=>some []
 | r :: rs=>match ZwY T H r with
  | some v=>match resTL T H rs with
   | some vs=>some (v :: vs)
   | none=>none
  | none=>none
def resT (T:TF) (H:Zaa) (rs:List Zcq):Option AV:=match rs with
 | [r]=>ZwY T H r
 | rs=>match resTL T H rs with
  | some vs=>some (.tup vs)
  | none=>none
theorem ZwC {T:TF} {F:Fr} (h:Zv4 T F) (H:Zaa) (r:Zcq):ZwY T H r=r.ev F H:=by
 have h':∀t,Fr.get F t=T.get .any t:=h
 cases r with
 | tmp t=>simp only[ZwY,Zcq.ev,h']
 | cell sz ag a =>
  simp only[ZwY,Zcq.ev,AOp.ev,AX.ev,h']
  rfl
theorem Zwz {T:TF} {F:Fr} (h:Zv4 T F) (H:Zaa):∀rs:List Zcq,resTL T H rs=ZcF F H rs
 | []=>rfl
 | r :: rs=>by
  simp only[resTL,ZcF,ZwC h,Zwz h H rs]
  rfl
theorem resT_eq {T:TF} {F:Fr} (h:Zv4 T F) (H:Zaa) (rs:List Zcq):resT T H rs=ZcU F H rs:=by
 match rs with
 | []=>rfl
 | [r]=>exact ZwC h H r
 | a :: b :: rs =>
  simp only[resT,ZcU,Zwz h]
  rfl
def ZzC (X : Zwq → FuncId → List AV → (AV → TH → Nat → Bool) → TH → Nat → Option Bool) (Tb : FuncId → Option (Zar × List Zcq × Nat)) (lf : Nat) : Nat → Zwq
  | 0, _, _, _, _, _ => false
  | m + 1, f, args, k, M, n => fVs args fun args => match X (ZzC X Tb lf m) f args k M n with
   | some b => b
   | none => match Tb f with
    | some (code, rs, N) => bif Nat.ble args.length N then argsT 0 args .e fun T => ZvU (ZzC X Tb lf m) (ZzC X Tb lf m) lf code (fun e T' M' n' => match e with
        | .exit _ => false
        | _ => match resT T' (upT M' n') rs with
          | some r => fV r fun r => k r M' n'
          | none => false) T M n else false
    | none => false
section
variable {P:Prg} {call:Zwq}
def Zv9 (P:Prg) (call:Zwq):Prop:=∀f args k M n,call f args k M n=true→Zay P f args (upT M n) fun r H'=>∃M' n',upT M' n'=H'∧k r M' n'=true
theorem ZwG (hc:Zv9 P call) {i:AI} {k:TF→TH→Nat→Bool} {T:TF} {F:Fr} {M:TH} {n:Nat} {K:Fr→Zaa→Prop} (hF:Zv4 T F) (h:Zwt call i k T M n=true) (hk:∀T' F' M' n',Zv4 T' F'→k T' M' n'=true→K F' (upT M' n')):i.step P F (upT M n) K:=by
 have key:(∀f args,i.op≠.call f args)→(∀E sz bytes zero s x,i.op≠.apv E sz bytes zero s x)→(∀str x,i.op≠.nxt str x)→i.step P F (upT M n) K:=by
  intro hnc hna hnn
  unfold Zwt at h
  unfold AI.step
  split
  ·rename_i f args he;exact absurd he (hnc f args)
  ·rename_i he;exact absurd he (hna _ _ _ _ _ _)
  ·rename_i he;exact absurd he (hnn _ _)
  ·split at h
   ·rename_i f args he;exact absurd he (hnc f args)
   ·split at h
    ·rename_i v H' hv
     rw[ZwT]at h
     rw[ZwW]at hv
     obtain⟨M',n',h1,h2⟩:=ZwF hv h
     rw[ZwU hF]at hv
     rw[hv]
     obtain⟨T',h3,h4⟩:=Zv7 hF h2
     have:=hk _ _ _ _ h3 h4
     rw[h1]at this
     exact this
    ·cases h
 cases hio:i.op with
 | call f args =>
  unfold Zwt at h
  unfold AI.step
  rw[hio]at h ⊢
  simp only at h ⊢
  rw[ZvW hF]at h
  split at h
  ·rename_i hf
   rw[hf]
   rw[ZwS hF]at h
   exact(hc _ _ _ _ _ h).mono fun r H' ⟨M',n',h1,h2⟩=>by
    obtain⟨T',h3,h4⟩:=Zv7 hF h2
    have:=hk _ _ _ _ h3 h4
    rw[h1]at this
    exact this
  ·cases h
 | apv E sz bytes zero s x =>
  exfalso
  unfold Zwt at h
  rw[hio]at h
  simp[AOp.sub,AOp.evq,AOp.ev]at h
 | nxt str x =>
  unfold Zwt at h
  unfold AI.step
  rw[hio]at h ⊢
  simp only at h ⊢
  split at h
  ·rename_i v H' hv
   rw[ZwT]at h
   rw[ZwW]at hv
   obtain⟨M',n',h1,h2⟩:=ZwF hv h
   have e:=ZwU (H:=upT M n) (op:=.nxt str x) hF
   rw[e]at hv
   obtain⟨T',h3,h4⟩:=Zv7 hF h2
   have:=hk _ _ _ _ h3 h4
   rw[h1]at this
   exact Zj7.of_ev hv this
  ·cases h
 | _=>exact key (by intro f args e;rw[hio]at e;cases e) (by intro E sz bytes zero s x e;rw[hio]at e;cases e) (by intro str x e;rw[hio]at e;cases e)
theorem Zv3 (hc:Zv9 P call):∀{l:List AI} {k:TF→TH→Nat→Bool} {T:TF} {F:Fr} {M:TH} {n:Nat} {K:Fr→Zaa→Prop},Zv4 T F→Zv6 call l k T M n=true→(∀T' F' M' n',Zv4 T' F'→k T' M' n'=true→K F' (upT M' n'))→Zau P l F (upT M n) K
 | [],k,T,F,M,n,K,hF,h,hk=>hk _ _ _ _ hF h
 | i :: l,k,T,F,M,n,K,hF,h,hk=>by
  simp only[Zv6]at h
  simp only[Zau]
  rw[Zwe hF]at h
  split at h
  ·rename_i e;rw[e];exact ZwG hc hF h fun T' F' M' n' hF' h'=>Zv3 hc hF' h' hk
  ·rename_i e
   rw[e]
   obtain⟨T',h3,h4⟩:=Zv7 hF h
   exact Zv3 hc h3 h4 hk
  ·cases h
theorem ZvX (hc:Zv9 P call):∀{l:List (AI×List AI)} {k:TF→TH→Nat→Bool} {T:TF} {F:Fr} {M:TH} {n:Nat} {K:Fr→Zaa→Prop},Zv4 T F→ZvZ call l k T M n=true→(∀T' F' M' n',Zv4 T' F'→k T' M' n'=true→K F' (upT M' n'))→Zaj P l F (upT M n) K
 | [],k,T,F,M,n,K,hF,h,hk=>hk _ _ _ _ hF h
 | (i,chk) :: l,k,T,F,M,n,K,hF,h,hk=>by
  simp only[ZvZ]at h
  simp only[Zaj]
  rw[Zwe hF]at h
  split at h
  ·rename_i e
   rw[e]
   refine ZwG hc hF h fun T' F' M' n' hF' h'=>?_
   cases ha:allB (fun r=>Zwd r T' M' n') chk with
   | true =>
    rw[ha,cond_true]at h'
    exact⟨fun r hr=>ZwM hF' (ZwV ha r hr),ZvX hc hF' h' hk⟩
   | false=>rw[ha]at h';cases h'
  ·rename_i e
   rw[e]
   obtain⟨T',h3,h4⟩:=Zv7 hF h
   exact ZvX hc h3 h4 hk
  ·cases h
theorem Zze:∀{ps:List Nat} {xs:List AV} {T:TF} {F:Fr} {k:TF→Bool},Zv4 T F→ZzJ T ps xs k=true→∃T',Zv4 T' (ZxS F ps xs)∧k T'=true
 | [],[],T,F,k,hF,h=>⟨T,hF,h⟩
 | [],x :: xs,T,F,k,hF,h=>⟨T,hF,h⟩
 | p :: ps,[],T,F,k,hF,h=>⟨T,hF,h⟩
 | p :: ps,x :: xs,T,F,k,hF,h=>by
  simp only[ZzJ]at h
  rw[ZwT]at h
  obtain⟨T',h3,h4⟩:=Tr.ZvT h
  have hF':Zv4 T' (Fr.put F (some p) x):=fun t=>by
   rw[h4]
   simp only[Fr.put,Fr.get]
   split
   ·rfl
   ·exact hF t
  obtain⟨T2,q1,q2⟩:=Zze hF' h3
  exact⟨T2,q1,q2⟩
theorem Zzl:∀{ks:List Nat} {M:TH} {k:TH→Bool},Zz2 ks M k=true→∃M',k M'=true∧∀j,M'.get none j=if j∈ks then none else M.get none j
 | [],M,k,h=>⟨M,h,fun j=>by simp⟩
 | i :: is,M,k,h=>by
  obtain⟨M1,h1,h2⟩:=Tr.ZvT h
  obtain⟨M2,h3,h4⟩:=Zzl h1
  refine⟨M2,h3,fun j=>?_⟩
  rw[h4,h2]
  by_cases e:j∈is
  ·rw[if_pos e,if_pos (List.mem_cons_of_mem _ e)]
  ·rw[if_neg e]
   by_cases e2:j=i
   ·rw[if_pos e2,if_pos (by rw[e2];exact List.mem_cons_self)]
   ·rw[if_neg e2,if_neg (by simp[e,e2])]
theorem runC2_ok {p:Program} [ItOk p] {call0:Zwq} (hc0:Zv9 ⟨p,fun _ _=>False⟩ call0) {lf:Nat} (c:Zar):∀{pan:Value→Zaa→Prop} {call:Zwq},Zv9 ⟨p,pan⟩ call→∀{k:AEx→TF→TH→Nat→Bool} {T:TF} {F:Fr} {M:TH} {n:Nat} {Q:AEx→Fr→Zaa→Prop},Zv4 T F→ZvU call0 call lf c k T M n=true→(∀e T' F' M' n',Zv4 T' F'→k e T' M' n'=true→Q e F' (upT M' n'))→AW ⟨p,pan⟩ c Q F (upT M n):=by
 induction c with
 | skip=>intro pan call hc k T F M n Q hF h hk;exact hk _ _ _ _ _ hF h
 | reg l=>intro pan call hc k T F M n Q hF h hk;exact Zv3 hc hF h fun T' F' M' n' hF' h'=>hk _ _ _ _ _ hF' h'
 | drw l=>intro pan call hc k T F M n Q hF h hk;exact ZvX hc hF h fun T' F' M' n' hF' h'=>hk _ _ _ _ _ hF' h'
 | seq a b iha ihb =>
  intro pan call hc k T F M n Q hF h hk
  simp only[ZvU]at h
  simp only[AW]
  refine iha hc hF h fun e T' F' M' n' hF' h'=>?_
  cases e with
  | normal=>exact ihb hc hF' h' hk
  | exit i=>exact hk _ _ _ _ _ hF' h'
  | ret=>exact hk _ _ _ _ _ hF' h'
 | cond c a b iha ihb =>
  intro pan call hc k T F M n Q hF h hk
  simp only[ZvU]at h
  simp only[AW]
  rw[ZvW hF]at h
  split at h
  ·rename_i t e
   rw[e]
   simp only
   cases t
   ·exact ihb hc hF h hk
   ·exact iha hc hF h hk
  ·rename_i e
   rw[e]
   simp only
   cases ha:ZvU call0 call lf a k T M n with
   | true=>rw[ha,cond_true]at h;exact⟨iha hc hF ha hk,ihb hc hF h hk⟩
   | false=>rw[ha]at h;cases h
  ·cases h
 | blk id a iha =>
  intro pan call hc k T F M n Q hF h hk
  simp only[ZvU]at h
  simp only[AW]
  refine iha hc hF h fun e T' F' M' n' hF' h'=>?_
  cases e with
  | normal=>exact hk _ _ _ _ _ hF' h'
  | ret=>exact hk _ _ _ _ _ hF' h'
  | exit j =>
   simp only[cond_eq_ite,ZwR,decide_eq_true_eq]at h' ⊢
   by_cases hj:j=id
   ·rw[if_pos hj]at h' ⊢;exact hk _ _ _ _ _ hF' h'
   ·rw[if_neg hj]at h' ⊢;exact hk _ _ _ _ _ hF' h'
 | loop a iha =>
  intro pan call hc k T F M n Q hF h hk
  simp only[ZvU]at h
  simp only[AW]
  refine⟨fun m F H=>∃T' M' n',Zv4 T' F∧upT M' n'=H∧Zwm (ZvU call0 call lf a) k m T' M' n'=true,⟨lf,F,_,.refl _ _,T,M,n,hF,rfl,h⟩,?_⟩
  rintro m F H ⟨T',M',n',hF',rfl,h'⟩
  cases m with
  | zero=>simp[Zwm]at h'
  | succ m =>
   simp only[Zwm]at h'
   refine iha hc hF' h' fun e T'' F'' M'' n'' hF'' h''=>?_
   cases e with
   | normal=>exact⟨m,F'',_,Nat.lt_succ_self _,.refl _ _,T'',M'',n'',hF'',rfl,h''⟩
   | exit i=>exact hk _ _ _ _ _ hF'' h''
   | ret=>exact hk _ _ _ _ _ hF'' h''
 | exit id=>intro pan call hc k T F M n Q hF h hk;exact hk _ _ _ _ _ hF h
 | ret=>intro pan call hc k T F M n Q hF h hk;exact hk _ _ _ _ _ hF h
 | rf gx ps al b iha ihb =>
  intro pan call hc k T F M n Q hF h hk
  simp only[ZvU]at h
  rw[ZvW hF]at h
  split at h
  ·rename_i f caps hge
   split at h
   ·rename_i ks xs hit
    cases ha:allB (fun id=>bif Nat.blt id n then isCells (M.get none id) else false) ks with
    | false=>rw[ha]at h;cases h
    | true =>
    rw[ha,cond_true]at h
    cases hb:allB (fun x:List AV=>Nat.beq x.length ps.length) xs with
    | false=>rw[hb]at h;cases h
    | true =>
    rw[hb,cond_true]at h
    obtain⟨M0,h1,h2⟩:=Zzl h
    have hks:∀id∈ks,id<n∧isCells (M.get none id)=true:=fun id hid=>by
     have:=ZwV ha id hid
     cases hl:Nat.blt id n with
     | true=>rw[hl,cond_true]at this;exact⟨Eq.mp Nat.blt_eq hl,this⟩
     | false=>rw[hl]at this;cases this
    refine AW_rf hge ks xs (upT M0 n) (upT M0 n) (fun j G=>∃M' n',upT M' n'=G∧iterN (ZvU call0 call0 lf al) (ZvU call0 call0 lf b) k ps T (xs.drop j) M' n'=true) (fun G=>∃M' n',upT M' n'=G∧k .ret T M' n'=true) (ItOk.ok hit) (fun x hx=>Nat.eq_of_beq_eq_true (ZwV hb x hx)) (fun id hid=>?_) (fun i o ho=>?_) (Nat.le_refl _) (GStep.refl _ _) ⟨M0,n,rfl,h1⟩ (fun j x G hx _ hI=>?_) (fun G _ hI=>?_) (fun G _ hI=>?_)
    ·obtain⟨q1,q2⟩:=hks id hid
     refine⟨?_,by rw[ZvS q1,h2,if_pos hid]⟩
     rw[ZvS q1]
     unfold isCells at q2
     split at q2
     ·rename_i cs E e;exact⟨cs,E,e⟩
     ·cases q2
    ·by_cases hi:i<n
     ·rw[ZvS hi,h2]at ho
      rw[ZvS hi]
      split at ho
      ·cases ho
      ·exact ho
     ·rw[(upT M0 n).wf i (by show n≤i;omega)]at ho;cases ho
    ·obtain⟨M',n',e,h'⟩:=hI
     subst e
     obtain⟨hj,rfl⟩:=List.getElem?_eq_some_iff.1 hx
     rw[List.drop_eq_getElem_cons hj]at h'
     simp only[iterN]at h'
     obtain⟨T',h3,h4⟩:=Zze hF h'
     refine iha hc0 h3 h4 fun e T1 F1 M1 n1 hF1 h5=>?_
     cases e with
     | normal =>
      refine ihb hc0 hF1 h5 fun e T2 F2 M2 n2 hF2 h6=>?_
      cases e with
      | normal=>exact⟨_,GStep.refl _ _,M2,n2,rfl,h6⟩
      | ret=>exact⟨_,GStep.refl _ _,M2,n2,rfl,h6⟩
      | exit i=>cases h6
     | _=>cases h5
    ·obtain⟨M',n',rfl,h'⟩:=hI
     rw[List.drop_length]at h'
     exact hk _ _ _ _ _ hF h'
    ·obtain⟨M',n',rfl,h'⟩:=hI
     exact hk _ _ _ _ _ hF h'
   ·cases h
  ·cases h
 | bad=>intro pan call hc k T F M n Q hF h hk;simp[ZvU]at h
theorem ZyY {P:Program} [ItOk P] {eqT:EqT} (hE:∀t ks,eqT t=some ks→Ziv P t ks) {X:Zwq→FuncId→List AV→(AV→TH→Nat→Bool)→TH→Nat→Option Bool}
  (hX:∀call,Zv9 P call→∀f args k M n,X call f args k M n=some true→Zay P f args (upT M n) fun r H'=>∃M' n',upT M' n'=H'∧k r M' n'=true)
  {Tb:FuncId→Option (Zar×List Zcq×Nat)} (hT:∀f x,Tb f=some x→cFn P eqT f=some x) (lf:Nat):∀m,Zv9 P (ZzC X Tb lf m)
 | 0=>fun f args k M n h=>by simp[ZzC]at h
 | m+1=>fun f args k M n h=>by
  simp only[ZzC,fVs_eq]at h
  split at h
  ·rename_i b hx
   subst h
   exact hX _ (ZyY hE hX hT lf m) _ _ _ _ _ hx
  split at h
  ·rename_i code rs N e
   cases hl:Nat.ble args.length N with
   | true =>
    rw[hl,cond_true]at h
    obtain⟨T,h1,h2⟩:=Zww (F:=[]) (fun _=>rfl) (fun _ _=>rfl) h
    have hF:Zv4 T (Za2 0 args):=fun t=>by rw[h2,if_neg (by omega)]
    refine ZdU hE (hT _ _ e) (Nat.le_of_ble_eq_true hl) (runC2_ok (ZyY hE hX hT lf m) code (ZyY hE hX hT lf m) hF h1 fun e T' F' M' n' hF' h'=>?_)
    have fin:(match resT T' (upT M' n') rs with|some r=>fV r fun r=>k r M' n'|none=>false)=true→(match ZcU F' (upT M' n') rs with|some r=>∃r2 H2,Zb6 r (upT M' n') r2 H2∧∃M'' n'',upT M'' n''=H2∧k r2 M'' n''=true|none=>False):=by
     intro hh
     rw[resT_eq hF']at hh
     split at hh
     ·rename_i r hr
      rw[ZwT]at hh
      exact⟨r,_,Zb6.keep (fun _ _ h=>h) (Nat.le_refl _),M',n',rfl,hh⟩
     ·cases hh
    cases e with
    | normal=>exact fin h'
    | ret=>exact fin h'
    | exit i=>cases h'
   | false=>rw[hl]at h;cases h
  ·cases h
end
theorem Zwr:upT .e 0=Zaa.emp:=Zaa.ext (by funext i;rfl) rfl
def eqE:TypeId→Option (List SK):=fun t=>if t=28 then some [.int .i64,.str] else none
def eqT:EqT:=⟨eqE,fun _=>false⟩
theorem ZfM (b:Bool) (d:Nat) (w:World) (a:Int):(Instr.checkKey b (d+1) 3 (.int .i64 a)).run Tryz.prog w=.ok () w:=by
 unfold Instr.checkKey
 simp[run_underlying Tryz.underlying3]
theorem ba_dec (a b:ByteArray):(a == b)=decide (a=b):=by rw[Bool.eq_iff_iff,Zmh];simp
theorem ba_tl (a b:ByteArray):(a.toList=b.toList)=(a=b):=propext ⟨fun h=>by rw[ByteArray.toList_eq,ByteArray.toList_eq]at h;exact ByteArray.ext (Array.toList_inj.1 h),fun h=>by rw[h]⟩
theorem chk_str (b:Bool) (d:Nat) (w:World) (a:ByteArray):(Instr.checkKey b (d+1) 9 (.string a)).run Tryz.prog w=.ok () w:=by
 unfold Instr.checkKey
 simp[run_underlying Tryz.underlying9]
set_option maxHeartbeats 1000000 in
set_option maxRecDepth 100000 in
theorem eq_call (d:Nat) (w:World) (a0 b0:ByteArray) (a1 b1:Int):(Op.equalIn (d+2) 28 (.agg #[.int .i64 a1,.string a0]) (.agg #[.int .i64 b1,.string b0])).run Tryz.prog w=.ok ((a1 == b1)&&(a0 == b0)) w:=by
 rw[run_equalIn_struct w (d+1) _ _ _ (by kernel_rfl) (by kernel_rfl)]
 by_cases h0:a0=b0<;>by_cases h1:a1=b1<;>simp[go_sem,h0,h1,ba_dec,ba_tl]
set_option maxHeartbeats 1000000 in
set_option maxRecDepth 100000 in
theorem chk_call (b:Bool) (d:Nat) (w:World) (a0:ByteArray) (a1:Int):(Instr.checkKey b (d+2) 28 (.agg #[.int .i64 a1,.string a0])).run Tryz.prog w=.ok () w:=by
 unfold Instr.checkKey
 simp[run_underlying Tryz.underlying28,go_sem,ZfM,chk_str]
theorem hE:∀t ks,eqT t=some ks→Ziv Tryz.prog t ks:=by
 intro t ks h
 have h:eqE t=some ks:=h
 unfold eqE at h
 split at h
 ·rename_i e
  subst e
  injection h with h
  subst h
  intro xs ys h1 h2 h3 h4 w
  obtain⟨x0,x1,rfl⟩:∃a b,xs=[a,b]:=by
   match xs,h1 with
   | [a,b],_=>exact⟨a,b,rfl⟩
  obtain⟨y0,y1,rfl⟩:∃a b,ys=[a,b]:=by
   match ys,h2 with
   | [a,b],_=>exact⟨a,b,rfl⟩
  obtain⟨a0,rfl⟩:∃s,x1=.string s:=by
   have:=h3 1 .str x1 rfl rfl
   cases x1<;>simp[SK.is]at this
   exact⟨_,rfl⟩
  obtain⟨b0,rfl⟩:∃s,y1=.string s:=by
   have:=h4 1 .str y1 rfl rfl
   cases y1<;>simp[SK.is]at this
   exact⟨_,rfl⟩
  obtain⟨a1,rfl⟩:∃s,x0=.int .i64 s:=by
   have:=h3 0 (.int .i64) x0 rfl rfl
   cases x0<;>simp[SK.is]at this
   subst this
   exact⟨_,rfl⟩
  obtain⟨b1,rfl⟩:∃s,y0=.int .i64 s:=by
   have:=h4 0 (.int .i64) y0 rfl rfl
   cases y0<;>simp[SK.is]at this
   subst this
   exact⟨_,rfl⟩
  refine⟨?_,fun b=>chk_call b 9998 w a0 a1⟩
  refine(eq_call 9998 w a0 b0 a1 b1).trans ?_
  simp[ZgE,vEq]
 ·cases h
def za0:AV:=.agg [.sc (.int .u8 0),.sc (.int .u8 0),.sc (.int .u8 0),.sc (.int .u8 0),.sc (.int .u8 0),.sc (.int .u8 0),.sc (.int .u8 0),.sc (.int .u8 0),.sc (.int .u8 0),.sc (.int .u8 0),.sc (.int .u8 0),.sc (.int .u8 0),.sc (.int .u8 0),.sc (.int .u8 0),.sc (.int .u8 0),.sc (.int .u8 0),.sc (.int .u8 0),.sc (.int .u8 0),.sc (.int .u8 0),.sc (.int .u8 0),.sc (.int .u8 0),.sc (.int .u8 0),.sc (.int .u8 0),.sc (.int .u8 0)]
def za1:AV:=.agg [.sc (.int .u8 0),.sc (.int .u8 0),.sc (.int .u8 0),.sc (.int .u8 0),.sc (.int .u8 0),.sc (.int .u8 0),.sc (.int .u8 0),.sc (.int .u8 0),.sc (.int .u8 0),.sc (.int .u8 0),.sc (.int .u8 0),.sc (.int .u8 0),.sc (.int .u8 0),.sc (.int .u8 0),.sc (.int .u8 0),.sc (.int .u8 0),.sc (.int .u8 0),.sc (.int .u8 0),.sc (.int .u8 0),.sc (.int .u8 0),.sc (.int .u8 0),.sc (.int .u8 0),.sc (.int .u8 0),.sc (.int .u8 0),.sc (.int .u8 0),.sc (.int .u8 0),.sc (.int .u8 0),.sc (.int .u8 0),.sc (.int .u8 0),.sc (.int .u8 0),.sc (.int .u8 0),.sc (.int .u8 0),.sc (.int .u8 0),.sc (.int .u8 0),.sc (.int .u8 0),.sc (.int .u8 0),.sc (.int .u8 0),.sc (.int .u8 0),.sc (.int .u8 0),.sc (.int .u8 0),.sc (.int .u8 0),.sc (.int .u8 0),.sc (.int .u8 0),.sc (.int .u8 0),.sc (.int .u8 0),.sc (.int .u8 0),.sc (.int .u8 0),.sc (.int .u8 0),.sc (.int .u8 0),.sc (.int .u8 0),.sc (.int .u8 0),.sc (.int .u8 0),.sc (.int .u8 0),.sc (.int .u8 0),.sc (.int .u8 0),.sc (.int .u8 0),.sc (.int .u8 0),.sc (.int .u8 0),.sc (.int .u8 0),.sc (.int .u8 0),.sc (.int .u8 0),.sc (.int .u8 0),.sc (.int .u8 0),.sc (.int .u8 0),.sc (.int .u8 0)]
def za2:AV:=.agg [.sc (.int .u8 0),.sc (.int .u8 0),.sc (.int .u8 0),.sc (.int .u8 0),.sc (.int .u8 0),.sc (.int .u8 0),.sc (.int .u8 0),.sc (.int .u8 0),.sc (.int .u8 0)]
theorem YZ:True∧za0=.agg [.sc (.int .u8 0),.sc (.int .u8 0),.sc (.int .u8 0),.sc (.int .u8 0),.sc (.int .u8 0),.sc (.int .u8 0),.sc (.int .u8 0),.sc (.int .u8 0),.sc (.int .u8 0),.sc (.int .u8 0),.sc (.int .u8 0),.sc (.int .u8 0),.sc (.int .u8 0),.sc (.int .u8 0),.sc (.int .u8 0),.sc (.int .u8 0),.sc (.int .u8 0),.sc (.int .u8 0),.sc (.int .u8 0),.sc (.int .u8 0),.sc (.int .u8 0),.sc (.int .u8 0),.sc (.int .u8 0),.sc (.int .u8 0)]∧za1=.agg [.sc (.int .u8 0),.sc (.int .u8 0),.sc (.int .u8 0),.sc (.int .u8 0),.sc (.int .u8 0),.sc (.int .u8 0),.sc (.int .u8 0),.sc (.int .u8 0),.sc (.int .u8 0),.sc (.int .u8 0),.sc (.int .u8 0),.sc (.int .u8 0),.sc (.int .u8 0),.sc (.int .u8 0),.sc (.int .u8 0),.sc (.int .u8 0),.sc (.int .u8 0),.sc (.int .u8 0),.sc (.int .u8 0),.sc (.int .u8 0),.sc (.int .u8 0),.sc (.int .u8 0),.sc (.int .u8 0),.sc (.int .u8 0),.sc (.int .u8 0),.sc (.int .u8 0),.sc (.int .u8 0),.sc (.int .u8 0),.sc (.int .u8 0),.sc (.int .u8 0),.sc (.int .u8 0),.sc (.int .u8 0),.sc (.int .u8 0),.sc (.int .u8 0),.sc (.int .u8 0),.sc (.int .u8 0),.sc (.int .u8 0),.sc (.int .u8 0),.sc (.int .u8 0),.sc (.int .u8 0),.sc (.int .u8 0),.sc (.int .u8 0),.sc (.int .u8 0),.sc (.int .u8 0),.sc (.int .u8 0),.sc (.int .u8 0),.sc (.int .u8 0),.sc (.int .u8 0),.sc (.int .u8 0),.sc (.int .u8 0),.sc (.int .u8 0),.sc (.int .u8 0),.sc (.int .u8 0),.sc (.int .u8 0),.sc (.int .u8 0),.sc (.int .u8 0),.sc (.int .u8 0),.sc (.int .u8 0),.sc (.int .u8 0),.sc (.int .u8 0),.sc (.int .u8 0),.sc (.int .u8 0),.sc (.int .u8 0),.sc (.int .u8 0),.sc (.int .u8 0)]∧za2=.agg [.sc (.int .u8 0),.sc (.int .u8 0),.sc (.int .u8 0),.sc (.int .u8 0),.sc (.int .u8 0),.sc (.int .u8 0),.sc (.int .u8 0),.sc (.int .u8 0),.sc (.int .u8 0)]:=⟨trivial,rfl,rfl,rfl⟩
def Zxe:Zar:=.seq (.reg [io 4 (.mv (ib false))]) (.seq (.seq (.reg [im 12 0,io 13 (.len true (.t 12)),io 14 (.bin .gtr (.t 13) (ik 500)),im 15 14,ih 15 16 (.mv (.t 1)),ih 15 17 (.len true (.t 16)),ih 15 18 (.bin .gtr (.t 17) (ik 500)),io 19 (.pick (.t 15) (ib true) (.t 18))]) (.cond (.t 19) (.seq (.reg [io 20 (.call (jf 6) []),im 4 20]) .ret) .skip)) (.seq (.reg [im 21 0,io 22 (.call (jf 7) [.t 21]),im 5 22]) (.seq (.reg [im 24 5,io 25 (.call (jf 8) [.t 24]),im 23 25,io 26 (.ext (.t 23) 0),io 27 (.ext (.t 23) 1),im 6 26,im 7 27]) (.seq (.reg [im 29 1,io 30 (.call (jf 8) [.t 29]),im 28 30,io 31 (.ext (.t 28) 0),io 32 (.ext (.t 28) 1),im 8 31,im 9 32]) (.seq (.reg [im 34 1,io 35 (.call (jf 9) [.t 34]),im 33 35,io 36 (.ext (.t 33) 0),io 37 (.ext (.t 33) 1),im 10 36,im 11 37]) (.seq (.reg [im 38 5,im 39 0,io 40 (.call (jf 10) [.t 39]),io 41 (.bin .eql (.t 38) (.t 40)),im 42 41,ig 42 43 (.mv (.t 6)),ig 42 44 (.mv (.t 0)),ig 42 45 (.bin .eql (.t 43) (.t 44)),io 46 (.pick (.t 42) (.t 45) (ib false)),im 47 46,ig 47 48 (.mv (.t 7)),io 49 (.pick (.t 47) (.t 48) (ib false)),im 50 49,ig 50 51 (.mv (.t 8)),ig 50 52 (.mv (.t 10)),ig 50 53 (.bin .eql (.t 51) (.t 52)),io 54 (.pick (.t 50) (.t 53) (ib false)),im 55 54,ig 55 56 (.mv (.t 9)),ig 55 57 (.mv (.t 11)),ig 55 58 (.bnb false (.t 56) (.t 57)),io 59 (.pick (.t 55) (.t 58) (ib false)),im 60 59,ig 60 61 (.mv (.t 9)),ig 60 62 (.un .not (.t 61)),ig 60 63 (.mv (.t 62)),ih 63 64 (.mv (.t 8)),ih 63 65 (.call (jf 7) [.t 64]),ih 63 66 (.mv (.t 1)),ih 63 67 (.bin .eql (.t 65) (.t 66)),ig 60 68 (.pick (.t 63) (ib true) (.t 67)),io 69 (.pick (.t 60) (.t 68) (ib false)),im 70 69,ig 70 71 (.call (jf 6) []),io 72 (.pick (.t 70) (.t 71) (ib false)),im 4 72]) .ret))))))
theorem cf3:cFn Tryz.prog eqT 3=some (Zxe,[(.tmp 4)],73):=by kernel_rfl
def Zna:Zar:=.seq (.reg [io 0 (.mv (ib false))]) (.seq (.reg [io 6 (.call (jf 11) [.c (.sc (.string ⟨#[108,111,97,100,32,97,44,98,61,51]⟩))]),im 5 6,io 7 (.ext (.t 5) 0),io 8 (.ext (.t 5) 1),io 1 (.box 28 (.c (.agg [.sc (.int .i64 0),.sc (.string ⟨#[]⟩)]))),iz (.st 2 (.t 1) (.t 7)),im 2 8]) (.seq (.reg [io 10 (.call (jf 11) [.c (.sc (.string ⟨#[97,115,107,32,42,32,48,61,120,44,121,47,49]⟩))]),im 9 10,io 11 (.ext (.t 9) 0),io 12 (.ext (.t 9) 1),io 3 (.box 28 (.c (.agg [.sc (.int .i64 0),.sc (.string ⟨#[]⟩)]))),iz (.st 2 (.t 3) (.t 11)),im 4 12]) (.seq (.reg [io 13 (.ld 2 true (.t 1)),io 14 (.bld [.sc (.int .i64 0),.sc (.string ⟨#[]⟩)] [(0,(1,ik 2)),(1,(1,.c (.sc (.string ⟨#[1,1,97,1,98,6]⟩))))]),io 15 (.eqf [.int .i64,.str] false (.t 13) (.t 14)),im 16 15,ig 16 17 (.mv (.t 2)),ig 16 18 (.bin .eql (.t 17) (ik 0)),io 19 (.pick (.t 16) (.t 18) (ib false)),im 20 19,ig 20 21 (.fla 0 (.t 3)),ig 20 22 (.ld 1 false (.t 21)),ig 20 23 (.bin .eql (.t 22) (ik 5)),io 24 (.pick (.t 20) (.t 23) (ib false)),im 25 24,ig 25 26 (.fla 1 (.t 3)),ig 25 27 (.ld 1 false (.t 26)),ig 25 28 (.len true (.t 27)),ig 25 29 (.bin .eql (.t 28) (ik 12)),io 30 (.pick (.t 25) (.t 29) (ib false)),im 31 30,ig 31 32 (.mv (.t 4)),ig 31 33 (.bin .eql (.t 32) (ik 0)),io 34 (.pick (.t 31) (.t 33) (ib false)),im 0 34]) .ret)))
theorem cf6:cFn Tryz.prog eqT 6=some (Zna,[(.tmp 0)],35):=by kernel_rfl
def c7_1:Zar:=.blk 0 (.loop (.seq (.reg [io 12 (.bin .lss (.t 11) (.t 10))]) (.seq (.cond (.t 12) .skip (.exit 0)) (.seq (.blk 1 (.seq (.reg [im 13 11,im 4 13]) (.seq (.reg [im 14 0,im 15 4,io 16 (.ixs (.t 14) (.t 15)),io 17 (.bin .shr (.t 16) (.c (.sc (.int .u64 4)))),io 18 (.ixs (.c (.sc (.string ⟨#[48,49,50,51,52,53,54,55,56,57,97,98,99,100,101,102]⟩))) (.t 17)),io 19 (.call (jf 18) [.t 3,.t 18])]) (.reg [im 20 0,im 21 4,io 22 (.ixs (.t 20) (.t 21)),io 23 (.bin .and (.t 22) (.c (.sc (.int .u8 15)))),io 24 (.ixs (.c (.sc (.string ⟨#[48,49,50,51,52,53,54,55,56,57,97,98,99,100,101,102]⟩))) (.t 23)),io 25 (.call (jf 18) [.t 3,.t 24])])))) (.reg [io 26 (.bin .add (.t 11) (ik 1)),im 11 26])))))
def ZzR:Zar:=.seq (.reg [io 2 (.mv (.c (.sc (.string ⟨#[]⟩))))]) (.seq (.seq (.reg [im 5 0,io 6 (.call (jf 17) [.t 5])]) (.cond (.t 6) (.seq (.reg [im 7 0,im 2 7]) .ret) .skip)) (.seq (.reg [io 3 (.box 54 (.c (.agg [.sc (.pointer none),.sl .full []])))]) (.seq (.reg [io 8 (.call (jf 18) [.t 3,.c (.sc (.int .u8 37))])]) (.seq (.seq (.reg [im 9 0,io 10 (.len true (.t 9)),jm 11 0]) c7_1) (.seq (.reg [io 27 (.call (jf 19) [.t 3]),im 2 27]) .ret)))))
theorem cf7:cFn Tryz.prog eqT 7=some (ZzR,[(.tmp 2)],28):=by kernel_rfl
def c8_1:Zar:=.blk 0 (.loop (.seq (.seq (.reg [im 21 5,im 22 0,io 23 (.len true (.t 22)),io 24 (.bin .lss (.t 21) (.t 23))]) (.cond (.t 24) .skip (.exit 0))) (.seq (.blk 1 (.seq (.drw [ip (im 27 0),ip (im 28 5),ip (io 29 (.ixs (.t 27) (.t 28))),ip (im 31 0),ip (im 32 5),ip (io 33 (.bin .add (.t 32) (ik 1))),ip (io 34 (.ixs (.t 31) (.t 33))),ip (io 30 (.call (jf 20) [.c (.sc (.string ⟨#[48,49,50,51,52,53,54,55,56,57,97,98,99,100,101,102]⟩)),.t 29])),ip (io 35 (.call (jf 20) [.c (.sc (.string ⟨#[48,49,50,51,52,53,54,55,56,57,97,98,99,100,101,102]⟩)),.t 34])),ip (im 6 30),ip (im 7 35)]) (.seq (.seq (.reg [im 36 6,io 37 (.bin .lss (.t 36) (ik 0)),im 38 37,ih 38 39 (.mv (.t 7)),ih 38 40 (.bin .lss (.t 39) (ik 0)),io 41 (.pick (.t 38) (ib true) (.t 40))]) (.cond (.t 41) (.seq (.reg [io 2 (.mv (.c (.sc (.string ⟨#[]⟩)))),io 3 (.mv (ib false))]) .ret) .skip)) (.reg [im 42 4,im 43 6,io 44 (.bin .shl (.t 43) (.c (.sc (.int .u64 4)))),im 45 7,io 46 (.bin .or (.t 44) (.t 45)),io 47 (.cnv .u8 (.t 46)),io 48 (.bsl 1 [.t 47]),io 49 (.app 5 1 1 (.t 42) (.t 48)),im 4 49])))) (.reg [im 25 5,io 26 (.bin .add (.t 25) (ik 2)),im 5 26]))))
def Ztx:Zar:=.seq (.reg [io 2 (.mv (.c (.sc (.string ⟨#[]⟩)))),io 3 (.mv (ib false))]) (.seq (.seq (.reg [im 9 0,io 10 (.call (jf 17) [.t 9])]) (.cond (.t 10) (.seq (.reg [im 11 0,im 2 11,io 3 (.mv (ib true))]) .ret) .skip)) (.seq (.seq (.reg [im 12 0,io 13 (.len true (.t 12)),io 14 (.bin .rem (.t 13) (ik 2)),io 15 (.bin .eql (.t 14) (ik 0)),im 16 15,ih 16 17 (.mv (.t 0)),ih 16 18 (.ixs (.t 17) (ik 0)),ih 16 19 (.bin .neq (.t 18) (.c (.sc (.int .u8 37)))),io 20 (.pick (.t 16) (ib true) (.t 19))]) (.cond (.t 20) (.seq (.reg [io 2 (.mv (.c (.sc (.string ⟨#[]⟩)))),io 3 (.mv (ib false))]) .ret) .skip)) (.seq (.reg [io 4 (.mv jn)]) (.seq (.seq (.reg [jm 5 1]) c8_1) (.seq (.reg [im 50 4,io 51 (.sob (.t 50)),im 8 51]) (.seq (.seq (.reg [im 52 8,io 53 (.call (jf 7) [.t 52]),im 54 0,io 55 (.bin .neq (.t 53) (.t 54))]) (.cond (.t 55) (.seq (.reg [io 2 (.mv (.c (.sc (.string ⟨#[]⟩)))),io 3 (.mv (ib false))]) .ret) .skip)) (.seq (.reg [im 56 8,im 2 56,io 3 (.mv (ib true))]) .ret)))))))
theorem cf8:cFn Tryz.prog eqT 8=some (Ztx,[(.tmp 2),(.tmp 3)],57):=by kernel_rfl
def c9_1:Zar:=.blk 0 (.loop (.seq (.seq (.reg [im 17 5,io 18 (.bin .add (.t 17) (ik 1)),im 19 0,io 20 (.len true (.t 19)),io 21 (.bin .lss (.t 18) (.t 20))]) (.cond (.t 21) .skip (.exit 0))) (.seq (.blk 1 (.seq (.seq (.reg [im 24 0,im 25 5,io 26 (.ixs (.t 24) (.t 25)),io 27 (.call (jf 22) [.t 26]),io 28 (.bin .gtr (.t 27) (.c (.sc (.int .u8 15)))),im 29 28,ih 29 30 (.mv (.t 0)),ih 29 31 (.mv (.t 5)),ih 29 32 (.bin .add (.t 31) (ik 1)),ih 29 33 (.ixs (.t 30) (.t 32)),ih 29 34 (.call (jf 22) [.t 33]),ih 29 35 (.bin .gtr (.t 34) (.c (.sc (.int .u8 15)))),io 36 (.pick (.t 29) (ib true) (.t 35))]) (.cond (.t 36) (.seq (.reg [io 2 (.mv (.c (.sc (.string ⟨#[]⟩)))),io 3 (.mv (ib false))]) .ret) .skip)) (.drw [ip (im 37 4),ip (im 38 0),ip (im 39 5),ip (io 40 (.ixs (.t 38) (.t 39))),ip (im 43 0),ip (im 44 5),ip (io 45 (.bin .add (.t 44) (ik 1))),ip (io 46 (.ixs (.t 43) (.t 45))),ip (io 41 (.call (jf 22) [.t 40])),ip (io 42 (.bin .mul (.t 41) (.c (.sc (.int .u8 16))))),ip (io 47 (.call (jf 22) [.t 46])),ip (io 48 (.bin .add (.t 42) (.t 47))),ip (io 49 (.bsl 1 [.t 48])),ip (io 50 (.app 5 1 1 (.t 37) (.t 49))),ip (im 4 50)]))) (.reg [im 22 5,io 23 (.bin .add (.t 22) (ik 2)),im 5 23]))))
def Zq4:Zar:=.seq (.reg [io 2 (.mv (.c (.sc (.string ⟨#[]⟩)))),io 3 (.mv (ib false))]) (.seq (.seq (.reg [im 6 0,io 7 (.call (jf 21) [.t 6])]) (.cond (.t 7) (.seq (.reg [im 8 0,im 2 8,io 3 (.mv (ib true))]) .ret) .skip)) (.seq (.seq (.reg [im 9 0,io 10 (.len true (.t 9)),io 11 (.bin .eql (.t 10) (ik 0)),im 12 11,ih 12 13 (.mv (.t 0)),ih 12 14 (.ixs (.t 13) (ik 0)),ih 12 15 (.bin .neq (.t 14) (.c (.sc (.int .u8 37)))),io 16 (.pick (.t 12) (ib true) (.t 15))]) (.cond (.t 16) (.seq (.reg [io 2 (.mv (.c (.sc (.string ⟨#[]⟩)))),io 3 (.mv (ib false))]) .ret) .skip)) (.seq (.reg [io 4 (.mv jn)]) (.seq (.seq (.reg [jm 5 1]) c9_1) (.seq (.seq (.reg [im 51 4,io 52 (.sob (.t 51)),io 53 (.call (jf 10) [.t 52]),im 54 0,io 55 (.bin .neq (.t 53) (.t 54))]) (.cond (.t 55) (.seq (.reg [io 2 (.mv (.c (.sc (.string ⟨#[]⟩)))),io 3 (.mv (ib false))]) .ret) .skip)) (.seq (.reg [im 56 4,io 57 (.sob (.t 56)),im 2 57,io 3 (.mv (ib true))]) .ret))))))
theorem cf9:cFn Tryz.prog eqT 9=some (Zq4,[(.tmp 2),(.tmp 3)],58):=by kernel_rfl
def c10_1:Zar:=.blk 0 (.loop (.seq (.seq (.reg [im 9 4,im 10 0,io 11 (.len true (.t 10)),io 12 (.bin .lss (.t 9) (.t 11))]) (.cond (.t 12) .skip (.exit 0))) (.seq (.blk 1 (.drw [ip (im 15 3),ip (im 16 0),ip (im 17 4),ip (io 18 (.ixs (.t 16) (.t 17))),ip (io 19 (.bin .quo (.t 18) (.c (.sc (.int .u8 16))))),ip (im 21 0),ip (im 22 4),ip (io 23 (.ixs (.t 21) (.t 22))),ip (io 24 (.bin .rem (.t 23) (.c (.sc (.int .u8 16))))),ip (io 20 (.call (jf 23) [.t 19])),ip (io 25 (.call (jf 23) [.t 24])),ip (io 26 (.bsl 1 [.t 20,.t 25])),ip (io 27 (.app 5 1 1 (.t 15) (.t 26))),ip (im 3 27)])) (.reg [im 13 4,io 14 (.bin .add (.t 13) (ik 1)),im 4 14]))))
def ZkB:Zar:=.seq (.reg [io 2 (.mv (.c (.sc (.string ⟨#[]⟩))))]) (.seq (.seq (.reg [im 5 0,io 6 (.call (jf 21) [.t 5])]) (.cond (.t 6) (.seq (.reg [im 7 0,im 2 7]) .ret) .skip)) (.seq (.reg [io 8 (.bsl 1 [.c (.sc (.int .u8 37))]),im 3 8]) (.seq (.seq (.reg [jm 4 0]) c10_1) (.seq (.reg [im 28 3,io 29 (.sob (.t 28)),im 2 29]) .ret))))
theorem cf10:cFn Tryz.prog eqT 10=some (ZkB,[(.tmp 2)],30):=by kernel_rfl
def ZlE:Zar:=.seq (.reg [io 2 (.box 28 (.c (.agg [.sc (.int .i64 0),.sc (.string ⟨#[]⟩)]))),jm 3 0]) (.seq (.reg [im 10 0,io 11 (.call (jf 24) [.t 10,.c (.sc (.string ⟨#[32]⟩))]),im 4 11]) (.seq (.seq (.reg [im 12 4,io 13 (.ixa 1 (.t 12) (ik 0)),io 14 (.ld 1 false (.t 13)),io 15 (.bin .eql (.t 14) (.c (.sc (.string ⟨#[114,97,119]⟩))))]) (.cond (.t 15) (.seq (.seq (.reg [im 17 4,io 18 (.slc 1 (.t 17) (some (ik 1)) none none),io 19 (.call (jf 25) [.t 18]),im 16 19,io 20 (.ext (.t 16) 0),io 21 (.ext (.t 16) 1),io 5 (.box 28 (.c (.agg [.sc (.int .i64 0),.sc (.string ⟨#[]⟩)]))),iz (.st 2 (.t 5) (.t 20)),im 6 21]) (.seq (.reg [im 22 6]) (.cond (.t 22) (.seq (.reg [io 23 (.ld 2 true (.t 5)),iz (.st 2 (.t 2) (.t 23)),jm 3 0]) .ret) .skip))) (.seq (.reg [io 24 (.bld [.sc (.int .i64 0),.sc (.string ⟨#[]⟩)] []),iz (.st 2 (.t 2) (.t 24)),jm 3 16]) .ret)) .skip)) (.seq (.drw [ip (im 26 4),ip (io 27 (.ixa 1 (.t 26) (ik 0))),ip (io 28 (.ld 1 false (.t 27))),(io 25 (.call (jf 26) []),[io 28 (.ld 1 false (.t 27))]),ip (io 29 (.lkp (.one .str) (.sc (.int .i64 0)) false (.t 25) (.t 28))),ip (im 7 29)]) (.seq (.drw [ip (im 31 7),ip (im 33 4),ip (io 34 (.slc 1 (.t 33) (some (ik 1)) none none)),ip (io 32 (.call (jf 27) [.t 31])),ip (io 35 (.call (.t 32) [.t 34])),ip (im 30 35),ip (io 36 (.ext (.t 30) 0)),ip (io 37 (.ext (.t 30) 1)),ip (im 8 36),ip (im 9 37)]) (.seq (.seq (.reg [im 38 9,io 39 (.un .not (.t 38)),im 40 39,ih 40 41 (.mv (.t 7)),ih 40 42 (.bin .eql (.t 41) (ik 0)),io 43 (.pick (.t 40) (ib true) (.t 42))]) (.cond (.t 43) (.seq (.reg [io 44 (.bld [.sc (.int .i64 0),.sc (.string ⟨#[]⟩)] []),iz (.st 2 (.t 2) (.t 44)),jm 3 16]) .ret) .skip)) (.seq (.reg [im 45 7,im 46 8,io 47 (.bld [.sc (.int .i64 0),.sc (.string ⟨#[]⟩)] [(0,(1,.t 45)),(1,(1,.t 46))]),iz (.st 2 (.t 2) (.t 47)),jm 3 0]) .ret))))))
theorem cf11:cFn Tryz.prog eqT 11=some (ZlE,[(.cell 2 true 2),(.tmp 3)],48):=by kernel_rfl
def c17_1:Zar:=.blk 0 (.loop (.seq (.reg [io 7 (.bin .lss (.t 6) (.t 5))]) (.seq (.cond (.t 7) .skip (.exit 0)) (.seq (.blk 1 (.seq (.reg [im 8 6,im 3 8]) (.seq (.reg [im 9 0,im 10 3,io 11 (.ixs (.t 9) (.t 10)),io 12 (.call (jf 41) [.t 11]),io 13 (.un .not (.t 12))]) (.cond (.t 13) (.seq (.reg [io 2 (.mv (ib false))]) .ret) .skip)))) (.reg [io 14 (.bin .add (.t 6) (ik 1)),im 6 14])))))
def ZqR:Zar:=.seq (.reg [io 2 (.mv (ib false))]) (.seq (.seq (.reg [im 4 0,io 5 (.len true (.t 4)),jm 6 0]) c17_1) (.seq (.reg [im 15 0,io 16 (.bin .neq (.t 15) (.c (.sc (.string ⟨#[]⟩)))),im 2 16]) .ret))
theorem cf17:cFn Tryz.prog eqT 17=some (ZqR,[(.tmp 2)],17):=by kernel_rfl
def Zo4:Zar:=.seq (.reg [io 4 (.mv (.c (.sc .nilIface)))]) (.seq (.reg [im 5 0,io 6 (.call (jf 42) [.t 5])]) (.seq (.reg [im 7 0,im 8 0,io 9 (.nck (.t 8)),io 10 (.fla 1 (.t 9)),io 11 (.ld 1 false (.t 10)),im 12 1,io 13 (.bsl 1 [.t 12]),io 14 (.app 5 1 1 (.t 11) (.t 13)),io 15 (.nck (.t 7)),io 16 (.fla 1 (.t 15)),iz (.st 1 (.t 16) (.t 14))]) (.seq (.reg [io 4 (.mv (.c (.sc .nilIface)))]) .ret)))
theorem cf18:cFn Tryz.prog eqT 18=some (Zo4,[(.tmp 4)],17):=by kernel_rfl
def c21_1:Zar:=.blk 0 (.loop (.seq (.seq (.reg [im 5 3,im 6 0,io 7 (.len true (.t 6)),io 8 (.bin .lss (.t 5) (.t 7))]) (.cond (.t 8) .skip (.exit 0))) (.seq (.blk 1 (.seq (.reg [im 11 0,im 12 3,io 13 (.ixs (.t 11) (.t 12)),im 4 13]) (.seq (.reg [im 14 4,io 15 (.bin .geq (.t 14) (.c (.sc (.int .u8 97)))),im 16 15,ig 16 17 (.mv (.t 4)),ig 16 18 (.bin .leq (.t 17) (.c (.sc (.int .u8 122)))),io 19 (.pick (.t 16) (.t 18) (ib false)),im 20 19,ih 20 21 (.mv (.t 4)),ih 20 22 (.bin .geq (.t 21) (.c (.sc (.int .u8 48)))),ih 20 23 (.mv (.t 22)),ig 23 24 (.mv (.t 4)),ig 23 25 (.bin .leq (.t 24) (.c (.sc (.int .u8 57)))),ih 20 26 (.pick (.t 23) (.t 25) (ib false)),io 27 (.pick (.t 20) (ib true) (.t 26)),im 28 27,ih 28 29 (.mv (.t 4)),ih 28 30 (.bin .eql (.t 29) (.c (.sc (.int .u8 95)))),io 31 (.pick (.t 28) (ib true) (.t 30)),io 32 (.un .not (.t 31))]) (.cond (.t 32) (.seq (.reg [io 2 (.mv (ib false))]) .ret) .skip)))) (.reg [im 9 3,io 10 (.bin .add (.t 9) (ik 1)),im 3 10]))))
def Zeb:Zar:=.seq (.reg [io 2 (.mv (ib false))]) (.seq (.seq (.reg [jm 3 0]) c21_1) (.seq (.reg [im 33 0,io 34 (.len true (.t 33)),io 35 (.bin .gtr (.t 34) (ik 0)),im 2 35]) .ret))
theorem cf21:cFn Tryz.prog eqT 21=some (Zeb,[(.tmp 2)],36):=by kernel_rfl
def c22_1:Zar:=.blk 0 (.loop (.seq (.seq (.reg [im 4 3,io 5 (.bin .lss (.t 4) (.c (.sc (.int .u8 16))))]) (.cond (.t 5) .skip (.exit 0))) (.seq (.blk 1 (.seq (.reg [im 8 3,io 9 (.call (jf 23) [.t 8]),im 10 0,io 11 (.bin .eql (.t 9) (.t 10))]) (.cond (.t 11) (.seq (.reg [im 12 3,im 2 12]) .ret) .skip))) (.reg [im 6 3,io 7 (.bin .add (.t 6) (.c (.sc (.int .u8 1)))),im 3 7]))))
def Zg5:Zar:=.seq (.reg [io 2 (.mv (.c (.sc (.int .u8 0))))]) (.seq (.seq (.reg [io 3 (.mv (.c (.sc (.int .u8 0))))]) c22_1) (.seq (.reg [io 2 (.mv (.c (.sc (.int .u8 16))))]) .ret))
theorem cf22:cFn Tryz.prog eqT 22=some (Zg5,[(.tmp 2)],13):=by kernel_rfl
def Zga:Zar:=.seq (.reg [io 2 (.mv (.c (.sc (.int .u8 0))))]) (.seq (.seq (.reg [im 3 0,io 4 (.bin .lss (.t 3) (.c (.sc (.int .u8 10))))]) (.cond (.t 4) (.seq (.reg [im 5 0,io 6 (.bin .add (.c (.sc (.int .u8 48))) (.t 5)),im 2 6]) .ret) .skip)) (.seq (.reg [im 7 0,io 8 (.bin .add (.c (.sc (.int .u8 97))) (.t 7)),io 9 (.bin .sub (.t 8) (.c (.sc (.int .u8 10)))),im 2 9]) .ret))
theorem cf23:cFn Tryz.prog eqT 23=some (Zga,[(.tmp 2)],10):=by kernel_rfl
def ZuT:Zar:=.seq (.reg [io 4 (.mv jn)]) (.seq (.reg [im 5 0,im 6 1,io 7 (.call (jf 44) [.t 5,.t 6,ik 0,ik (-1)]),im 4 7]) .ret)
theorem cf24:cFn Tryz.prog eqT 24=some (ZuT,[(.tmp 4)],8):=by kernel_rfl
def Zlu:Zar:=.seq (.reg [io 2 (.box 28 (.c (.agg [.sc (.int .i64 0),.sc (.string ⟨#[]⟩)]))),io 3 (.mv (ib false))]) (.seq (.seq (.reg [im 8 0,io 9 (.len false (.t 8)),io 10 (.bin .neq (.t 9) (ik 2))]) (.cond (.t 10) (.seq (.reg [io 11 (.bld [.sc (.int .i64 0),.sc (.string ⟨#[]⟩)] []),iz (.st 2 (.t 2) (.t 11)),io 3 (.mv (ib false))]) .ret) .skip)) (.seq (.reg [im 13 0,io 14 (.ixa 1 (.t 13) (ik 0)),io 15 (.ld 1 false (.t 14)),io 16 (.call (jf 45) [.t 15]),im 12 16,io 17 (.ext (.t 12) 0),io 18 (.ext (.t 12) 1),im 4 17,im 5 18]) (.seq (.reg [im 20 0,io 21 (.ixa 1 (.t 20) (ik 1)),io 22 (.ld 1 false (.t 21)),io 23 (.call (jf 8) [.t 22]),im 19 23,io 24 (.ext (.t 19) 0),io 25 (.ext (.t 19) 1),im 6 24,im 7 25]) (.seq (.reg [im 26 4,im 27 6,io 28 (.bld [.sc (.int .i64 0),.sc (.string ⟨#[]⟩)] [(0,(1,.t 26)),(1,(1,.t 27))]),im 29 5,im 30 29,ig 30 31 (.mv (.t 7)),io 32 (.pick (.t 30) (.t 31) (ib false)),iz (.st 2 (.t 2) (.t 28)),im 3 32]) .ret))))
theorem cf25:cFn Tryz.prog eqT 25=some (Zlu,[(.cell 2 true 2),(.tmp 3)],33):=by kernel_rfl
def c26_0:Zar:=.seq (.reg [io 0 (.mv (.c (.sc (.map none))))]) (.seq (.reg [io 1 (.mkm (.one .str)),iz (.mup (.one .str) (.t 1) (.c (.sc (.string ⟨#[99,114,101,97,116,101]⟩))) (ik 1)),iz (.mup (.one .str) (.t 1) (.c (.sc (.string ⟨#[108,111,97,100]⟩))) (ik 2)),iz (.mup (.one .str) (.t 1) (.c (.sc (.string ⟨#[109,101,114,103,101]⟩))) (ik 3)),iz (.mup (.one .str) (.t 1) (.c (.sc (.string ⟨#[114,101,98,117,105,108,100]⟩))) (ik 4)),iz (.mup (.one .str) (.t 1) (.c (.sc (.string ⟨#[97,115,107]⟩))) (ik 5)),iz (.mup (.one .str) (.t 1) (.c (.sc (.string ⟨#[115,116,97,116,115]⟩))) (ik 6)),iz (.mup (.one .str) (.t 1) (.c (.sc (.string ⟨#[99,108,111,115,101]⟩))) (ik 7)),im 2 1,im 0 2]) .ret)
theorem cf26:cFn Tryz.prog eqT 26=some (c26_0,[(.tmp 0)],3):=by kernel_rfl
def Zdp:Zar:=.seq (.reg [io 2 (.mv (.c (.sc .nilFunc)))]) (.seq (.seq (.reg [im 3 0]) (.blk 0 (.seq (.reg [io 5 (.bin .eql (.t 3) (ik 1)),im 4 5]) (.cond (.t 4) (.seq (.reg [io 2 (.mv (jf 46))]) .ret) (.seq (.seq (.reg [io 7 (.bin .eql (.t 3) (ik 2)),im 6 7]) (.cond (.t 6) .skip (.reg [io 8 (.bin .eql (.t 3) (ik 3)),im 6 8]))) (.cond (.t 6) (.seq (.reg [io 2 (.mv (jf 47))]) .ret) (.seq (.reg [io 10 (.bin .eql (.t 3) (ik 5)),im 9 10]) (.cond (.t 9) (.seq (.reg [io 2 (.mv (jf 48))]) .ret) .skip)))))))) (.seq (.reg [io 2 (.mv (jf 49))]) .ret))
theorem cf27:cFn Tryz.prog eqT 27=some (Zdp,[(.tmp 2)],11):=by kernel_rfl
def c33_0:Zar:=.seq (.reg [io 2 (.mv (.c (.sc (.string ⟨#[]⟩))))]) (.seq (.reg [im 3 0,io 4 (.call (jf 58) [.t 3]),im 2 4]) .ret)
theorem cf33:cFn Tryz.prog eqT 33=some (c33_0,[(.tmp 2)],5):=by kernel_rfl
def Zvl:Zar:=.seq (.reg [io 4 (.mv (.c (.sc (.string ⟨#[]⟩))))]) (.seq (.reg [im 5 0,im 6 1,io 7 (.call (jf 59) [.t 5,.t 6]),im 4 7]) .ret)
theorem cf35:cFn Tryz.prog eqT 35=some (Zvl,[(.tmp 4)],8):=by kernel_rfl
def Ztz:Zar:=.seq (.reg [io 2 (.mv (.c (.sc (.string ⟨#[]⟩))))]) (.seq (.reg [im 3 0,io 4 (.call (jf 35) [.t 3,ik 10]),im 2 4]) .ret)
theorem cf38:cFn Tryz.prog eqT 38=some (Ztz,[(.tmp 2)],5):=by kernel_rfl
def ZsN:Zar:=.seq (.reg [io 2 (.mv (ib false))]) (.seq (.reg [im 3 0,io 4 (.bin .leq (.c (.sc (.int .u8 97))) (.t 3)),im 5 4,ig 5 6 (.mv (.t 0)),ig 5 7 (.bin .leq (.t 6) (.c (.sc (.int .u8 122)))),io 8 (.pick (.t 5) (.t 7) (ib false)),im 9 8,ih 9 10 (.mv (.t 0)),ih 9 11 (.bin .leq (.c (.sc (.int .u8 48))) (.t 10)),ih 9 12 (.mv (.t 11)),ig 12 13 (.mv (.t 0)),ig 12 14 (.bin .leq (.t 13) (.c (.sc (.int .u8 57)))),ih 9 15 (.pick (.t 12) (.t 14) (ib false)),io 16 (.pick (.t 9) (ib true) (.t 15)),im 17 16,ih 17 18 (.mv (.t 0)),ih 17 19 (.bin .eql (.t 18) (.c (.sc (.int .u8 95)))),io 20 (.pick (.t 17) (ib true) (.t 19)),im 2 20]) .ret)
theorem cf41:cFn Tryz.prog eqT 41=some (ZsN,[(.tmp 2)],21):=by kernel_rfl
def c44_1:Zar:=.blk 0 (.loop (.seq (.seq (.reg [im 34 10,im 35 3,io 36 (.bin .lss (.t 34) (.t 35))]) (.cond (.t 36) .skip (.exit 0))) (.blk 1 (.seq (.reg [im 37 0,im 38 1,io 39 (.call (jf 66) [.t 37,.t 38]),im 11 39]) (.seq (.seq (.reg [im 40 11,io 41 (.bin .lss (.t 40) (ik 0))]) (.cond (.t 41) (.exit 0) .skip)) (.seq (.reg [im 42 9,im 43 10,im 44 0,im 45 11,im 46 2,io 47 (.bin .add (.t 45) (.t 46)),io 48 (.slS (.t 44) none (some (.t 47))),io 49 (.ixa 1 (.t 42) (.t 43)),iz (.st 1 (.t 49) (.t 48))]) (.seq (.reg [im 50 0,im 51 11,im 52 1,io 53 (.len true (.t 52)),io 54 (.bin .add (.t 51) (.t 53)),io 55 (.slS (.t 50) (some (.t 54)) none),im 0 55]) (.reg [im 56 10,io 57 (.bin .add (.t 56) (ik 1)),im 10 57]))))))))
def c44_0:Zar:=.seq (.reg [io 8 (.mv jn)]) (.seq (.seq (.reg [im 12 3,io 13 (.bin .eql (.t 12) (ik 0))]) (.cond (.t 13) (.seq (.reg [io 8 (.mv jn)]) .ret) .skip)) (.seq (.seq (.reg [im 14 1,io 15 (.bin .eql (.t 14) (.c (.sc (.string ⟨#[]⟩))))]) (.cond (.t 15) (.seq (.reg [im 16 0,im 17 3,io 18 (.call (jf 64) [.t 16,.t 17]),im 8 18]) .ret) .skip)) (.seq (.seq (.reg [im 19 3,io 20 (.bin .lss (.t 19) (ik 0))]) (.cond (.t 20) (.reg [im 21 0,im 22 1,io 23 (.call (jf 65) [.t 21,.t 22]),io 24 (.bin .add (.t 23) (ik 1)),im 3 24]) .skip)) (.seq (.reg [im 25 3,im 26 0,io 27 (.len true (.t 26)),io 28 (.bin .add (.t 27) (ik 1)),io 29 (.mm false (.t 25) (.t 28)),im 3 29]) (.seq (.reg [im 30 3,io 31 (.mks 9 1 16 [.sc (.string ⟨#[]⟩)] (.t 30) (.t 30)),im 9 31]) (.seq (.reg [im 32 3,io 33 (.bin .sub (.t 32) (ik 1)),im 3 33]) (.seq (.reg [jm 10 0]) (.seq c44_1 (.seq (.reg [im 58 9,im 59 10,im 60 0,io 61 (.ixa 1 (.t 58) (.t 59)),iz (.st 1 (.t 61) (.t 60))]) (.seq (.reg [im 62 9,im 63 10,io 64 (.bin .add (.t 63) (ik 1)),io 65 (.slc 1 (.t 62) none (some (.t 64)) none),im 8 65]) .ret))))))))))
theorem cf44:cFn Tryz.prog eqT 44=some (c44_0,[(.tmp 8)],66):=by kernel_rfl
def Zq5:Zar:=.seq (.reg [jm 2 0,io 3 (.mv (ib false))]) (.seq (.reg [im 7 0,io 8 (.call (jf 67) [.t 7,ik 10,ik 64]),im 6 8,io 9 (.ext (.t 6) 0),io 10 (.ext (.t 6) 1),im 4 9,im 5 10]) (.seq (.reg [im 11 4,im 12 5,io 13 (.eqn 3 false (.t 12) (.c (.sc .nilIface))),im 14 13,ig 14 15 (.mv (.t 4)),ig 14 16 (.call (jf 38) [.t 15]),ig 14 17 (.mv (.t 0)),ig 14 18 (.bin .eql (.t 16) (.t 17)),io 19 (.pick (.t 14) (.t 18) (ib false)),im 2 11,im 3 19]) .ret))
theorem cf45:cFn Tryz.prog eqT 45=some (Zq5,[(.tmp 2),(.tmp 3)],20):=by kernel_rfl
def c46_1:Zar:=.blk 0 (.loop (.seq (.reg [io 12 (.bin .lss (.t 11) (.t 10))]) (.seq (.cond (.t 12) .skip (.exit 0)) (.seq (.blk 1 (.seq (.reg [io 13 (.ixa 1 (.t 9) (.t 11)),io 14 (.ld 1 false (.t 13)),im 6 14]) (.seq (.reg [im 15 6,io 16 (.call (jf 68) [.t 4,.t 15]),io 17 (.un .not (.t 16))]) (.cond (.t 17) (.seq (.reg [io 2 (.mv (.c (.sc (.string ⟨#[]⟩)))),io 3 (.mv (ib false))]) .ret) .skip)))) (.reg [io 18 (.bin .add (.t 11) (ik 1)),im 11 18])))))
def ZrM:Zar:=.seq (.reg [io 2 (.mv (.c (.sc (.string ⟨#[]⟩)))),io 3 (.mv (ib false))]) (.seq (.reg [io 4 (.box 76 (.c (.agg [.sl .full [],.sl .full []])))]) (.seq (.seq (.reg [im 9 0,io 10 (.len false (.t 9)),jm 11 0]) c46_1) (.seq (.reg [io 20 (.ld 2 true (.t 4)),io 21 (.call (jf 69) [.t 20]),im 19 21,io 22 (.ext (.t 19) 0),io 23 (.ext (.t 19) 1),im 7 22,im 8 23]) (.seq (.reg [im 24 7,im 25 8,io 26 (.bin .eql (.t 25) (ik 0)),im 27 26,ig 27 28 (.ld 2 true (.t 4)),ig 27 29 (.call (jf 71) [.t 28]),ig 27 30 (.mv (.t 0)),ig 27 31 (.call (jf 70) [.t 29,.t 30]),io 32 (.pick (.t 27) (.t 31) (ib false)),im 2 24,im 3 32]) .ret))))
theorem cf46:cFn Tryz.prog eqT 46=some (ZrM,[(.tmp 2),(.tmp 3)],33):=by kernel_rfl
def c47_2:Zar:=.blk 2 (.loop (.seq (.reg [io 46 (.bin .lss (.t 45) (.t 44))]) (.seq (.cond (.t 46) .skip (.exit 2)) (.seq (.blk 3 (.seq (.reg [io 47 (.ixa 1 (.t 43) (.t 45)),io 48 (.ld 1 false (.t 47)),im 13 48]) (.drw [ip (io 49 (.ld 1 false (.t 4))),ip (im 50 13),(io 51 (.call (jf 75) [.t 50]),[io 49 (.ld 1 false (.t 4))]),ip (io 52 (.bin .add (.t 49) (.t 51))),ip (iz (.st 1 (.t 4) (.t 52)))]))) (.reg [io 53 (.bin .add (.t 45) (ik 1)),im 45 53])))))
def c47_1:Zar:=.blk 0 (.loop (.seq (.reg [io 23 (.bin .lss (.t 22) (.t 21))]) (.seq (.cond (.t 23) .skip (.exit 0)) (.seq (.blk 1 (.seq (.reg [io 24 (.ixa 1 (.t 20) (.t 22)),io 25 (.ld 1 false (.t 24)),im 6 25]) (.seq (.reg [im 27 6,io 28 (.call (jf 73) [.t 27,.c (.sc (.string ⟨#[61]⟩))]),im 26 28,io 29 (.ext (.t 26) 0),io 30 (.ext (.t 26) 1),io 31 (.ext (.t 26) 2),im 7 29,im 8 30,im 9 31]) (.seq (.reg [im 33 7,io 34 (.call (jf 74) [.t 33]),im 32 34,io 35 (.ext (.t 32) 0),io 36 (.ext (.t 32) 1),im 10 35,im 11 36]) (.seq (.seq (.reg [im 37 9,io 38 (.un .not (.t 37)),im 39 38,ih 39 40 (.mv (.t 11)),ih 39 41 (.un .not (.t 40)),io 42 (.pick (.t 39) (ib true) (.t 41))]) (.cond (.t 42) (.seq (.reg [iz (.st 1 (.t 2) (.c (.sc (.string ⟨#[]⟩)))),iz (.st 1 (.t 3) (ib false))]) .ret) .skip)) (.seq (.seq (.reg [im 43 10,io 44 (.len false (.t 43)),jm 45 0]) c47_2) (.seq (.seq (.reg [im 54 8,io 55 (.bin .eql (.t 54) (.c (.sc (.string ⟨#[]⟩))))]) (.cond (.t 55) (.exit 1) .skip)) (.seq (.reg [im 56 8,io 57 (.call (jf 76) [.t 56,.c (.sc (.string ⟨#[44]⟩))])]) (.blk 4 (.rf (.t 57) [58] (.reg [im 14 58]) (.blk 5 (.seq (.reg [im 60 14,io 61 (.call (jf 45) [.t 60]),im 59 61,io 62 (.ext (.t 59) 0),io 63 (.ext (.t 59) 1),im 15 62,im 16 63]) (.seq (.seq (.reg [im 64 16,io 65 (.un .not (.t 64))]) (.cond (.t 65) (.seq (.reg [iz (.st 1 (.t 2) (.c (.sc (.string ⟨#[]⟩)))),iz (.st 1 (.t 3) (ib false))]) .ret) .skip)) (.drw [ip (io 66 (.ld 1 false (.t 4))),ip (im 67 15),(io 68 (.call (jf 77) [.t 67]),[io 66 (.ld 1 false (.t 4))]),ip (io 69 (.bin .add (.t 66) (.t 68))),ip (iz (.st 1 (.t 4) (.t 69)))])))))))))))))) (.reg [io 70 (.bin .add (.t 22) (ik 1)),im 22 70])))))
def c47_0:Zar:=.seq (.reg [io 2 (.box 9 (.c (.sc (.string ⟨#[]⟩)))),io 3 (.box 4 (ib false))]) (.seq (.reg [im 17 0,io 18 (.len false (.t 17)),io 19 (.call (jf 72) [.t 18]),io 4 (.box 9 (.c (.sc (.string ⟨#[]⟩)))),iz (.st 1 (.t 4) (.t 19))]) (.seq (.seq (.reg [im 20 0,io 21 (.len false (.t 20)),jm 22 0]) c47_1) (.seq (.reg [io 71 (.ld 1 false (.t 4)),iz (.st 1 (.t 2) (.t 71)),iz (.st 1 (.t 3) (ib true))]) .ret)))
theorem cf47:cFn Tryz.prog eqT 47=some (c47_0,[(.cell 1 false 2),(.cell 1 false 3)],72):=by kernel_rfl
def c48_1:Zar:=.blk 0 (.loop (.seq (.reg [io 17 (.bin .lss (.t 16) (.t 15))]) (.seq (.cond (.t 17) .skip (.exit 0)) (.seq (.blk 1 (.seq (.reg [io 18 (.ixa 1 (.t 14) (.t 16)),io 19 (.ld 1 false (.t 18)),im 6 19]) (.seq (.reg [im 21 6,io 22 (.call (jf 73) [.t 21,.c (.sc (.string ⟨#[47]⟩))]),im 20 22,io 23 (.ext (.t 20) 0),io 24 (.ext (.t 20) 1),io 25 (.ext (.t 20) 2),im 7 23,im 8 24,im 9 25]) (.seq (.reg [im 27 7,io 28 (.call (jf 78) [.t 27]),im 26 28,io 29 (.ext (.t 26) 0),io 30 (.ext (.t 26) 1),im 10 29,im 11 30]) (.seq (.seq (.reg [im 31 11,io 32 (.un .not (.t 31))]) (.cond (.t 32) (.seq (.reg [io 2 (.mv (.c (.sc (.string ⟨#[]⟩)))),io 3 (.mv (ib false))]) .ret) .skip)) (.seq (.reg [im 34 8,io 35 (.call (jf 79) [.t 34]),im 33 35,io 36 (.ext (.t 33) 0),io 37 (.ext (.t 33) 1),im 12 36,im 13 37]) (.seq (.seq (.reg [im 38 9,im 39 13,io 40 (.bnb true (.t 38) (.t 39))]) (.cond (.t 40) (.seq (.reg [io 2 (.mv (.c (.sc (.string ⟨#[]⟩)))),io 3 (.mv (ib false))]) .ret) .skip)) (.seq (.seq (.reg [im 41 9]) (.cond (.t 41) (.reg [im 42 12,io 43 (.bin .add (.t 42) (ik 1)),im 12 43]) .skip)) (.reg [im 44 4,im 45 10,im 46 12,io 47 (.call (jf 72) [.t 46]),io 48 (.bin .add (.t 45) (.t 47)),io 49 (.bin .add (.t 44) (.t 48)),im 4 49]))))))))) (.reg [io 50 (.bin .add (.t 16) (ik 1)),im 16 50])))))
def ZeF:Zar:=.seq (.reg [io 2 (.mv (.c (.sc (.string ⟨#[]⟩)))),io 3 (.mv (ib false))]) (.seq (.reg [io 4 (.mv (.c (.sc (.string ⟨#[]⟩))))]) (.seq (.seq (.reg [im 14 0,io 15 (.len false (.t 14)),jm 16 0]) c48_1) (.seq (.reg [im 51 4,im 2 51,io 3 (.mv (ib true))]) .ret)))
theorem cf48:cFn Tryz.prog eqT 48=some (ZeF,[(.tmp 2),(.tmp 3)],52):=by kernel_rfl
def ZmE:Zar:=.seq (.reg [io 2 (.mv (.c (.sc (.string ⟨#[]⟩)))),io 3 (.mv (ib false))]) (.seq (.reg [im 4 0,io 5 (.len false (.t 4)),io 6 (.bin .eql (.t 5) (ik 0)),io 2 (.mv (.c (.sc (.string ⟨#[]⟩)))),im 3 6]) .ret)
theorem cf49:cFn Tryz.prog eqT 49=some (ZmE,[(.tmp 2),(.tmp 3)],7):=by kernel_rfl
def ZtC:Zar:=.seq (.reg [io 2 (.mv (.c (.sc (.string ⟨#[]⟩))))]) (.seq (.reg [im 3 0,io 4 (.call (jf 59) [.t 3,ik 10]),im 2 4]) .ret)
theorem cf58:cFn Tryz.prog eqT 58=some (ZtC,[(.tmp 2)],5):=by kernel_rfl
def Zqj:Zar:=.seq (.reg [io 4 (.mv (.c (.sc (.string ⟨#[]⟩))))]) (.seq (.seq (.reg [im 10 1,io 11 (.bin .eql (.t 10) (ik 10))]) (.cond (.t 11) (.seq (.seq (.reg [im 12 0,io 13 (.bin .leq (ik 0) (.t 12)),im 14 13,ig 14 15 (.mv (.t 0)),ig 14 16 (.bin .lss (.t 15) (ik 100)),io 17 (.pick (.t 14) (.t 16) (ib false))]) (.cond (.t 17) (.seq (.reg [im 18 0,io 19 (.call (jf 95) [.t 18]),im 4 19]) .ret) .skip)) (.seq (.reg [io 5 (.box 139 (.c za0))]) (.seq (.reg [im 20 0,io 21 (.cnv .u64 (.t 20)),im 6 21]) (.seq (.seq (.reg [im 22 0,io 23 (.bin .lss (.t 22) (ik 0))]) (.cond (.t 23) (.reg [im 24 6,io 25 (.un .neg (.t 24)),im 6 25]) .skip)) (.seq (.reg [im 26 6,io 27 (.call (jf 96) [.t 26]),im 7 27]) (.seq (.reg [im 28 7,io 29 (.bin .add (ik 1) (.t 28)),io 30 (.sla 24 1 (.t 5) (some (ik 1)) (some (.t 29)) none),im 31 6,io 32 (.call (jf 97) [.t 30,.t 31])]) (.seq (.seq (.reg [im 33 0,io 34 (.bin .lss (.t 33) (ik 0))]) (.cond (.t 34) (.seq (.reg [io 35 (.ixA 24 1 (.t 5) (ik 0)),iz (.st 1 (.t 35) (.c (.sc (.int .u8 45))))]) (.seq (.reg [im 36 7,io 37 (.bin .add (ik 1) (.t 36)),io 38 (.sla 24 1 (.t 5) none (some (.t 37)) none),io 39 (.sob (.t 38)),im 4 39]) .ret)) .skip)) (.seq (.reg [im 40 7,io 41 (.bin .add (ik 1) (.t 40)),io 42 (.sla 24 1 (.t 5) (some (ik 1)) (some (.t 41)) none),io 43 (.sob (.t 42)),im 4 43]) .ret)))))))) .skip)) (.seq (.reg [im 45 0,io 46 (.cnv .u64 (.t 45)),im 47 1,im 48 0,io 49 (.bin .lss (.t 48) (ik 0)),io 50 (.call (jf 98) [jn,.t 46,.t 47,.t 49,ib false]),im 44 50,io 51 (.ext (.t 44) 0),io 52 (.ext (.t 44) 1),im 8 51,im 9 52]) (.seq (.reg [im 53 9,im 4 53]) .ret)))
theorem cf59:cFn Tryz.prog eqT 59=some (Zqj,[(.tmp 4)],54):=by kernel_rfl
def c64_1:Zar:=.blk 0 (.loop (.seq (.seq (.reg [im 22 7,im 23 1,io 24 (.bin .sub (.t 23) (ik 1)),io 25 (.bin .lss (.t 22) (.t 24))]) (.cond (.t 25) .skip (.exit 0))) (.seq (.blk 1 (.seq (.reg [im 29 0,io 30 (.call (jf 101) [.t 29]),im 28 30,io 31 (.ext (.t 28) 0),io 32 (.ext (.t 28) 1),im 8 31,im 9 32]) (.seq (.reg [im 33 6,im 34 7,im 35 0,im 36 9,io 37 (.slS (.t 35) none (some (.t 36))),io 38 (.ixa 1 (.t 33) (.t 34)),iz (.st 1 (.t 38) (.t 37))]) (.reg [im 39 0,im 40 9,io 41 (.slS (.t 39) (some (.t 40)) none),im 0 41])))) (.reg [im 26 7,io 27 (.bin .add (.t 26) (ik 1)),im 7 27]))))
def ZoS:Zar:=.seq (.reg [io 4 (.mv jn)]) (.seq (.reg [im 10 0,io 11 (.call (jf 100) [.t 10]),im 5 11]) (.seq (.seq (.reg [im 12 1,io 13 (.bin .lss (.t 12) (ik 0)),im 14 13,ih 14 15 (.mv (.t 1)),ih 14 16 (.mv (.t 5)),ih 14 17 (.bin .gtr (.t 15) (.t 16)),io 18 (.pick (.t 14) (ib true) (.t 17))]) (.cond (.t 18) (.reg [im 19 5,im 1 19]) .skip)) (.seq (.reg [im 20 1,io 21 (.mks 9 1 16 [.sc (.string ⟨#[]⟩)] (.t 20) (.t 20)),im 6 21]) (.seq (.seq (.reg [jm 7 0]) c64_1) (.seq (.seq (.reg [im 42 1,io 43 (.bin .gtr (.t 42) (ik 0))]) (.cond (.t 43) (.reg [im 44 6,im 45 1,io 46 (.bin .sub (.t 45) (ik 1)),im 47 0,io 48 (.ixa 1 (.t 44) (.t 46)),iz (.st 1 (.t 48) (.t 47))]) .skip)) (.seq (.reg [im 49 6,im 4 49]) .ret))))))
theorem cf64:cFn Tryz.prog eqT 64=some (ZoS,[(.tmp 4)],50):=by kernel_rfl
def Zks:Zar:=.seq (.reg [jm 6 0,io 7 (.mv (.c (.sc .nilIface)))]) (.seq (.reg [im 10 0,im 11 1,im 12 2,io 13 (.call (jf 104) [.t 10,.t 11,.t 12]),im 9 13,io 14 (.ext (.t 9) 0),io 15 (.ext (.t 9) 1),im 8 14,im 7 15]) (.seq (.seq (.reg [im 16 7,io 17 (.eqn 3 true (.t 16) (.c (.sc .nilIface)))]) (.cond (.t 17) (.seq (.reg [im 18 8,im 19 0,im 20 1,im 21 2,im 22 7,io 23 (.call (jf 105) [.c (.sc (.string ⟨#[80,97,114,115,101,73,110,116]⟩)),.t 19,.t 20,.t 21,.t 22]),im 6 18,im 7 23]) .ret) .skip)) (.seq (.reg [im 24 8,im 6 24,io 7 (.mv (.c (.sc .nilIface)))]) .ret)))
theorem cf67:cFn Tryz.prog eqT 67=some (Zks,[(.tmp 6),(.tmp 7)],25):=by kernel_rfl
def ZiL:Zar:=.seq (.reg [io 4 (.mv (ib false))]) (.seq (.seq (.reg [im 7 1,io 8 (.bin .eql (.t 7) (.c (.sc (.string ⟨#[]⟩))))]) (.cond (.t 8) (.seq (.reg [io 4 (.mv (ib false))]) .ret) .skip)) (.seq (.reg [im 9 1,io 10 (.slS (.t 9) (some (ik 1)) none),im 5 10]) (.seq (.seq (.reg [im 11 1,io 12 (.ixs (.t 11) (ik 0))]) (.blk 0 (.seq (.reg [io 14 (.bin .eql (.t 12) (.c (.sc (.int .u8 64)))),im 13 14]) (.cond (.t 13) (.seq (.reg [im 15 0,im 16 0,io 17 (.nck (.t 16)),io 18 (.fla 0 (.t 17)),io 19 (.ld 1 false (.t 18)),im 20 5,io 21 (.bld [.sc (.string ⟨#[]⟩),.sl .full []] [(0,(1,.t 20))]),io 22 (.bsl 2 [.t 21]),io 23 (.app 100 2 40 (.t 19) (.t 22)),io 24 (.nck (.t 15)),io 25 (.fla 0 (.t 24)),iz (.st 1 (.t 25) (.t 23))]) (.seq (.reg [io 4 (.mv (ib true))]) .ret)) (.seq (.reg [io 27 (.bin .eql (.t 12) (.c (.sc (.int .u8 43)))),im 26 27]) (.cond (.t 26) (.seq (.reg [im 28 0,im 29 0,io 30 (.nck (.t 29)),io 31 (.fla 1 (.t 30)),io 32 (.ld 1 false (.t 31)),im 33 5,io 34 (.bsl 1 [.t 33]),io 35 (.app 9 1 16 (.t 32) (.t 34)),io 36 (.nck (.t 28)),io 37 (.fla 1 (.t 36)),iz (.st 1 (.t 37) (.t 35))]) (.seq (.reg [io 4 (.mv (ib true))]) .ret)) .skip)))))) (.seq (.seq (.reg [im 38 0,io 39 (.nck (.t 38)),io 40 (.fla 0 (.t 39)),io 41 (.ld 1 false (.t 40)),io 42 (.len false (.t 41)),io 43 (.bin .eql (.t 42) (ik 0))]) (.cond (.t 43) (.seq (.reg [io 4 (.mv (ib false))]) .ret) .skip)) (.seq (.drw [ip (im 44 0),ip (io 45 (.nck (.t 44))),ip (io 46 (.fla 0 (.t 45))),ip (io 47 (.ld 1 false (.t 46))),ip (im 48 0),ip (io 49 (.nck (.t 48))),ip (io 50 (.fla 0 (.t 49))),ip (io 51 (.ld 1 false (.t 50))),ip (io 52 (.len false (.t 51))),ip (io 53 (.bin .sub (.t 52) (ik 1))),ip (io 54 (.ixa 2 (.t 47) (.t 53))),ip (im 6 54)]) (.seq (.blk 1 (.seq (.reg [im 56 1,io 57 (.ixs (.t 56) (ik 0)),io 58 (.bin .eql (.t 57) (.c (.sc (.int .u8 94)))),im 55 58]) (.cond (.t 55) (.seq (.reg [im 59 6,im 60 6,io 61 (.nck (.t 60)),io 62 (.fla 1 (.t 61)),io 63 (.ld 1 false (.t 62)),im 64 5,io 65 (.bld [.sc (.string ⟨#[]⟩),.sl .full [],.sl .full []] [(0,(1,.t 64))]),io 66 (.bsl 3 [.t 65]),io 67 (.call (jf 106) [.t 63,ik 0,.t 66]),io 68 (.nck (.t 59)),io 69 (.fla 1 (.t 68)),iz (.st 1 (.t 69) (.t 67))]) (.seq (.reg [io 4 (.mv (ib true))]) .ret)) (.seq (.reg [im 71 1,io 72 (.ixs (.t 71) (ik 0)),io 73 (.bin .neq (.t 72) (.c (.sc (.int .u8 46)))),im 74 73,ih 74 75 (.mv (.t 6)),ih 74 76 (.nck (.t 75)),ih 74 77 (.fla 1 (.t 76)),ih 74 78 (.ld 1 false (.t 77)),ih 74 79 (.len false (.t 78)),ih 74 80 (.bin .eql (.t 79) (ik 0)),io 81 (.pick (.t 74) (ib true) (.t 80)),im 70 81]) (.cond (.t 70) (.seq (.reg [io 4 (.mv (ib false))]) .ret) (.seq (.reg [im 83 6,io 84 (.nck (.t 83)),io 85 (.fla 1 (.t 84)),io 86 (.ld 1 false (.t 85)),io 87 (.len false (.t 86)),io 88 (.bin .eql (.t 87) (ik 1)),im 82 88]) (.cond (.t 82) (.seq (.reg [im 89 6,io 90 (.nck (.t 89)),io 91 (.fla 1 (.t 90)),io 92 (.ld 1 false (.t 91)),io 93 (.ixa 3 (.t 92) (ik 0)),im 94 5,io 95 (.call (jf 107) [.t 93,.t 94,jn]),im 4 95]) .ret) .skip))))))) (.seq (.drw [ip (im 96 6),ip (io 97 (.nck (.t 96))),ip (io 98 (.fla 1 (.t 97))),ip (io 99 (.ld 1 false (.t 98))),ip (io 100 (.ixa 3 (.t 99) (ik 0))),ip (im 101 5),ip (im 102 6),ip (io 103 (.nck (.t 102))),ip (io 104 (.fla 1 (.t 103))),ip (io 105 (.ld 1 false (.t 104))),ip (io 106 (.ixa 3 (.t 105) (ik 1))),ip (io 107 (.fla 1 (.t 106))),ip (io 108 (.ld 1 false (.t 107))),ip (io 109 (.call (jf 107) [.t 100,.t 101,.t 108])),ip (im 4 109)]) .ret)))))))
theorem cf68:cFn Tryz.prog eqT 68=some (ZiL,[(.tmp 4)],110):=by kernel_rfl
def c69_1:Zar:=.blk 0 (.loop (.seq (.reg [io 25 (.bin .lss (.t 24) (.t 23))]) (.seq (.cond (.t 25) .skip (.exit 0)) (.seq (.blk 1 (.seq (.reg [io 26 (.ixa 2 (.t 22) (.t 24)),io 27 (.ld 2 true (.t 26)),io 7 (.box 100 (.c (.agg [.sc (.string ⟨#[]⟩),.sl .full []]))),iz (.st 2 (.t 7) (.t 27))]) (.seq (.reg [io 29 (.ld 2 true (.t 7)),io 30 (.call (jf 109) [.t 29]),im 28 30,io 31 (.ext (.t 28) 0),io 32 (.ext (.t 28) 1),im 8 31,im 9 32]) (.reg [im 33 5,im 34 8,io 35 (.bin .add (.t 33) (.t 34)),im 5 35])))) (.reg [io 36 (.bin .add (.t 24) (ik 1)),im 24 36])))))
def c69_2:Zar:=.blk 2 (.loop (.seq (.reg [io 47 (.bin .lss (.t 46) (.t 45))]) (.seq (.cond (.t 47) .skip (.exit 2)) (.seq (.blk 3 (.seq (.reg [io 48 (.ixa 1 (.t 44) (.t 46)),io 49 (.ld 1 false (.t 48)),im 11 49]) (.reg [im 50 5,im 51 11,io 52 (.call (jf 75) [.t 51]),io 53 (.bin .add (.t 50) (.t 52)),im 5 53]))) (.reg [io 54 (.bin .add (.t 46) (ik 1)),im 46 54])))))
def c69_0:Zar:=.seq (.reg [io 1 (.box 76 (.t 0)),io 2 (.mv (.c (.sc (.string ⟨#[]⟩)))),jm 3 0]) (.seq (.seq (.reg [io 12 (.ld 2 true (.t 1)),io 13 (.call (jf 108) [.t 12]),im 4 13]) (.seq (.reg [im 14 4,io 15 (.bin .neq (.t 14) (ik 0))]) (.cond (.t 15) (.seq (.reg [im 16 4,io 2 (.mv (.c (.sc (.string ⟨#[]⟩)))),im 3 16]) .ret) .skip))) (.seq (.reg [io 17 (.fla 0 (.t 1)),io 18 (.ld 1 false (.t 17)),io 19 (.len false (.t 18)),io 20 (.call (jf 72) [.t 19]),im 5 20]) (.seq (.seq (.reg [io 21 (.fla 0 (.t 1)),io 22 (.ld 1 false (.t 21)),io 23 (.len false (.t 22)),jm 24 0]) c69_1) (.seq (.reg [im 37 5,io 38 (.fla 1 (.t 1)),io 39 (.ld 1 false (.t 38)),io 40 (.len false (.t 39)),io 41 (.call (jf 72) [.t 40]),io 42 (.bin .add (.t 37) (.t 41)),im 5 42]) (.seq (.seq (.reg [io 43 (.fla 1 (.t 1)),io 44 (.ld 1 false (.t 43)),io 45 (.len false (.t 44)),jm 46 0]) c69_2) (.seq (.reg [im 55 5,im 2 55,jm 3 0]) .ret))))))
theorem cf69:cFn Tryz.prog eqT 69=some (c69_0,[(.tmp 2),(.tmp 3)],56):=by kernel_rfl
def c70_1:Zar:=.blk 0 (.loop (.seq (.reg [io 14 (.bin .lss (.t 13) (.t 12))]) (.seq (.cond (.t 14) .skip (.exit 0)) (.seq (.blk 1 (.seq (.reg [im 15 13,im 5 15]) (.seq (.drw [ip (im 16 0),ip (im 17 5),ip (io 18 (.ixa 1 (.t 16) (.t 17))),ip (io 19 (.ld 1 false (.t 18))),ip (im 20 1),ip (im 21 5),ip (io 22 (.ixa 1 (.t 20) (.t 21))),ip (io 23 (.ld 1 false (.t 22))),ip (io 24 (.bin .neq (.t 19) (.t 23)))]) (.cond (.t 24) (.seq (.reg [io 4 (.mv (ib false))]) .ret) .skip)))) (.reg [io 25 (.bin .add (.t 13) (ik 1)),im 13 25])))))
def ZnP:Zar:=.seq (.reg [io 4 (.mv (ib false))]) (.seq (.seq (.reg [im 6 0,io 7 (.len false (.t 6)),im 8 1,io 9 (.len false (.t 8)),io 10 (.bin .neq (.t 7) (.t 9))]) (.cond (.t 10) (.seq (.reg [io 4 (.mv (ib false))]) .ret) .skip)) (.seq (.seq (.reg [im 11 0,io 12 (.len false (.t 11)),jm 13 0]) c70_1) (.seq (.reg [io 4 (.mv (ib true))]) .ret)))
theorem cf70:cFn Tryz.prog eqT 70=some (ZnP,[(.tmp 4)],26):=by kernel_rfl
def c71_2:Zar:=.blk 2 (.loop (.seq (.seq (.reg [im 26 6,io 27 (.bin .geq (.t 26) (ik 0))]) (.cond (.t 27) .skip (.exit 2))) (.seq (.blk 3 (.drw [ip (im 30 3),ip (io 31 (.fla 1 (.t 5))),ip (io 32 (.ld 1 false (.t 31))),ip (im 33 6),ip (io 34 (.ixa 3 (.t 32) (.t 33))),ip (io 35 (.ld 3 true (.t 34))),ip (io 36 (.fla 1 (.t 5))),ip (io 37 (.ld 1 false (.t 36))),ip (im 38 6),ip (io 39 (.bin .add (.t 38) (ik 1))),ip (im 40 6),ip (io 41 (.bin .add (.t 40) (ik 2))),ip (io 42 (.fla 1 (.t 5))),ip (io 43 (.ld 1 false (.t 42))),ip (io 44 (.len false (.t 43))),ip (io 45 (.mm false (.t 41) (.t 44))),ip (io 46 (.slc 3 (.t 37) (some (.t 39)) (some (.t 45)) none)),ip (io 47 (.call (jf 110) [.t 35,.t 46])),ip (io 48 (.app 9 1 16 (.t 30) (.t 47))),ip (im 3 48)])) (.reg [im 28 6,io 29 (.bin .sub (.t 28) (ik 1)),im 6 29]))))
def c71_1:Zar:=.blk 0 (.loop (.seq (.reg [io 13 (.bin .lss (.t 12) (.t 11))]) (.seq (.cond (.t 13) .skip (.exit 0)) (.seq (.blk 1 (.seq (.reg [io 14 (.ixa 2 (.t 10) (.t 12)),io 15 (.ld 2 true (.t 14)),io 5 (.box 100 (.c (.agg [.sc (.string ⟨#[]⟩),.sl .full []]))),iz (.st 2 (.t 5) (.t 15))]) (.seq (.reg [im 16 3,io 17 (.fla 0 (.t 5)),io 18 (.ld 1 false (.t 17)),io 19 (.bin .add (.c (.sc (.string ⟨#[64]⟩))) (.t 18)),io 20 (.bsl 1 [.t 19]),io 21 (.app 9 1 16 (.t 16) (.t 20)),im 3 21]) (.seq (.reg [io 22 (.fla 1 (.t 5)),io 23 (.ld 1 false (.t 22)),io 24 (.len false (.t 23)),io 25 (.bin .sub (.t 24) (ik 1)),im 6 25]) c71_2)))) (.reg [io 49 (.bin .add (.t 12) (ik 1)),im 12 49])))))
def c71_3:Zar:=.blk 4 (.loop (.seq (.reg [io 54 (.bin .lss (.t 53) (.t 52))]) (.seq (.cond (.t 54) .skip (.exit 4)) (.seq (.blk 5 (.seq (.reg [io 55 (.ixa 1 (.t 51) (.t 53)),io 56 (.ld 1 false (.t 55)),im 8 56]) (.reg [im 57 3,im 58 8,io 59 (.bin .add (.c (.sc (.string ⟨#[43]⟩))) (.t 58)),io 60 (.bsl 1 [.t 59]),io 61 (.app 9 1 16 (.t 57) (.t 60)),im 3 61]))) (.reg [io 62 (.bin .add (.t 53) (ik 1)),im 53 62])))))
def c71_0:Zar:=.seq (.reg [io 1 (.box 76 (.t 0)),io 2 (.mv jn)]) (.seq (.reg [io 3 (.mv jn)]) (.seq (.seq (.reg [io 9 (.fla 0 (.t 1)),io 10 (.ld 1 false (.t 9)),io 11 (.len false (.t 10)),jm 12 0]) c71_1) (.seq (.seq (.reg [io 50 (.fla 1 (.t 1)),io 51 (.ld 1 false (.t 50)),io 52 (.len false (.t 51)),jm 53 0]) c71_3) (.seq (.reg [im 63 3,im 2 63]) .ret))))
theorem cf71:cFn Tryz.prog eqT 71=some (c71_0,[(.tmp 2)],64):=by kernel_rfl
def ZhM:Zar:=.seq (.reg [io 2 (.mv (.c (.sc (.string ⟨#[]⟩))))]) (.seq (.reg [im 3 0,io 4 (.mm true (.t 3) (ik 0)),io 5 (.cnv .u64 (.t 4)),io 6 (.call (jf 111) [.t 5]),im 2 6]) .ret)
theorem cf72:cFn Tryz.prog eqT 72=some (ZhM,[(.tmp 2)],7):=by kernel_rfl
def c73_0:Zar:=.seq (.reg [io 4 (.mv (.c (.sc (.string ⟨#[]⟩)))),io 5 (.mv (.c (.sc (.string ⟨#[]⟩)))),io 6 (.mv (ib false))]) (.seq (.reg [im 7 0,im 8 1,io 9 (.call (jf 112) [.t 7,.t 8]),io 10 (.ext (.t 9) 0),io 11 (.ext (.t 9) 1),io 12 (.ext (.t 9) 2),im 4 10,im 5 11,im 6 12]) .ret)
theorem cf73:cFn Tryz.prog eqT 73=some (c73_0,[(.tmp 4),(.tmp 5),(.tmp 6)],13):=by kernel_rfl
def Znz:Zar:=.seq (.reg [io 2 (.box 39 jn),io 3 (.box 4 (ib false))]) (.seq (.seq (.reg [im 8 0,io 9 (.bin .eql (.t 8) (.c (.sc (.string ⟨#[]⟩))))]) (.cond (.t 9) (.seq (.reg [iz (.st 1 (.t 2) jn),iz (.st 1 (.t 3) (ib true))]) .ret) .skip)) (.seq (.reg [io 4 (.box 39 jn)]) (.seq (.seq (.reg [im 10 0,io 11 (.call (jf 76) [.t 10,.c (.sc (.string ⟨#[44]⟩))])]) (.blk 0 (.rf (.t 11) [12] (.reg [im 5 12]) (.blk 1 (.seq (.reg [im 14 5,io 15 (.call (jf 8) [.t 14]),im 13 15,io 16 (.ext (.t 13) 0),io 17 (.ext (.t 13) 1),im 6 16,im 7 17]) (.seq (.seq (.reg [im 18 7,io 19 (.un .not (.t 18))]) (.cond (.t 19) (.seq (.reg [iz (.st 1 (.t 2) jn),iz (.st 1 (.t 3) (ib false))]) .ret) .skip)) (.reg [io 20 (.ld 1 false (.t 4)),im 21 6,io 22 (.bsl 1 [.t 21]),io 23 (.app 9 1 16 (.t 20) (.t 22)),iz (.st 1 (.t 4) (.t 23))]))))))) (.seq (.reg [io 24 (.ld 1 false (.t 4)),iz (.st 1 (.t 2) (.t 24)),iz (.st 1 (.t 3) (ib true))]) .ret))))
theorem cf74:cFn Tryz.prog eqT 74=some (Znz,[(.cell 1 false 2),(.cell 1 false 3)],25):=by kernel_rfl
def c75_0:Zar:=.seq (.reg [io 2 (.mv (.c (.sc (.string ⟨#[]⟩))))]) (.seq (.reg [im 3 0,io 4 (.len true (.t 3)),io 5 (.call (jf 72) [.t 4]),im 6 0,io 7 (.bin .add (.t 5) (.t 6)),im 2 7]) .ret)
theorem cf75:cFn Tryz.prog eqT 75=some (c75_0,[(.tmp 2)],8):=by kernel_rfl
def Zuo:Zar:=.seq (.reg [io 4 (.mv (.c (.sc .nilFunc)))]) (.seq (.reg [im 5 0,im 6 1,io 7 (.call (jf 113) [.t 5,.t 6,ik 0]),im 4 7]) .ret)
theorem cf76:cFn Tryz.prog eqT 76=some (Zuo,[(.tmp 4)],8):=by kernel_rfl
def ZdC:Zar:=.seq (.reg [io 2 (.mv (.c (.sc (.string ⟨#[]⟩))))]) (.seq (.reg [im 3 0,io 4 (.call (jf 114) [.t 3]),im 2 4]) .ret)
theorem cf77:cFn Tryz.prog eqT 77=some (ZdC,[(.tmp 2)],5):=by kernel_rfl
def ZtG:Zar:=.seq (.reg [io 2 (.mv (.c (.sc (.string ⟨#[]⟩)))),io 3 (.mv (ib false))]) (.seq (.seq (.reg [im 18 0,io 19 (.bin .eql (.t 18) (.c (.sc (.string ⟨#[42]⟩))))]) (.cond (.t 19) (.seq (.reg [io 20 (.call (jf 72) [ik 0]),im 2 20,io 3 (.mv (ib true))]) .ret) .skip)) (.seq (.seq (.reg [im 21 0,io 22 (.bin .eql (.t 21) (.c (.sc (.string ⟨#[]⟩))))]) (.cond (.t 22) (.seq (.reg [io 2 (.mv (.c (.sc (.string ⟨#[]⟩)))),io 3 (.mv (ib false))]) .ret) .skip)) (.seq (.reg [im 24 0,io 25 (.slS (.t 24) none (some (ik 1))),io 26 (.call (jf 79) [.t 25]),im 23 26,io 27 (.ext (.t 23) 0),io 28 (.ext (.t 23) 1),im 4 27,im 5 28]) (.seq (.reg [im 29 0,io 30 (.slS (.t 29) (some (ik 1)) none),im 6 30]) (.seq (.seq (.reg [im 31 5,io 32 (.un .not (.t 31)),im 33 32,ih 33 34 (.mv (.t 6)),ih 33 35 (.bin .eql (.t 34) (.c (.sc (.string ⟨#[]⟩)))),io 36 (.pick (.t 33) (ib true) (.t 35))]) (.cond (.t 36) (.seq (.reg [io 2 (.mv (.c (.sc (.string ⟨#[]⟩)))),io 3 (.mv (ib false))]) .ret) .skip)) (.seq (.seq (.reg [im 37 6,io 38 (.ixs (.t 37) (ik 0)),io 39 (.bin .eql (.t 38) (.c (.sc (.int .u8 61))))]) (.cond (.t 39) (.seq (.reg [im 41 6,io 42 (.slS (.t 41) (some (ik 1)) none),io 43 (.call (jf 74) [.t 42]),im 40 43,io 44 (.ext (.t 40) 0),io 45 (.ext (.t 40) 1),im 7 44,im 8 45]) (.seq (.reg [im 47 7,io 48 (.call (jf 115) [.t 47]),im 46 48,io 49 (.ext (.t 46) 0),io 50 (.ext (.t 46) 1),im 9 49,im 10 50]) (.seq (.reg [io 51 (.call (jf 72) [ik 2]),im 52 4,io 53 (.call (jf 72) [.t 52]),io 54 (.bin .add (.t 51) (.t 53)),im 55 9,io 56 (.bin .add (.t 54) (.t 55)),im 57 8,im 58 57,ig 58 59 (.mv (.t 10)),ig 58 60 (.bin .eql (.t 59) (ik 0)),io 61 (.pick (.t 58) (.t 60) (ib false)),im 2 56,im 3 61]) .ret))) .skip)) (.seq (.reg [im 63 6,io 64 (.slS (.t 63) (some (ik 1)) none),io 65 (.call (jf 73) [.t 64,.c (.sc (.string ⟨#[126]⟩))]),im 62 65,io 66 (.ext (.t 62) 0),io 67 (.ext (.t 62) 1),io 68 (.ext (.t 62) 2),im 11 66,im 12 67,im 13 68]) (.seq (.reg [im 70 11,io 71 (.call (jf 8) [.t 70]),im 69 71,io 72 (.ext (.t 69) 0),io 73 (.ext (.t 69) 1),im 14 72,im 15 73]) (.seq (.reg [im 75 12,io 76 (.call (jf 8) [.t 75]),im 74 76,io 77 (.ext (.t 74) 0),io 78 (.ext (.t 74) 1),im 16 77,im 17 78]) (.seq (.drw [ip (im 80 4),ip (im 83 14),ip (im 86 16),ip (im 89 6),ip (io 90 (.ixs (.t 89) (ik 0))),ip (io 91 (.bin .eql (.t 90) (.c (.sc (.int .u8 126))))),ip (io 79 (.call (jf 72) [ik 1])),ip (io 81 (.call (jf 72) [.t 80])),ip (io 82 (.bin .add (.t 79) (.t 81))),ip (io 84 (.call (jf 75) [.t 83])),ip (io 85 (.bin .add (.t 82) (.t 84))),ip (io 87 (.call (jf 75) [.t 86])),ip (io 88 (.bin .add (.t 85) (.t 87))),ip (im 92 91),ip (ig 92 93 (.mv (.t 13))),ip (io 94 (.pick (.t 92) (.t 93) (ib false))),ip (im 95 94),ip (ig 95 96 (.mv (.t 15))),ip (io 97 (.pick (.t 95) (.t 96) (ib false))),ip (im 98 97),ip (ig 98 99 (.mv (.t 17))),ip (io 100 (.pick (.t 98) (.t 99) (ib false))),ip (im 2 88),ip (im 3 100)]) .ret))))))))))
theorem cf78:cFn Tryz.prog eqT 78=some (ZtG,[(.tmp 2),(.tmp 3)],101):=by kernel_rfl
def ZtM:Zar:=.seq (.reg [jm 2 0,io 3 (.mv (ib false))]) (.seq (.seq (.reg [im 4 0,io 5 (.len true (.t 4)),io 6 (.bin .neq (.t 5) (ik 1)),im 7 6,ih 7 8 (.mv (.t 0)),ih 7 9 (.ixs (.t 8) (ik 0)),ih 7 10 (.bin .lss (.t 9) (.c (.sc (.int .u8 48)))),io 11 (.pick (.t 7) (ib true) (.t 10)),im 12 11,ih 12 13 (.mv (.t 0)),ih 12 14 (.ixs (.t 13) (ik 0)),ih 12 15 (.bin .gtr (.t 14) (.c (.sc (.int .u8 57)))),io 16 (.pick (.t 12) (ib true) (.t 15))]) (.cond (.t 16) (.seq (.reg [jm 2 0,io 3 (.mv (ib false))]) .ret) .skip)) (.seq (.reg [im 17 0,io 18 (.ixs (.t 17) (ik 0)),io 19 (.bin .sub (.t 18) (.c (.sc (.int .u8 48)))),io 20 (.cnv .i64 (.t 19)),im 2 20,io 3 (.mv (ib true))]) .ret))
theorem cf79:cFn Tryz.prog eqT 79=some (ZtM,[(.tmp 2),(.tmp 3)],21):=by kernel_rfl
def Zvp:Zar:=.seq (.reg [io 2 (.mv (.c (.sc (.string ⟨#[]⟩))))]) (.seq (.seq (.reg [im 3 0,io 4 (.bin .lss (.t 3) (ik 10))]) (.cond (.t 4) (.seq (.reg [im 5 0,im 6 0,io 7 (.bin .add (.t 6) (ik 1)),io 8 (.slS (.c (.sc (.string ⟨#[48,49,50,51,52,53,54,55,56,57,97,98,99,100,101,102,103,104,105,106,107,108,109,110,111,112,113,114,115,116,117,118,119,120,121,122]⟩))) (some (.t 5)) (some (.t 7))),im 2 8]) .ret) .skip)) (.seq (.reg [im 9 0,io 10 (.bin .mul (.t 9) (ik 2)),im 11 0,io 12 (.bin .mul (.t 11) (ik 2)),io 13 (.bin .add (.t 12) (ik 2)),io 14 (.slS (.c (.sc (.string ⟨#[48,48,48,49,48,50,48,51,48,52,48,53,48,54,48,55,48,56,48,57,49,48,49,49,49,50,49,51,49,52,49,53,49,54,49,55,49,56,49,57,50,48,50,49,50,50,50,51,50,52,50,53,50,54,50,55,50,56,50,57,51,48,51,49,51,50,51,51,51,52,51,53,51,54,51,55,51,56,51,57,52,48,52,49,52,50,52,51,52,52,52,53,52,54,52,55,52,56,52,57,53,48,53,49,53,50,53,51,53,52,53,53,53,54,53,55,53,56,53,57,54,48,54,49,54,50,54,51,54,52,54,53,54,54,54,55,54,56,54,57,55,48,55,49,55,50,55,51,55,52,55,53,55,54,55,55,55,56,55,57,56,48,56,49,56,50,56,51,56,52,56,53,56,54,56,55,56,56,56,57,57,48,57,49,57,50,57,51,57,52,57,53,57,54,57,55,57,56,57,57]⟩))) (some (.t 10)) (some (.t 13))),im 2 14]) .ret))
theorem cf95:cFn Tryz.prog eqT 95=some (Zvp,[(.tmp 2)],15):=by kernel_rfl
def ZiC:Zar:=.seq (.reg [jm 2 0]) (.seq (.reg [im 4 0,io 5 (.call (jf 129) [.t 4]),io 6 (.call (jf 128) [.t 5]),im 3 6]) (.seq (.reg [im 7 3,im 8 0,im 9 3,io 10 (.ixA 20 1 (.c (.sc (.pointer (some ⟨1,0,none⟩)))) (.t 9)),io 11 (.ld 1 false (.t 10)),io 12 (.bin .geq (.t 8) (.t 11)),io 13 (.call (jf 130) [.t 12]),io 14 (.bin .add (.t 7) (.t 13)),im 2 14]) .ret))
theorem cf96:cFn Tryz.prog eqT 96=some (ZiC,[(.tmp 2)],15):=by kernel_rfl
def c97_1:Zar:=.blk 0 (.loop (.seq (.seq (.reg [im 19 4,io 20 (.bin .geq (.t 19) (ik 8))]) (.cond (.t 20) .skip (.exit 0))) (.blk 1 (.seq (.reg [im 21 1,io 22 (.bin .rem (.t 21) (.c (.sc (.int .u64 100000000)))),io 23 (.cnv .u32 (.t 22)),im 5 23]) (.seq (.reg [im 24 1,io 25 (.bin .quo (.t 24) (.c (.sc (.int .u64 100000000)))),im 1 25]) (.seq (.reg [im 26 5,io 27 (.bin .quo (.t 26) (.c (.sc (.int .u32 10000)))),im 28 5,io 29 (.bin .rem (.t 28) (.c (.sc (.int .u32 10000)))),im 6 27,im 7 29]) (.seq (.reg [im 30 7,io 31 (.bin .quo (.t 30) (.c (.sc (.int .u32 100)))),io 32 (.bin .mul (.t 31) (.c (.sc (.int .u32 2)))),im 33 7,io 34 (.bin .rem (.t 33) (.c (.sc (.int .u32 100)))),io 35 (.bin .mul (.t 34) (.c (.sc (.int .u32 2)))),im 8 32,im 9 35]) (.seq (.reg [im 36 6,io 37 (.bin .quo (.t 36) (.c (.sc (.int .u32 100)))),io 38 (.bin .mul (.t 37) (.c (.sc (.int .u32 2)))),im 39 6,io 40 (.bin .rem (.t 39) (.c (.sc (.int .u32 100)))),io 41 (.bin .mul (.t 40) (.c (.sc (.int .u32 2)))),im 10 38,im 11 41]) (.seq (.drw [ip (im 42 0),ip (im 43 4),ip (io 44 (.bin .sub (.t 43) (ik 1))),ip (im 45 0),ip (im 46 4),ip (io 47 (.bin .sub (.t 46) (ik 2))),ip (im 48 9),ip (io 49 (.bin .add (.t 48) (.c (.sc (.int .u32 1))))),ip (io 50 (.ixs (.c (.sc (.string ⟨#[48,48,48,49,48,50,48,51,48,52,48,53,48,54,48,55,48,56,48,57,49,48,49,49,49,50,49,51,49,52,49,53,49,54,49,55,49,56,49,57,50,48,50,49,50,50,50,51,50,52,50,53,50,54,50,55,50,56,50,57,51,48,51,49,51,50,51,51,51,52,51,53,51,54,51,55,51,56,51,57,52,48,52,49,52,50,52,51,52,52,52,53,52,54,52,55,52,56,52,57,53,48,53,49,53,50,53,51,53,52,53,53,53,54,53,55,53,56,53,57,54,48,54,49,54,50,54,51,54,52,54,53,54,54,54,55,54,56,54,57,55,48,55,49,55,50,55,51,55,52,55,53,55,54,55,55,55,56,55,57,56,48,56,49,56,50,56,51,56,52,56,53,56,54,56,55,56,56,56,57,57,48,57,49,57,50,57,51,57,52,57,53,57,54,57,55,57,56,57,57]⟩))) (.t 49))),ip (im 51 9),ip (io 52 (.ixs (.c (.sc (.string ⟨#[48,48,48,49,48,50,48,51,48,52,48,53,48,54,48,55,48,56,48,57,49,48,49,49,49,50,49,51,49,52,49,53,49,54,49,55,49,56,49,57,50,48,50,49,50,50,50,51,50,52,50,53,50,54,50,55,50,56,50,57,51,48,51,49,51,50,51,51,51,52,51,53,51,54,51,55,51,56,51,57,52,48,52,49,52,50,52,51,52,52,52,53,52,54,52,55,52,56,52,57,53,48,53,49,53,50,53,51,53,52,53,53,53,54,53,55,53,56,53,57,54,48,54,49,54,50,54,51,54,52,54,53,54,54,54,55,54,56,54,57,55,48,55,49,55,50,55,51,55,52,55,53,55,54,55,55,55,56,55,57,56,48,56,49,56,50,56,51,56,52,56,53,56,54,56,55,56,56,56,57,57,48,57,49,57,50,57,51,57,52,57,53,57,54,57,55,57,56,57,57]⟩))) (.t 51))),ip (io 53 (.ixa 1 (.t 42) (.t 44))),ip (iz (.st 1 (.t 53) (.t 50))),ip (io 54 (.ixa 1 (.t 45) (.t 47))),ip (iz (.st 1 (.t 54) (.t 52)))]) (.seq (.drw [ip (im 55 0),ip (im 56 4),ip (io 57 (.bin .sub (.t 56) (ik 3))),ip (im 58 0),ip (im 59 4),ip (io 60 (.bin .sub (.t 59) (ik 4))),ip (im 61 8),ip (io 62 (.bin .add (.t 61) (.c (.sc (.int .u32 1))))),ip (io 63 (.ixs (.c (.sc (.string ⟨#[48,48,48,49,48,50,48,51,48,52,48,53,48,54,48,55,48,56,48,57,49,48,49,49,49,50,49,51,49,52,49,53,49,54,49,55,49,56,49,57,50,48,50,49,50,50,50,51,50,52,50,53,50,54,50,55,50,56,50,57,51,48,51,49,51,50,51,51,51,52,51,53,51,54,51,55,51,56,51,57,52,48,52,49,52,50,52,51,52,52,52,53,52,54,52,55,52,56,52,57,53,48,53,49,53,50,53,51,53,52,53,53,53,54,53,55,53,56,53,57,54,48,54,49,54,50,54,51,54,52,54,53,54,54,54,55,54,56,54,57,55,48,55,49,55,50,55,51,55,52,55,53,55,54,55,55,55,56,55,57,56,48,56,49,56,50,56,51,56,52,56,53,56,54,56,55,56,56,56,57,57,48,57,49,57,50,57,51,57,52,57,53,57,54,57,55,57,56,57,57]⟩))) (.t 62))),ip (im 64 8),ip (io 65 (.ixs (.c (.sc (.string ⟨#[48,48,48,49,48,50,48,51,48,52,48,53,48,54,48,55,48,56,48,57,49,48,49,49,49,50,49,51,49,52,49,53,49,54,49,55,49,56,49,57,50,48,50,49,50,50,50,51,50,52,50,53,50,54,50,55,50,56,50,57,51,48,51,49,51,50,51,51,51,52,51,53,51,54,51,55,51,56,51,57,52,48,52,49,52,50,52,51,52,52,52,53,52,54,52,55,52,56,52,57,53,48,53,49,53,50,53,51,53,52,53,53,53,54,53,55,53,56,53,57,54,48,54,49,54,50,54,51,54,52,54,53,54,54,54,55,54,56,54,57,55,48,55,49,55,50,55,51,55,52,55,53,55,54,55,55,55,56,55,57,56,48,56,49,56,50,56,51,56,52,56,53,56,54,56,55,56,56,56,57,57,48,57,49,57,50,57,51,57,52,57,53,57,54,57,55,57,56,57,57]⟩))) (.t 64))),ip (io 66 (.ixa 1 (.t 55) (.t 57))),ip (iz (.st 1 (.t 66) (.t 63))),ip (io 67 (.ixa 1 (.t 58) (.t 60))),ip (iz (.st 1 (.t 67) (.t 65)))]) (.seq (.drw [ip (im 68 0),ip (im 69 4),ip (io 70 (.bin .sub (.t 69) (ik 5))),ip (im 71 0),ip (im 72 4),ip (io 73 (.bin .sub (.t 72) (ik 6))),ip (im 74 11),ip (io 75 (.bin .add (.t 74) (.c (.sc (.int .u32 1))))),ip (io 76 (.ixs (.c (.sc (.string ⟨#[48,48,48,49,48,50,48,51,48,52,48,53,48,54,48,55,48,56,48,57,49,48,49,49,49,50,49,51,49,52,49,53,49,54,49,55,49,56,49,57,50,48,50,49,50,50,50,51,50,52,50,53,50,54,50,55,50,56,50,57,51,48,51,49,51,50,51,51,51,52,51,53,51,54,51,55,51,56,51,57,52,48,52,49,52,50,52,51,52,52,52,53,52,54,52,55,52,56,52,57,53,48,53,49,53,50,53,51,53,52,53,53,53,54,53,55,53,56,53,57,54,48,54,49,54,50,54,51,54,52,54,53,54,54,54,55,54,56,54,57,55,48,55,49,55,50,55,51,55,52,55,53,55,54,55,55,55,56,55,57,56,48,56,49,56,50,56,51,56,52,56,53,56,54,56,55,56,56,56,57,57,48,57,49,57,50,57,51,57,52,57,53,57,54,57,55,57,56,57,57]⟩))) (.t 75))),ip (im 77 11),ip (io 78 (.ixs (.c (.sc (.string ⟨#[48,48,48,49,48,50,48,51,48,52,48,53,48,54,48,55,48,56,48,57,49,48,49,49,49,50,49,51,49,52,49,53,49,54,49,55,49,56,49,57,50,48,50,49,50,50,50,51,50,52,50,53,50,54,50,55,50,56,50,57,51,48,51,49,51,50,51,51,51,52,51,53,51,54,51,55,51,56,51,57,52,48,52,49,52,50,52,51,52,52,52,53,52,54,52,55,52,56,52,57,53,48,53,49,53,50,53,51,53,52,53,53,53,54,53,55,53,56,53,57,54,48,54,49,54,50,54,51,54,52,54,53,54,54,54,55,54,56,54,57,55,48,55,49,55,50,55,51,55,52,55,53,55,54,55,55,55,56,55,57,56,48,56,49,56,50,56,51,56,52,56,53,56,54,56,55,56,56,56,57,57,48,57,49,57,50,57,51,57,52,57,53,57,54,57,55,57,56,57,57]⟩))) (.t 77))),ip (io 79 (.ixa 1 (.t 68) (.t 70))),ip (iz (.st 1 (.t 79) (.t 76))),ip (io 80 (.ixa 1 (.t 71) (.t 73))),ip (iz (.st 1 (.t 80) (.t 78)))]) (.seq (.drw [ip (im 81 0),ip (im 82 4),ip (io 83 (.bin .sub (.t 82) (ik 7))),ip (im 84 0),ip (im 85 4),ip (io 86 (.bin .sub (.t 85) (ik 8))),ip (im 87 10),ip (io 88 (.bin .add (.t 87) (.c (.sc (.int .u32 1))))),ip (io 89 (.ixs (.c (.sc (.string ⟨#[48,48,48,49,48,50,48,51,48,52,48,53,48,54,48,55,48,56,48,57,49,48,49,49,49,50,49,51,49,52,49,53,49,54,49,55,49,56,49,57,50,48,50,49,50,50,50,51,50,52,50,53,50,54,50,55,50,56,50,57,51,48,51,49,51,50,51,51,51,52,51,53,51,54,51,55,51,56,51,57,52,48,52,49,52,50,52,51,52,52,52,53,52,54,52,55,52,56,52,57,53,48,53,49,53,50,53,51,53,52,53,53,53,54,53,55,53,56,53,57,54,48,54,49,54,50,54,51,54,52,54,53,54,54,54,55,54,56,54,57,55,48,55,49,55,50,55,51,55,52,55,53,55,54,55,55,55,56,55,57,56,48,56,49,56,50,56,51,56,52,56,53,56,54,56,55,56,56,56,57,57,48,57,49,57,50,57,51,57,52,57,53,57,54,57,55,57,56,57,57]⟩))) (.t 88))),ip (im 90 10),ip (io 91 (.ixs (.c (.sc (.string ⟨#[48,48,48,49,48,50,48,51,48,52,48,53,48,54,48,55,48,56,48,57,49,48,49,49,49,50,49,51,49,52,49,53,49,54,49,55,49,56,49,57,50,48,50,49,50,50,50,51,50,52,50,53,50,54,50,55,50,56,50,57,51,48,51,49,51,50,51,51,51,52,51,53,51,54,51,55,51,56,51,57,52,48,52,49,52,50,52,51,52,52,52,53,52,54,52,55,52,56,52,57,53,48,53,49,53,50,53,51,53,52,53,53,53,54,53,55,53,56,53,57,54,48,54,49,54,50,54,51,54,52,54,53,54,54,54,55,54,56,54,57,55,48,55,49,55,50,55,51,55,52,55,53,55,54,55,55,55,56,55,57,56,48,56,49,56,50,56,51,56,52,56,53,56,54,56,55,56,56,56,57,57,48,57,49,57,50,57,51,57,52,57,53,57,54,57,55,57,56,57,57]⟩))) (.t 90))),ip (io 92 (.ixa 1 (.t 81) (.t 83))),ip (iz (.st 1 (.t 92) (.t 89))),ip (io 93 (.ixa 1 (.t 84) (.t 86))),ip (iz (.st 1 (.t 93) (.t 91)))]) (.reg [im 94 4,io 95 (.bin .sub (.t 94) (ik 8)),im 4 95])))))))))))))
def ZvO:Zar:=.seq (.reg [im 17 0,io 18 (.len false (.t 17)),im 4 18]) (.seq c97_1 (.seq (.reg [im 96 1,io 97 (.cnv .u32 (.t 96)),im 12 97]) (.seq (.seq (.reg [im 98 4,io 99 (.bin .geq (.t 98) (ik 4))]) (.cond (.t 99) (.seq (.reg [im 100 12,io 101 (.bin .rem (.t 100) (.c (.sc (.int .u32 10000)))),im 13 101]) (.seq (.reg [im 102 12,io 103 (.bin .quo (.t 102) (.c (.sc (.int .u32 10000)))),im 12 103]) (.seq (.reg [im 104 13,io 105 (.bin .quo (.t 104) (.c (.sc (.int .u32 100)))),io 106 (.bin .mul (.t 105) (.c (.sc (.int .u32 2)))),im 107 13,io 108 (.bin .rem (.t 107) (.c (.sc (.int .u32 100)))),io 109 (.bin .mul (.t 108) (.c (.sc (.int .u32 2)))),im 14 106,im 15 109]) (.seq (.drw [ip (im 110 0),ip (im 111 4),ip (io 112 (.bin .sub (.t 111) (ik 1))),ip (im 113 0),ip (im 114 4),ip (io 115 (.bin .sub (.t 114) (ik 2))),ip (im 116 15),ip (io 117 (.bin .add (.t 116) (.c (.sc (.int .u32 1))))),ip (io 118 (.ixs (.c (.sc (.string ⟨#[48,48,48,49,48,50,48,51,48,52,48,53,48,54,48,55,48,56,48,57,49,48,49,49,49,50,49,51,49,52,49,53,49,54,49,55,49,56,49,57,50,48,50,49,50,50,50,51,50,52,50,53,50,54,50,55,50,56,50,57,51,48,51,49,51,50,51,51,51,52,51,53,51,54,51,55,51,56,51,57,52,48,52,49,52,50,52,51,52,52,52,53,52,54,52,55,52,56,52,57,53,48,53,49,53,50,53,51,53,52,53,53,53,54,53,55,53,56,53,57,54,48,54,49,54,50,54,51,54,52,54,53,54,54,54,55,54,56,54,57,55,48,55,49,55,50,55,51,55,52,55,53,55,54,55,55,55,56,55,57,56,48,56,49,56,50,56,51,56,52,56,53,56,54,56,55,56,56,56,57,57,48,57,49,57,50,57,51,57,52,57,53,57,54,57,55,57,56,57,57]⟩))) (.t 117))),ip (im 119 15),ip (io 120 (.ixs (.c (.sc (.string ⟨#[48,48,48,49,48,50,48,51,48,52,48,53,48,54,48,55,48,56,48,57,49,48,49,49,49,50,49,51,49,52,49,53,49,54,49,55,49,56,49,57,50,48,50,49,50,50,50,51,50,52,50,53,50,54,50,55,50,56,50,57,51,48,51,49,51,50,51,51,51,52,51,53,51,54,51,55,51,56,51,57,52,48,52,49,52,50,52,51,52,52,52,53,52,54,52,55,52,56,52,57,53,48,53,49,53,50,53,51,53,52,53,53,53,54,53,55,53,56,53,57,54,48,54,49,54,50,54,51,54,52,54,53,54,54,54,55,54,56,54,57,55,48,55,49,55,50,55,51,55,52,55,53,55,54,55,55,55,56,55,57,56,48,56,49,56,50,56,51,56,52,56,53,56,54,56,55,56,56,56,57,57,48,57,49,57,50,57,51,57,52,57,53,57,54,57,55,57,56,57,57]⟩))) (.t 119))),ip (io 121 (.ixa 1 (.t 110) (.t 112))),ip (iz (.st 1 (.t 121) (.t 118))),ip (io 122 (.ixa 1 (.t 113) (.t 115))),ip (iz (.st 1 (.t 122) (.t 120)))]) (.seq (.drw [ip (im 123 0),ip (im 124 4),ip (io 125 (.bin .sub (.t 124) (ik 3))),ip (im 126 0),ip (im 127 4),ip (io 128 (.bin .sub (.t 127) (ik 4))),ip (im 129 14),ip (io 130 (.bin .add (.t 129) (.c (.sc (.int .u32 1))))),ip (io 131 (.ixs (.c (.sc (.string ⟨#[48,48,48,49,48,50,48,51,48,52,48,53,48,54,48,55,48,56,48,57,49,48,49,49,49,50,49,51,49,52,49,53,49,54,49,55,49,56,49,57,50,48,50,49,50,50,50,51,50,52,50,53,50,54,50,55,50,56,50,57,51,48,51,49,51,50,51,51,51,52,51,53,51,54,51,55,51,56,51,57,52,48,52,49,52,50,52,51,52,52,52,53,52,54,52,55,52,56,52,57,53,48,53,49,53,50,53,51,53,52,53,53,53,54,53,55,53,56,53,57,54,48,54,49,54,50,54,51,54,52,54,53,54,54,54,55,54,56,54,57,55,48,55,49,55,50,55,51,55,52,55,53,55,54,55,55,55,56,55,57,56,48,56,49,56,50,56,51,56,52,56,53,56,54,56,55,56,56,56,57,57,48,57,49,57,50,57,51,57,52,57,53,57,54,57,55,57,56,57,57]⟩))) (.t 130))),ip (im 132 14),ip (io 133 (.ixs (.c (.sc (.string ⟨#[48,48,48,49,48,50,48,51,48,52,48,53,48,54,48,55,48,56,48,57,49,48,49,49,49,50,49,51,49,52,49,53,49,54,49,55,49,56,49,57,50,48,50,49,50,50,50,51,50,52,50,53,50,54,50,55,50,56,50,57,51,48,51,49,51,50,51,51,51,52,51,53,51,54,51,55,51,56,51,57,52,48,52,49,52,50,52,51,52,52,52,53,52,54,52,55,52,56,52,57,53,48,53,49,53,50,53,51,53,52,53,53,53,54,53,55,53,56,53,57,54,48,54,49,54,50,54,51,54,52,54,53,54,54,54,55,54,56,54,57,55,48,55,49,55,50,55,51,55,52,55,53,55,54,55,55,55,56,55,57,56,48,56,49,56,50,56,51,56,52,56,53,56,54,56,55,56,56,56,57,57,48,57,49,57,50,57,51,57,52,57,53,57,54,57,55,57,56,57,57]⟩))) (.t 132))),ip (io 134 (.ixa 1 (.t 123) (.t 125))),ip (iz (.st 1 (.t 134) (.t 131))),ip (io 135 (.ixa 1 (.t 126) (.t 128))),ip (iz (.st 1 (.t 135) (.t 133)))]) (.reg [im 136 4,io 137 (.bin .sub (.t 136) (ik 4)),im 4 137])))))) .skip)) (.seq (.seq (.reg [im 138 4,io 139 (.bin .geq (.t 138) (ik 2))]) (.cond (.t 139) (.seq (.reg [im 140 12,io 141 (.bin .rem (.t 140) (.c (.sc (.int .u32 100)))),io 142 (.bin .mul (.t 141) (.c (.sc (.int .u32 2)))),im 16 142]) (.seq (.reg [im 143 12,io 144 (.bin .quo (.t 143) (.c (.sc (.int .u32 100)))),im 12 144]) (.seq (.drw [ip (im 145 0),ip (im 146 4),ip (io 147 (.bin .sub (.t 146) (ik 1))),ip (im 148 0),ip (im 149 4),ip (io 150 (.bin .sub (.t 149) (ik 2))),ip (im 151 16),ip (io 152 (.bin .add (.t 151) (.c (.sc (.int .u32 1))))),ip (io 153 (.ixs (.c (.sc (.string ⟨#[48,48,48,49,48,50,48,51,48,52,48,53,48,54,48,55,48,56,48,57,49,48,49,49,49,50,49,51,49,52,49,53,49,54,49,55,49,56,49,57,50,48,50,49,50,50,50,51,50,52,50,53,50,54,50,55,50,56,50,57,51,48,51,49,51,50,51,51,51,52,51,53,51,54,51,55,51,56,51,57,52,48,52,49,52,50,52,51,52,52,52,53,52,54,52,55,52,56,52,57,53,48,53,49,53,50,53,51,53,52,53,53,53,54,53,55,53,56,53,57,54,48,54,49,54,50,54,51,54,52,54,53,54,54,54,55,54,56,54,57,55,48,55,49,55,50,55,51,55,52,55,53,55,54,55,55,55,56,55,57,56,48,56,49,56,50,56,51,56,52,56,53,56,54,56,55,56,56,56,57,57,48,57,49,57,50,57,51,57,52,57,53,57,54,57,55,57,56,57,57]⟩))) (.t 152))),ip (im 154 16),ip (io 155 (.ixs (.c (.sc (.string ⟨#[48,48,48,49,48,50,48,51,48,52,48,53,48,54,48,55,48,56,48,57,49,48,49,49,49,50,49,51,49,52,49,53,49,54,49,55,49,56,49,57,50,48,50,49,50,50,50,51,50,52,50,53,50,54,50,55,50,56,50,57,51,48,51,49,51,50,51,51,51,52,51,53,51,54,51,55,51,56,51,57,52,48,52,49,52,50,52,51,52,52,52,53,52,54,52,55,52,56,52,57,53,48,53,49,53,50,53,51,53,52,53,53,53,54,53,55,53,56,53,57,54,48,54,49,54,50,54,51,54,52,54,53,54,54,54,55,54,56,54,57,55,48,55,49,55,50,55,51,55,52,55,53,55,54,55,55,55,56,55,57,56,48,56,49,56,50,56,51,56,52,56,53,56,54,56,55,56,56,56,57,57,48,57,49,57,50,57,51,57,52,57,53,57,54,57,55,57,56,57,57]⟩))) (.t 154))),ip (io 156 (.ixa 1 (.t 145) (.t 147))),ip (iz (.st 1 (.t 156) (.t 153))),ip (io 157 (.ixa 1 (.t 148) (.t 150))),ip (iz (.st 1 (.t 157) (.t 155)))]) (.reg [im 158 4,io 159 (.bin .sub (.t 158) (ik 2)),im 4 159])))) .skip)) (.seq (.reg [im 160 4,io 161 (.bin .gtr (.t 160) (ik 0))]) (.cond (.t 161) (.reg [im 162 0,im 163 12,io 164 (.bin .add (.c (.sc (.int .u32 48))) (.t 163)),io 165 (.cnv .u8 (.t 164)),io 166 (.ixa 1 (.t 162) (ik 0)),iz (.st 1 (.t 166) (.t 165))]) .skip))))))
theorem cf97:cFn Tryz.prog eqT 97=some (ZvO,[],167):=by kernel_rfl
def c98_1:Zar:=.blk 0 (.loop (.seq (.seq (.reg [im 44 1,im 45 15,io 46 (.bin .geq (.t 44) (.t 45))]) (.cond (.t 46) .skip (.exit 0))) (.blk 1 (.seq (.reg [im 47 13,io 48 (.bin .sub (.t 47) (ik 1)),im 13 48]) (.seq (.reg [im 49 13,im 50 1,im 51 16,io 52 (.bin .and (.t 50) (.t 51)),io 53 (.ixs (.c (.sc (.string ⟨#[48,49,50,51,52,53,54,55,56,57,97,98,99,100,101,102,103,104,105,106,107,108,109,110,111,112,113,114,115,116,117,118,119,120,121,122]⟩))) (.t 52)),io 54 (.ixA 65 1 (.t 12) (.t 49)),iz (.st 1 (.t 54) (.t 53))]) (.reg [im 55 1,im 56 14,io 57 (.bin .shr (.t 55) (.t 56)),im 1 57]))))))
def c98_2:Zar:=.blk 2 (.loop (.seq (.seq (.reg [im 66 1,im 67 17,io 68 (.bin .geq (.t 66) (.t 67))]) (.cond (.t 68) .skip (.exit 2))) (.blk 3 (.seq (.reg [im 69 13,io 70 (.bin .sub (.t 69) (ik 1)),im 13 70]) (.seq (.reg [im 71 1,im 72 17,io 73 (.bin .quo (.t 71) (.t 72)),im 18 73]) (.seq (.reg [im 74 13,im 75 1,im 76 18,im 77 17,io 78 (.bin .mul (.t 76) (.t 77)),io 79 (.bin .sub (.t 75) (.t 78)),io 80 (.ixs (.c (.sc (.string ⟨#[48,49,50,51,52,53,54,55,56,57,97,98,99,100,101,102,103,104,105,106,107,108,109,110,111,112,113,114,115,116,117,118,119,120,121,122]⟩))) (.t 79)),io 81 (.ixA 65 1 (.t 12) (.t 74)),iz (.st 1 (.t 81) (.t 80))]) (.reg [im 82 18,im 1 82])))))))
def c98_0:Zar:=.seq (.reg [io 10 (.mv jn),io 11 (.mv (.c (.sc (.string ⟨#[]⟩))))]) (.seq (.seq (.reg [im 19 2,io 20 (.bin .lss (.t 19) (ik 2)),im 21 20,ih 21 22 (.mv (.t 2)),ih 21 23 (.bin .eql (.t 22) (ik 10)),io 24 (.pick (.t 21) (ib true) (.t 23)),im 25 24,ih 25 26 (.mv (.t 2)),ih 25 27 (.bin .gtr (.t 26) (ik 36)),io 28 (.pick (.t 25) (ib true) (.t 27))]) (.cond (.t 28) (.reg [io 29 .bad,iz .bad]) .skip)) (.seq (.reg [io 12 (.box 168 (.c za1))]) (.seq (.reg [jm 13 65]) (.seq (.seq (.reg [im 30 3]) (.cond (.t 30) (.reg [im 31 1,io 32 (.un .neg (.t 31)),im 1 32]) .skip)) (.seq (.seq (.reg [im 33 2,io 34 (.call (jf 131) [.t 33])]) (.cond (.t 34) (.seq (.reg [im 35 2,io 36 (.cnv .u64 (.t 35)),io 37 (.call (jf 132) [.t 36]),io 38 (.cnv .u64 (.t 37)),im 14 38]) (.seq (.reg [im 39 2,io 40 (.cnv .u64 (.t 39)),im 15 40]) (.seq (.reg [im 41 2,io 42 (.cnv .u64 (.t 41)),io 43 (.bin .sub (.t 42) (.c (.sc (.int .u64 1)))),im 16 43]) (.seq c98_1 (.seq (.reg [im 58 13,io 59 (.bin .sub (.t 58) (ik 1)),im 13 59]) (.reg [im 60 13,im 61 1,io 62 (.ixs (.c (.sc (.string ⟨#[48,49,50,51,52,53,54,55,56,57,97,98,99,100,101,102,103,104,105,106,107,108,109,110,111,112,113,114,115,116,117,118,119,120,121,122]⟩))) (.t 61)),io 63 (.ixA 65 1 (.t 12) (.t 60)),iz (.st 1 (.t 63) (.t 62))])))))) (.seq (.reg [im 64 2,io 65 (.cnv .u64 (.t 64)),im 17 65]) (.seq c98_2 (.seq (.reg [im 83 13,io 84 (.bin .sub (.t 83) (ik 1)),im 13 84]) (.reg [im 85 13,im 86 1,io 87 (.ixs (.c (.sc (.string ⟨#[48,49,50,51,52,53,54,55,56,57,97,98,99,100,101,102,103,104,105,106,107,108,109,110,111,112,113,114,115,116,117,118,119,120,121,122]⟩))) (.t 86)),io 88 (.ixA 65 1 (.t 12) (.t 85)),iz (.st 1 (.t 88) (.t 87))])))))) (.seq (.seq (.reg [im 89 3]) (.cond (.t 89) (.seq (.reg [im 90 13,io 91 (.bin .sub (.t 90) (ik 1)),im 13 91]) (.reg [im 92 13,io 93 (.ixA 65 1 (.t 12) (.t 92)),iz (.st 1 (.t 93) (.c (.sc (.int .u8 45))))])) .skip)) (.seq (.seq (.reg [im 94 4]) (.cond (.t 94) (.seq (.reg [im 95 0,im 96 13,io 97 (.sla 65 1 (.t 12) (some (.t 96)) none none),io 98 (.app 5 1 1 (.t 95) (.t 97)),im 10 98]) .ret) .skip)) (.seq (.reg [im 99 13,io 100 (.sla 65 1 (.t 12) (some (.t 99)) none none),io 101 (.sob (.t 100)),im 11 101]) .ret))))))))
theorem cf98:cFn Tryz.prog eqT 98=some (c98_0,[(.tmp 10),(.tmp 11)],102):=by kernel_rfl
def c100_1:Zar:=.blk 0 (.loop (.seq (.reg [io 5 (.nxt true (.t 4)),io 6 (.ext (.t 5) 0)]) (.seq (.cond (.t 6) .skip (.exit 0)) (.blk 1 (.reg [im 7 2,io 8 (.bin .add (.t 7) (ik 1)),im 2 8])))))
def Zck:Zar:=.seq (.reg [jm 2 0]) (.seq (.seq (.reg [im 3 0,io 4 .bad]) c100_1) (.seq (.reg [im 9 2,im 2 9]) .ret))
theorem ZkE:cFn Tryz.prog eqT 100=some (Zck,[(.tmp 2)],10):=by kernel_rfl
def ZmV:Zar:=.seq (.reg [io 2 (.mv (.c (.sc (.int .i32 0)))),jm 3 0]) (.seq (.seq (.reg [im 4 0,io 5 (.bin .neq (.t 4) (.c (.sc (.string ⟨#[]⟩)))),im 6 5,ig 6 7 (.mv (.t 0)),ig 6 8 (.ixs (.t 7) (ik 0)),ig 6 9 (.bin .lss (.t 8) (.c (.sc (.int .u8 128)))),io 10 (.pick (.t 6) (.t 9) (ib false))]) (.cond (.t 10) (.seq (.reg [im 11 0,io 12 (.ixs (.t 11) (ik 0)),io 13 (.cnv .i32 (.t 12)),im 2 13,jm 3 1]) .ret) (.reg [im 15 0,io 16 (.call (jf 134) [.t 15]),im 14 16,io 17 (.ext (.t 14) 0),io 18 (.ext (.t 14) 1),im 2 17,im 3 18]))) .ret)
theorem cf101:cFn Tryz.prog eqT 101=some (ZmV,[(.tmp 2),(.tmp 3)],19):=by kernel_rfl
def Zt4:Zar:=.seq (.reg [jm 6 0,io 7 (.mv (.c (.sc .nilIface)))]) (.seq (.seq (.reg [im 12 0,io 13 (.bin .eql (.t 12) (.c (.sc (.string ⟨#[]⟩))))]) (.cond (.t 13) (.seq (.reg [io 14 .bad,jm 6 0,im 7 14]) .ret) .skip)) (.seq (.reg [io 8 (.mv (ib false))]) (.seq (.seq (.reg [im 15 0,io 16 (.ixs (.t 15) (ik 0))]) (.blk 0 (.seq (.reg [io 18 (.bin .eql (.t 16) (.c (.sc (.int .u8 43)))),im 17 18]) (.cond (.t 17) (.reg [im 19 0,io 20 (.slS (.t 19) (some (ik 1)) none),im 0 20]) (.seq (.reg [io 22 (.bin .eql (.t 16) (.c (.sc (.int .u8 45)))),im 21 22]) (.cond (.t 21) (.seq (.reg [im 23 0,io 24 (.slS (.t 23) (some (ik 1)) none),im 0 24]) (.reg [io 8 (.mv (ib true))])) .skip)))))) (.seq (.reg [io 9 (.mv (.c (.sc (.int .u64 0))))]) (.seq (.reg [im 26 0,im 27 1,im 28 2,io 29 (.call (jf 138) [.t 26,.t 27,.t 28]),im 25 29,io 30 (.ext (.t 25) 0),io 31 (.ext (.t 25) 1),im 9 30,im 7 31]) (.seq (.seq (.reg [im 32 7,io 33 (.eqn 3 true (.t 32) (.c (.sc .nilIface))),im 34 33,ig 34 35 (.mv (.t 7)),ig 34 36 .bad,ig 34 37 .bad,io 38 (.pick (.t 34) (.t 37) (ib false))]) (.cond (.t 38) (.seq (.reg [im 39 7,jm 6 0,im 7 39]) .ret) .skip)) (.seq (.seq (.reg [im 40 2,io 41 (.bin .eql (.t 40) (ik 0))]) (.cond (.t 41) (.reg [jm 2 64]) .skip)) (.seq (.reg [im 42 2,io 43 (.bin .sub (.t 42) (ik 1)),io 44 (.cnv .u64 (.t 43)),io 45 (.bin .shl (.c (.sc (.int .u64 1))) (.t 44)),im 10 45]) (.seq (.seq (.reg [im 46 8,io 47 (.un .not (.t 46)),im 48 47,ig 48 49 (.mv (.t 9)),ig 48 50 (.mv (.t 10)),ig 48 51 (.bin .geq (.t 49) (.t 50)),io 52 (.pick (.t 48) (.t 51) (ib false))]) (.cond (.t 52) (.seq (.reg [im 53 10,io 54 (.bin .sub (.t 53) (.c (.sc (.int .u64 1)))),io 55 (.cnv .i64 (.t 54)),io 56 .bad,im 6 55,im 7 56]) .ret) .skip)) (.seq (.seq (.reg [im 57 8,im 58 57,ig 58 59 (.mv (.t 9)),ig 58 60 (.mv (.t 10)),ig 58 61 (.bin .gtr (.t 59) (.t 60)),io 62 (.pick (.t 58) (.t 61) (ib false))]) (.cond (.t 62) (.seq (.reg [im 63 10,io 64 (.cnv .i64 (.t 63)),io 65 (.un .neg (.t 64)),io 66 .bad,im 6 65,im 7 66]) .ret) .skip)) (.seq (.reg [im 67 9,io 68 (.cnv .i64 (.t 67)),im 11 68]) (.seq (.seq (.reg [im 69 8]) (.cond (.t 69) (.reg [im 70 11,io 71 (.un .neg (.t 70)),im 11 71]) .skip)) (.seq (.reg [im 72 11,im 6 72,io 7 (.mv (.c (.sc .nilIface)))]) .ret)))))))))))))
theorem cf104:cFn Tryz.prog eqT 104=some (Zt4,[(.tmp 6),(.tmp 7)],73):=by kernel_rfl
def ZtP:Zar:=.seq (.reg [io 10 (.mv (.c (.sc .nilIface)))]) (.seq (.seq (.reg [im 11 4]) (.blk 0 (.seq (.reg [io 13 .bad,io 14 .bad,im 12 14]) (.cond (.t 12) (.seq (.reg [im 15 0,im 16 1,io 17 (.call (jf 139) [.t 15,.t 16]),io 18 .bad,im 10 18]) .ret) (.seq (.reg [io 20 .bad,io 21 .bad,im 19 21]) (.cond (.t 19) (.seq (.reg [im 22 0,im 23 1,io 24 (.call (jf 140) [.t 22,.t 23]),io 25 .bad,im 10 25]) .ret) (.seq (.reg [io 27 .bad,io 28 .bad,im 26 28]) (.cond (.t 26) (.seq (.reg [im 29 0,im 30 1,im 31 2,io 32 (.call (jf 141) [.t 29,.t 30,.t 31]),io 33 .bad,im 10 33]) .ret) (.seq (.reg [io 35 .bad,io 36 .bad,im 34 36]) (.cond (.t 34) (.seq (.reg [im 37 0,im 38 1,im 39 3,io 40 (.call (jf 142) [.t 37,.t 38,.t 39]),io 41 .bad,im 10 41]) .ret) .skip)))))))))) (.seq (.reg [im 42 4,im 10 42]) .ret))
theorem cf105:cFn Tryz.prog eqT 105=some (ZtP,[(.tmp 10)],43):=by kernel_rfl
def Zic:Zar:=.seq (.reg [io 6 (.mv jn)]) (.seq (.reg [im 10 0,im 11 1,io 12 (.slc 3 (.t 10) (some (.t 11)) none none)]) (.seq (.reg [im 13 2,io 14 (.len false (.t 13)),im 7 14]) (.seq (.seq (.reg [im 15 7,io 16 (.bin .eql (.t 15) (ik 0))]) (.cond (.t 16) (.seq (.reg [im 17 0,im 6 17]) .ret) .skip)) (.seq (.reg [im 18 0,io 19 (.len false (.t 18)),im 8 19]) (.seq (.seq (.reg [im 20 1,im 21 8,io 22 (.bin .eql (.t 20) (.t 21))]) (.cond (.t 22) (.seq (.reg [im 23 0,im 24 2,io 25 (.app 102 3 64 (.t 23) (.t 24)),im 6 25]) .ret) .skip)) (.seq (.seq (.reg [im 26 8,im 27 7,io 28 (.bin .add (.t 26) (.t 27)),im 29 0,io 30 (.cap (.t 29)),io 31 (.bin .gtr (.t 28) (.t 30))]) (.cond (.t 31) (.seq (.reg [im 32 0,im 33 1,io 34 (.slc 3 (.t 32) none (some (.t 33)) none),im 35 8,im 36 7,io 37 (.bin .add (.t 35) (.t 36)),im 38 1,io 39 (.bin .sub (.t 37) (.t 38)),io 40 .bad,im 9 40]) (.seq (.reg [im 41 9,im 42 1,io 43 (.slc 3 (.t 41) (some (.t 42)) none none),im 44 2,io 45 (.cpy 3 (.t 43) (.t 44))]) (.seq (.drw [ip (im 46 9),ip (im 47 1),ip (im 48 7),ip (io 49 (.bin .add (.t 47) (.t 48))),ip (io 50 (.slc 3 (.t 46) (some (.t 49)) none none)),ip (im 51 0),ip (im 52 1),ip (io 53 (.slc 3 (.t 51) (some (.t 52)) none none)),ip (io 54 (.cpy 3 (.t 50) (.t 53)))]) (.seq (.reg [im 55 9,im 6 55]) .ret)))) .skip)) (.seq (.reg [im 56 0,im 57 8,im 58 7,io 59 (.bin .add (.t 57) (.t 58)),io 60 (.slc 3 (.t 56) none (some (.t 59)) none),im 0 60]) (.seq (.seq (.reg [im 61 2,im 62 0,im 63 1,im 64 7,io 65 (.bin .add (.t 63) (.t 64)),io 66 (.slc 3 (.t 62) (some (.t 65)) none none),io 67 (.call (jf 143) [.t 61,.t 66]),io 68 (.un .not (.t 67))]) (.cond (.t 68) (.seq (.drw [ip (im 69 0),ip (im 70 1),ip (im 71 7),ip (io 72 (.bin .add (.t 70) (.t 71))),ip (io 73 (.slc 3 (.t 69) (some (.t 72)) none none)),ip (im 74 0),ip (im 75 1),ip (io 76 (.slc 3 (.t 74) (some (.t 75)) none none)),ip (io 77 (.cpy 3 (.t 73) (.t 76)))]) (.seq (.reg [im 78 0,im 79 1,io 80 (.slc 3 (.t 78) (some (.t 79)) none none),im 81 2,io 82 (.cpy 3 (.t 80) (.t 81))]) (.seq (.reg [im 83 0,im 6 83]) .ret))) .skip)) (.seq (.reg [im 84 0,im 85 8,io 86 (.slc 3 (.t 84) (some (.t 85)) none none),im 87 2,io 88 (.cpy 3 (.t 86) (.t 87))]) (.seq (.reg [im 89 0,im 90 1,io 91 (.slc 3 (.t 89) (some (.t 90)) none none),im 92 7,io 93 (.call (jf 144) [.t 91,.t 92])]) (.seq (.reg [im 94 0,im 6 94]) .ret)))))))))))
theorem cf106:cFn Tryz.prog eqT 106=some (Zic,[(.tmp 6)],95):=by kernel_rfl
def Zcf:Zar:=.seq (.reg [io 6 (.mv (ib false))]) (.seq (.reg [im 14 1,io 15 (.call (jf 73) [.t 14,.c (.sc (.string ⟨#[62]⟩))]),im 13 15,io 16 (.ext (.t 13) 0),io 17 (.ext (.t 13) 1),io 18 (.ext (.t 13) 2),im 7 16,im 8 17,im 9 18]) (.seq (.reg [im 20 7,io 21 (.call (jf 8) [.t 20]),im 19 21,io 22 (.ext (.t 19) 0),io 23 (.ext (.t 19) 1),im 10 22,im 11 23]) (.seq (.seq (.reg [im 24 11,io 25 (.un .not (.t 24))]) (.cond (.t 25) (.seq (.reg [io 6 (.mv (ib false))]) .ret) .skip)) (.seq (.reg [im 26 0,im 27 0,io 28 (.nck (.t 27)),io 29 (.fla 1 (.t 28)),io 30 (.ld 1 false (.t 29)),im 31 10,io 32 (.bsl 1 [.t 31]),io 33 (.app 9 1 16 (.t 30) (.t 32)),io 34 (.nck (.t 26)),io 35 (.fla 1 (.t 34)),iz (.st 1 (.t 35) (.t 33))]) (.seq (.seq (.reg [im 36 9,io 37 (.un .not (.t 36))]) (.cond (.t 37) (.seq (.reg [io 6 (.mv (ib true))]) .ret) .skip)) (.seq (.reg [im 39 8,io 40 (.call (jf 8) [.t 39]),im 38 40,io 41 (.ext (.t 38) 0),io 42 (.ext (.t 38) 1),im 12 41,im 11 42]) (.seq (.drw [ip (im 43 0),ip (im 44 0),ip (io 45 (.nck (.t 44))),ip (io 46 (.fla 2 (.t 45))),ip (io 47 (.ld 1 false (.t 46))),ip (im 48 2),ip (im 49 12),(io 50 (.call (jf 145) [.t 48,.t 49]),[io 47 (.ld 1 false (.t 46))]),ip (io 51 (.bsl 1 [.t 50])),ip (io 52 (.app 3 1 8 (.t 47) (.t 51))),ip (io 53 (.nck (.t 43))),ip (io 54 (.fla 2 (.t 53))),ip (iz (.st 1 (.t 54) (.t 52)))]) (.seq (.reg [im 55 11,im 56 55,ig 56 57 (.mv (.t 2)),ig 56 58 (.mv (.t 12)),ig 56 59 (.call (jf 146) [.t 57,.t 58]),io 60 (.pick (.t 56) (.t 59) (ib false)),im 6 60]) .ret))))))))
theorem cf107:cFn Tryz.prog eqT 107=some (Zcf,[(.tmp 6)],61):=by kernel_rfl
def c108_1:Zar:=.blk 0 (.loop (.seq (.reg [io 22 (.bin .lss (.t 21) (.t 20))]) (.seq (.cond (.t 22) .skip (.exit 0)) (.seq (.blk 1 (.seq (.reg [io 23 (.ixa 2 (.t 19) (.t 21)),io 24 (.ld 2 true (.t 23)),io 5 (.box 100 (.c (.agg [.sc (.string ⟨#[]⟩),.sl .full []]))),iz (.st 2 (.t 5) (.t 24))]) (.seq (.seq (.reg [io 25 (.ld 2 true (.t 5)),io 26 (.call (jf 147) [.t 25]),im 6 26]) (.seq (.reg [im 27 6,io 28 (.bin .neq (.t 27) (ik 0))]) (.cond (.t 28) (.seq (.reg [im 29 6,im 2 29]) .ret) .skip))) (.seq (.reg [im 30 3,io 31 (.fla 0 (.t 5)),io 32 (.ld 1 false (.t 31)),io 33 (.call (jf 148) [.t 30,.t 32]),io 34 (.un .not (.t 33))]) (.cond (.t 34) (.seq (.reg [jm 2 11]) .ret) .skip))))) (.reg [io 35 (.bin .add (.t 21) (ik 1)),im 21 35])))))
def Zeq:Zar:=.seq (.reg [io 1 (.box 76 (.t 0)),jm 2 0]) (.seq (.seq (.reg [io 7 (.fla 0 (.t 1)),io 8 (.ld 1 false (.t 7)),io 9 (.len false (.t 8)),io 10 (.bin .lss (.t 9) (ik 1)),im 11 10,ih 11 12 (.fla 0 (.t 1)),ih 11 13 (.ld 1 false (.t 12)),ih 11 14 (.len false (.t 13)),ih 11 15 (.bin .gtr (.t 14) (ik 16)),io 16 (.pick (.t 11) (ib true) (.t 15))]) (.cond (.t 16) (.seq (.reg [jm 2 5]) .ret) .skip)) (.seq (.reg [io 17 (.mkm (.one .str)),im 3 17]) (.seq (.seq (.reg [io 18 (.fla 0 (.t 1)),io 19 (.ld 1 false (.t 18)),io 20 (.len false (.t 19)),jm 21 0]) c108_1) (.seq (.reg [io 36 (.fla 1 (.t 1)),io 37 (.ld 1 false (.t 36)),io 38 (.call (jf 149) [.t 37]),im 2 38]) .ret))))
theorem cf108:cFn Tryz.prog eqT 108=some (Zeq,[(.tmp 2)],39):=by kernel_rfl
def c109_1:Zar:=.blk 0 (.loop (.seq (.seq (.reg [im 26 6,io 27 (.bin .geq (.t 26) (ik 0))]) (.cond (.t 27) .skip (.exit 0))) (.seq (.blk 1 (.seq (.drw [ip (io 31 (.fla 1 (.t 1))),ip (io 32 (.ld 1 false (.t 31))),ip (im 33 6),ip (io 34 (.ixa 3 (.t 32) (.t 33))),ip (io 35 (.ld 3 true (.t 34))),ip (io 36 (.ld 2 true (.t 1))),ip (im 37 6),(io 38 (.call (jf 151) [.t 36,.t 37]),[io 32 (.ld 1 false (.t 31)),io 35 (.ld 3 true (.t 34))]),ip (io 39 (.call (jf 150) [.t 35,.t 38])),ip (im 30 39),ip (io 40 (.ext (.t 30) 0)),ip (io 41 (.ext (.t 30) 1)),ip (im 7 40),ip (im 8 41)]) (.reg [im 42 5,im 43 7,io 44 (.bin .add (.t 42) (.t 43)),im 5 44]))) (.reg [im 28 6,io 29 (.bin .sub (.t 28) (ik 1)),im 6 29]))))
def ZfJ:Zar:=.seq (.reg [io 1 (.box 100 (.t 0)),io 2 (.mv (.c (.sc (.string ⟨#[]⟩)))),jm 3 0]) (.seq (.seq (.reg [io 9 (.ld 2 true (.t 1)),io 10 (.call (jf 147) [.t 9]),im 4 10]) (.seq (.reg [im 11 4,io 12 (.bin .neq (.t 11) (ik 0))]) (.cond (.t 12) (.seq (.reg [im 13 4,io 2 (.mv (.c (.sc (.string ⟨#[]⟩)))),im 3 13]) .ret) .skip))) (.seq (.drw [ip (io 14 (.fla 0 (.t 1))),ip (io 15 (.ld 1 false (.t 14))),ip (io 17 (.fla 1 (.t 1))),ip (io 18 (.ld 1 false (.t 17))),ip (io 19 (.len false (.t 18))),(io 16 (.call (jf 75) [.t 15]),[io 18 (.ld 1 false (.t 17))]),ip (io 20 (.call (jf 72) [.t 19])),ip (io 21 (.bin .add (.t 16) (.t 20))),ip (im 5 21)]) (.seq (.seq (.reg [io 22 (.fla 1 (.t 1)),io 23 (.ld 1 false (.t 22)),io 24 (.len false (.t 23)),io 25 (.bin .sub (.t 24) (ik 1)),im 6 25]) c109_1) (.seq (.reg [im 45 5,im 2 45,jm 3 0]) .ret))))
theorem cf109:cFn Tryz.prog eqT 109=some (ZfJ,[(.tmp 2),(.tmp 3)],46):=by kernel_rfl
def c110_2:Zar:=.blk 2 (.loop (.seq (.reg [io 29 (.bin .lss (.t 28) (.t 27))]) (.seq (.cond (.t 29) .skip (.exit 2)) (.seq (.blk 3 (.seq (.reg [io 30 (.ixa 3 (.t 26) (.t 28)),io 31 (.ld 3 true (.t 30)),io 10 (.box 102 (.c (.agg [.sc (.string ⟨#[]⟩),.sl .full [],.sl .full []]))),iz (.st 3 (.t 10) (.t 31))]) (.drw [ip (im 32 8),ip (io 33 (.fla 1 (.t 10))),ip (io 34 (.ld 1 false (.t 33))),ip (io 35 (.fla 2 (.t 2))),ip (io 36 (.ld 1 false (.t 35))),ip (im 37 6),ip (io 38 (.ixa 1 (.t 36) (.t 37))),ip (io 39 (.ld 1 false (.t 38))),ip (io 40 (.ixa 1 (.t 34) (.t 39))),ip (io 41 (.ld 1 false (.t 40))),ip (io 42 (.call (jf 7) [.t 41])),ip (io 43 (.bin .add (.c (.sc (.string ⟨#[62]⟩))) (.t 42))),ip (io 44 (.bin .add (.t 32) (.t 43))),ip (im 8 44)]))) (.reg [io 45 (.bin .add (.t 28) (ik 1)),im 28 45])))))
def c110_1:Zar:=.blk 0 (.loop (.seq (.reg [io 19 (.bin .lss (.t 18) (.t 17))]) (.seq (.cond (.t 19) .skip (.exit 0)) (.seq (.blk 1 (.seq (.reg [im 20 18,io 21 (.ixa 1 (.t 16) (.t 18)),io 22 (.ld 1 false (.t 21)),im 6 20,im 7 22]) (.seq (.reg [im 23 7,io 24 (.call (jf 7) [.t 23]),io 25 (.bin .add (.c (.sc (.string ⟨#[46]⟩))) (.t 24)),im 8 25]) (.seq (.seq (.reg [im 26 1,io 27 (.len false (.t 26)),jm 28 0]) c110_2) (.reg [im 46 5,im 47 8,io 48 (.bsl 1 [.t 47]),io 49 (.app 9 1 16 (.t 46) (.t 48)),im 5 49]))))) (.reg [io 50 (.bin .add (.t 18) (ik 1)),im 18 50])))))
def Zpi:Zar:=.seq (.reg [io 2 (.box 102 (.t 0)),io 4 (.mv jn)]) (.seq (.reg [io 11 (.fla 0 (.t 2)),io 12 (.ld 1 false (.t 11)),io 13 (.bin .add (.c (.sc (.string ⟨#[94]⟩))) (.t 12)),io 14 (.bsl 1 [.t 13]),im 5 14]) (.seq (.seq (.reg [io 15 (.fla 1 (.t 2)),io 16 (.ld 1 false (.t 15)),io 17 (.len false (.t 16)),jm 18 0]) c110_1) (.seq (.reg [im 51 5,im 4 51]) .ret)))
theorem cf110:cFn Tryz.prog eqT 110=some (Zpi,[(.tmp 4)],52):=by kernel_rfl
def c111_1:Zar:=.blk 0 (.loop (.seq (.seq (.reg [im 10 5,io 11 (.bin .geq (.t 10) (ik 0))]) (.cond (.t 11) .skip (.exit 0))) (.seq (.blk 1 (.seq (.reg [im 14 5,im 15 0,io 16 (.cnv .u8 (.t 15)),io 17 (.ixA 9 1 (.t 4) (.t 14)),iz (.st 1 (.t 17) (.t 16))]) (.reg [im 18 0,io 19 (.bin .shr (.t 18) (.c (.sc (.int .u64 8)))),im 0 19]))) (.reg [im 12 5,io 13 (.bin .sub (.t 12) (ik 1)),im 5 13]))))
def Zfr:Zar:=.seq (.reg [io 2 (.mv (.c (.sc (.string ⟨#[]⟩))))]) (.seq (.reg [im 6 0,io 7 (.call (jf 152) [.t 6]),im 3 7]) (.seq (.reg [io 4 (.box 185 (.c za2))]) (.seq (.seq (.reg [im 8 3,io 9 (.bin .sub (.t 8) (ik 1)),im 5 9]) c111_1) (.seq (.seq (.reg [im 20 3,io 21 (.bin .lss (.t 20) (ik 9))]) (.cond (.t 21) (.drw [ip (io 22 (.ixA 9 1 (.t 4) (ik 0))),ip (io 23 (.ld 1 false (.t 22))),ip (im 24 3),(io 25 (.call (jf 153) [.t 24]),[io 23 (.ld 1 false (.t 22))]),ip (io 26 (.bin .or (.t 23) (.t 25))),ip (io 27 (.ixA 9 1 (.t 4) (ik 0))),ip (iz (.st 1 (.t 27) (.t 26)))]) (.reg [im 28 3,io 29 (.call (jf 153) [.t 28]),io 30 (.ixA 9 1 (.t 4) (ik 0)),iz (.st 1 (.t 30) (.t 29))]))) (.seq (.reg [im 31 3,io 32 (.sla 9 1 (.t 4) none (some (.t 31)) none),io 33 (.sob (.t 32)),im 2 33]) .ret)))))
theorem cf111:cFn Tryz.prog eqT 111=some (Zfr,[(.tmp 2)],34):=by kernel_rfl
def Zpf:Zar:=.seq (.reg [io 4 (.mv (.c (.sc (.string ⟨#[]⟩)))),io 5 (.mv (.c (.sc (.string ⟨#[]⟩)))),io 6 (.mv (ib false))]) (.seq (.seq (.reg [im 8 0,im 9 1,io 10 (.call (jf 103) [.t 8,.t 9]),im 7 10]) (.seq (.reg [im 11 7,io 12 (.bin .geq (.t 11) (ik 0))]) (.cond (.t 12) (.seq (.drw [ip (im 13 0),ip (im 14 7),ip (io 15 (.slS (.t 13) none (some (.t 14)))),ip (im 16 0),ip (im 17 7),ip (im 18 1),ip (io 19 (.len true (.t 18))),ip (io 20 (.bin .add (.t 17) (.t 19))),ip (io 21 (.slS (.t 16) (some (.t 20)) none)),ip (im 4 15),ip (im 5 21),ip (io 6 (.mv (ib true)))]) .ret) .skip))) (.seq (.reg [im 22 0,im 4 22,io 5 (.mv (.c (.sc (.string ⟨#[]⟩)))),io 6 (.mv (ib false))]) .ret))
theorem cf112:cFn Tryz.prog eqT 112=some (Zpf,[(.tmp 4),(.tmp 5),(.tmp 6)],23):=by kernel_rfl
def ZpX:Zar:=.seq (.reg [io 3 (.box 9 (.t 0)),io 4 (.box 9 (.t 1)),io 5 (.box 3 (.t 2)),io 6 (.mv (.c (.sc .nilFunc)))]) (.seq (.reg [io 7 (.mkf 154 [] [.t 4,.t 3,.t 5]),im 6 7]) .ret)
theorem cf113:cFn Tryz.prog eqT 113=some (ZpX,[(.tmp 6)],8):=by kernel_rfl
def ZpQ:Zar:=.seq (.reg [io 2 (.mv (.c (.sc (.string ⟨#[]⟩))))]) (.seq (.reg [im 3 0,io 4 (.call (jf 155) [.t 3]),io 5 (.call (jf 111) [.t 4]),im 2 5]) .ret)
theorem cf114:cFn Tryz.prog eqT 114=some (ZpQ,[(.tmp 2)],6):=by kernel_rfl
def c115_1:Zar:=.blk 0 (.loop (.seq (.reg [io 21 (.bin .lss (.t 20) (.t 19))]) (.seq (.cond (.t 21) .skip (.exit 0)) (.seq (.blk 1 (.seq (.reg [io 22 (.ixa 1 (.t 18) (.t 20)),io 23 (.ld 1 false (.t 22)),im 8 23]) (.seq (.reg [im 24 6,im 25 8,io 26 (.call (jf 157) [.t 24,.t 25]),im 9 26]) (.seq (.drw [ip (im 27 5),ip (im 28 9),ip (im 30 8),ip (im 31 9),ip (io 32 (.slS (.t 30) (some (.t 31)) none)),ip (io 29 (.call (jf 72) [.t 28])),ip (io 33 (.call (jf 75) [.t 32])),ip (io 34 (.bin .add (.t 29) (.t 33))),ip (io 35 (.bin .add (.t 27) (.t 34))),ip (im 5 35)]) (.reg [im 36 8,im 6 36]))))) (.reg [io 37 (.bin .add (.t 20) (ik 1)),im 20 37])))))
def Zno:Zar:=.seq (.reg [io 2 (.mv (.c (.sc (.string ⟨#[]⟩)))),jm 3 0]) (.seq (.seq (.reg [im 10 0,io 11 (.call (jf 156) [.t 10]),im 4 11]) (.seq (.reg [im 12 4,io 13 (.bin .neq (.t 12) (ik 0))]) (.cond (.t 13) (.seq (.reg [im 14 4,io 2 (.mv (.c (.sc (.string ⟨#[]⟩)))),im 3 14]) .ret) .skip))) (.seq (.reg [im 15 0,io 16 (.len false (.t 15)),io 17 (.call (jf 72) [.t 16]),im 5 17,io 6 (.mv (.c (.sc (.string ⟨#[]⟩))))]) (.seq (.seq (.reg [im 18 0,io 19 (.len false (.t 18)),jm 20 0]) c115_1) (.seq (.reg [im 38 5,im 2 38,jm 3 0]) .ret))))
theorem cf115:cFn Tryz.prog eqT 115=some (Zno,[(.tmp 2),(.tmp 3)],39):=by kernel_rfl
def ZrW:Zar:=.seq (.reg [jm 2 0]) (.seq (.reg [im 3 0,io 4 (.bin .mul (.t 3) (ik 78913)),io 5 (.bin .shr (.t 4) (.c (.sc (.int .u64 18)))),im 2 5]) .ret)
theorem cf128:cFn Tryz.prog eqT 128=some (ZrW,[(.tmp 2)],6):=by kernel_rfl
def c129_0:Zar:=.seq (.reg [jm 2 0]) (.seq (.seq (.reg [im 3 0,io 4 (.bin .geq (.t 3) (.c (.sc (.int .u64 4294967296))))]) (.cond (.t 4) (.seq (.reg [im 5 0,io 6 (.bin .shr (.t 5) (.c (.sc (.int .u64 32)))),im 0 6]) (.reg [jm 2 32])) .skip)) (.seq (.seq (.reg [im 7 0,io 8 (.bin .geq (.t 7) (.c (.sc (.int .u64 65536))))]) (.cond (.t 8) (.seq (.reg [im 9 0,io 10 (.bin .shr (.t 9) (.c (.sc (.int .u64 16)))),im 0 10]) (.reg [im 11 2,io 12 (.bin .add (.t 11) (ik 16)),im 2 12])) .skip)) (.seq (.seq (.reg [im 13 0,io 14 (.bin .geq (.t 13) (.c (.sc (.int .u64 256))))]) (.cond (.t 14) (.seq (.reg [im 15 0,io 16 (.bin .shr (.t 15) (.c (.sc (.int .u64 8)))),im 0 16]) (.reg [im 17 2,io 18 (.bin .add (.t 17) (ik 8)),im 2 18])) .skip)) (.seq (.reg [im 19 2,im 20 0,io 21 (.cnv .u8 (.t 20)),io 22 (.ixs (.c (.sc (.string ⟨#[0,1,2,2,3,3,3,3,4,4,4,4,4,4,4,4,5,5,5,5,5,5,5,5,5,5,5,5,5,5,5,5,6,6,6,6,6,6,6,6,6,6,6,6,6,6,6,6,6,6,6,6,6,6,6,6,6,6,6,6,6,6,6,6,7,7,7,7,7,7,7,7,7,7,7,7,7,7,7,7,7,7,7,7,7,7,7,7,7,7,7,7,7,7,7,7,7,7,7,7,7,7,7,7,7,7,7,7,7,7,7,7,7,7,7,7,7,7,7,7,7,7,7,7,7,7,7,7,8,8,8,8,8,8,8,8,8,8,8,8,8,8,8,8,8,8,8,8,8,8,8,8,8,8,8,8,8,8,8,8,8,8,8,8,8,8,8,8,8,8,8,8,8,8,8,8,8,8,8,8,8,8,8,8,8,8,8,8,8,8,8,8,8,8,8,8,8,8,8,8,8,8,8,8,8,8,8,8,8,8,8,8,8,8,8,8,8,8,8,8,8,8,8,8,8,8,8,8,8,8,8,8,8,8,8,8,8,8,8,8,8,8,8,8,8,8,8,8,8,8,8,8,8,8,8,8]⟩))) (.t 21)),io 23 (.cnv .i64 (.t 22)),io 24 (.bin .add (.t 19) (.t 23)),im 2 24]) .ret))))
theorem cf129:cFn Tryz.prog eqT 129=some (c129_0,[(.tmp 2)],25):=by kernel_rfl
def Zgs:Zar:=.seq (.reg [jm 2 0]) (.seq (.seq (.reg [im 3 0]) (.cond (.t 3) (.seq (.reg [jm 2 1]) .ret) .skip)) (.seq (.reg [jm 2 0]) .ret))
theorem cf130:cFn Tryz.prog eqT 130=some (Zgs,[(.tmp 2)],4):=by kernel_rfl
def Zds:Zar:=.seq (.reg [io 2 (.mv (ib false))]) (.seq (.reg [im 3 0,im 4 0,io 5 (.bin .sub (.t 4) (ik 1)),io 6 (.bin .and (.t 3) (.t 5)),io 7 (.bin .eql (.t 6) (ik 0)),im 2 7]) .ret)
theorem cf131:cFn Tryz.prog eqT 131=some (Zds,[(.tmp 2)],8):=by kernel_rfl
def ZmU:Zar:=.seq (.reg [jm 2 0]) (.seq (.cond (ib false) (.seq (.reg [im 3 0,io 4 (.cnv .u32 (.t 3)),io 5 (.call (jf 162) [.t 4]),im 2 5]) .ret) .skip) (.seq (.reg [im 6 0,io 7 (.call (jf 163) [.t 6]),im 2 7]) .ret))
theorem cf132:cFn Tryz.prog eqT 132=some (ZmU,[(.tmp 2)],8):=by kernel_rfl
def Zed:Zar:=.seq (.reg [io 2 (.mv (.c (.sc (.int .i32 0)))),jm 3 0]) (.seq (.reg [im 13 0,io 14 (.len true (.t 13)),im 4 14]) (.seq (.seq (.reg [im 15 4,io 16 (.bin .lss (.t 15) (ik 1))]) (.cond (.t 16) (.seq (.reg [io 2 (.mv (.c (.sc (.int .i32 65533)))),jm 3 0]) .ret) .skip)) (.seq (.reg [im 17 0,io 18 (.ixs (.t 17) (ik 0)),im 5 18]) (.seq (.reg [im 19 5,io 20 (.ixA 256 1 (.c (.sc (.pointer (some ⟨2,0,none⟩)))) (.t 19)),io 21 (.ld 1 false (.t 20)),im 6 21]) (.seq (.seq (.reg [im 22 6,io 23 (.bin .geq (.t 22) (.c (.sc (.int .u8 240))))]) (.cond (.t 23) (.seq (.reg [im 24 6,io 25 (.cnv .i32 (.t 24)),io 26 (.bin .shl (.t 25) (.c (.sc (.int .u64 31)))),io 27 (.bin .shr (.t 26) (.c (.sc (.int .u64 31)))),im 7 27]) (.seq (.reg [im 28 0,io 29 (.ixs (.t 28) (ik 0)),io 30 (.cnv .i32 (.t 29)),im 31 7,io 32 (.bin .andNot (.t 30) (.t 31)),im 33 7,io 34 (.bin .and (.c (.sc (.int .i32 65533))) (.t 33)),io 35 (.bin .or (.t 32) (.t 34)),im 2 35,jm 3 1]) .ret)) .skip)) (.seq (.reg [im 36 6,io 37 (.bin .and (.t 36) (.c (.sc (.int .u8 7)))),io 38 (.cnv .i64 (.t 37)),im 8 38]) (.seq (.reg [im 39 6,io 40 (.bin .shr (.t 39) (.c (.sc (.int .u64 4)))),io 41 (.ixA 16 2 (.c (.sc (.pointer (some ⟨3,0,none⟩)))) (.t 40)),io 42 (.ld 2 true (.t 41)),io 9 (.box 196 (.c (.agg [.sc (.int .u8 0),.sc (.int .u8 0)]))),iz (.st 2 (.t 9) (.t 42))]) (.seq (.seq (.reg [im 43 4,im 44 8,io 45 (.bin .lss (.t 43) (.t 44))]) (.cond (.t 45) (.seq (.reg [io 2 (.mv (.c (.sc (.int .i32 65533)))),jm 3 1]) .ret) .skip)) (.seq (.reg [im 46 0,io 47 (.ixs (.t 46) (ik 1)),im 10 47]) (.seq (.seq (.reg [im 48 10,io 49 (.fla 0 (.t 9)),io 50 (.ld 1 false (.t 49)),io 51 (.bin .lss (.t 48) (.t 50)),im 52 51,ih 52 53 (.fla 1 (.t 9)),ih 52 54 (.ld 1 false (.t 53)),ih 52 55 (.mv (.t 10)),ih 52 56 (.bin .lss (.t 54) (.t 55)),io 57 (.pick (.t 52) (ib true) (.t 56))]) (.cond (.t 57) (.seq (.reg [io 2 (.mv (.c (.sc (.int .i32 65533)))),jm 3 1]) .ret) .skip)) (.seq (.seq (.reg [im 58 8,io 59 (.bin .leq (.t 58) (ik 2))]) (.cond (.t 59) (.seq (.reg [im 60 5,io 61 (.bin .and (.t 60) (.c (.sc (.int .u8 31)))),io 62 (.cnv .i32 (.t 61)),io 63 (.bin .shl (.t 62) (.c (.sc (.int .u64 6)))),im 64 10,io 65 (.bin .and (.t 64) (.c (.sc (.int .u8 63)))),io 66 (.cnv .i32 (.t 65)),io 67 (.bin .or (.t 63) (.t 66)),im 2 67,jm 3 2]) .ret) .skip)) (.seq (.reg [im 68 0,io 69 (.ixs (.t 68) (ik 2)),im 11 69]) (.seq (.seq (.reg [im 70 11,io 71 (.bin .lss (.t 70) (.c (.sc (.int .u8 128)))),im 72 71,ih 72 73 (.mv (.t 11)),ih 72 74 (.bin .lss (.c (.sc (.int .u8 191))) (.t 73)),io 75 (.pick (.t 72) (ib true) (.t 74))]) (.cond (.t 75) (.seq (.reg [io 2 (.mv (.c (.sc (.int .i32 65533)))),jm 3 1]) .ret) .skip)) (.seq (.seq (.reg [im 76 8,io 77 (.bin .leq (.t 76) (ik 3))]) (.cond (.t 77) (.seq (.reg [im 78 5,io 79 (.bin .and (.t 78) (.c (.sc (.int .u8 15)))),io 80 (.cnv .i32 (.t 79)),io 81 (.bin .shl (.t 80) (.c (.sc (.int .u64 12)))),im 82 10,io 83 (.bin .and (.t 82) (.c (.sc (.int .u8 63)))),io 84 (.cnv .i32 (.t 83)),io 85 (.bin .shl (.t 84) (.c (.sc (.int .u64 6)))),io 86 (.bin .or (.t 81) (.t 85)),im 87 11,io 88 (.bin .and (.t 87) (.c (.sc (.int .u8 63)))),io 89 (.cnv .i32 (.t 88)),io 90 (.bin .or (.t 86) (.t 89)),im 2 90,jm 3 3]) .ret) .skip)) (.seq (.reg [im 91 0,io 92 (.ixs (.t 91) (ik 3)),im 12 92]) (.seq (.seq (.reg [im 93 12,io 94 (.bin .lss (.t 93) (.c (.sc (.int .u8 128)))),im 95 94,ih 95 96 (.mv (.t 12)),ih 95 97 (.bin .lss (.c (.sc (.int .u8 191))) (.t 96)),io 98 (.pick (.t 95) (ib true) (.t 97))]) (.cond (.t 98) (.seq (.reg [io 2 (.mv (.c (.sc (.int .i32 65533)))),jm 3 1]) .ret) .skip)) (.seq (.reg [im 99 5,io 100 (.bin .and (.t 99) (.c (.sc (.int .u8 7)))),io 101 (.cnv .i32 (.t 100)),io 102 (.bin .shl (.t 101) (.c (.sc (.int .u64 18)))),im 103 10,io 104 (.bin .and (.t 103) (.c (.sc (.int .u8 63)))),io 105 (.cnv .i32 (.t 104)),io 106 (.bin .shl (.t 105) (.c (.sc (.int .u64 12)))),io 107 (.bin .or (.t 102) (.t 106)),im 108 11,io 109 (.bin .and (.t 108) (.c (.sc (.int .u8 63)))),io 110 (.cnv .i32 (.t 109)),io 111 (.bin .shl (.t 110) (.c (.sc (.int .u64 6)))),io 112 (.bin .or (.t 107) (.t 111)),im 113 12,io 114 (.bin .and (.t 113) (.c (.sc (.int .u8 63)))),io 115 (.cnv .i32 (.t 114)),io 116 (.bin .or (.t 112) (.t 115)),im 2 116,jm 3 4]) .ret)))))))))))))))))
theorem cf134:cFn Tryz.prog eqT 134=some (Zed,[(.tmp 2),(.tmp 3)],117):=by kernel_rfl
def c138_1:Zar:=.blk 3 (.loop (.seq (.reg [io 102 (.bin .lss (.t 101) (.t 100))]) (.seq (.cond (.t 102) .skip (.exit 3)) (.seq (.blk 4 (.seq (.reg [io 103 (.ixa 1 (.t 99) (.t 101)),io 104 (.ld 1 false (.t 103)),im 15 104]) (.seq (.reg [io 16 (.mv (.c (.sc (.int .u8 0))))]) (.seq (.blk 5 (.seq (.reg [im 107 15,io 108 (.bin .eql (.t 107) (.c (.sc (.int .u8 95)))),im 109 108,ig 109 110 (.mv (.t 8)),io 111 (.pick (.t 109) (.t 110) (ib false)),im 106 111]) (.cond (.t 106) (.seq (.reg [io 12 (.mv (ib true))]) (.exit 4)) (.seq (.reg [im 113 15,io 114 (.bin .leq (.c (.sc (.int .u8 48))) (.t 113)),im 115 114,ig 115 116 (.mv (.t 15)),ig 115 117 (.bin .leq (.t 116) (.c (.sc (.int .u8 57)))),io 118 (.pick (.t 115) (.t 117) (ib false)),im 112 118]) (.cond (.t 112) (.reg [im 119 15,io 120 (.bin .sub (.t 119) (.c (.sc (.int .u8 48)))),im 16 120]) (.seq (.reg [im 122 15,io 123 (.call (jf 165) [.t 122]),io 124 (.bin .leq (.c (.sc (.int .u8 97))) (.t 123)),im 125 124,ig 125 126 (.mv (.t 15)),ig 125 127 (.call (jf 165) [.t 126]),ig 125 128 (.bin .leq (.t 127) (.c (.sc (.int .u8 122)))),io 129 (.pick (.t 125) (.t 128) (ib false)),im 121 129]) (.cond (.t 121) (.reg [im 130 15,io 131 (.call (jf 165) [.t 130]),io 132 (.bin .sub (.t 131) (.c (.sc (.int .u8 97)))),io 133 (.bin .add (.t 132) (.c (.sc (.int .u8 10)))),im 16 133]) (.seq (.reg [io 105 .bad,io 6 (.mv (.c (.sc (.int .u64 0)))),im 7 105]) .ret)))))))) (.seq (.seq (.reg [im 134 16,im 135 1,io 136 (.cnv .u8 (.t 135)),io 137 (.bin .geq (.t 134) (.t 136))]) (.cond (.t 137) (.seq (.reg [io 138 .bad,io 6 (.mv (.c (.sc (.int .u64 0)))),im 7 138]) .ret) .skip)) (.seq (.seq (.reg [im 139 13,im 140 10,io 141 (.bin .geq (.t 139) (.t 140))]) (.cond (.t 141) (.seq (.reg [im 142 11,io 143 .bad,im 6 142,im 7 143]) .ret) .skip)) (.seq (.reg [im 144 13,im 145 1,io 146 (.cnv .u64 (.t 145)),io 147 (.bin .mul (.t 144) (.t 146)),im 13 147]) (.seq (.reg [im 148 13,im 149 16,io 150 (.cnv .u64 (.t 149)),io 151 (.bin .add (.t 148) (.t 150)),im 17 151]) (.seq (.seq (.reg [im 152 17,im 153 13,io 154 (.bin .lss (.t 152) (.t 153)),im 155 154,ih 155 156 (.mv (.t 17)),ih 155 157 (.mv (.t 11)),ih 155 158 (.bin .gtr (.t 156) (.t 157)),io 159 (.pick (.t 155) (ib true) (.t 158))]) (.cond (.t 159) (.seq (.reg [im 160 11,io 161 .bad,im 6 160,im 7 161]) .ret) .skip)) (.reg [im 162 17,im 13 162])))))))))) (.reg [io 163 (.bin .add (.t 101) (ik 1)),im 101 163])))))
def c138_0:Zar:=.seq (.reg [io 6 (.mv (.c (.sc (.int .u64 0)))),io 7 (.mv (.c (.sc .nilIface)))]) (.seq (.seq (.reg [im 18 0,io 19 (.bin .eql (.t 18) (.c (.sc (.string ⟨#[]⟩))))]) (.cond (.t 19) (.seq (.reg [io 20 .bad,io 6 (.mv (.c (.sc (.int .u64 0)))),im 7 20]) .ret) .skip)) (.seq (.reg [im 21 1,io 22 (.bin .eql (.t 21) (ik 0)),im 8 22]) (.seq (.reg [im 23 0,im 9 23]) (.seq (.blk 0 (.seq (.reg [im 26 1,io 27 (.bin .leq (ik 2) (.t 26)),im 28 27,ig 28 29 (.mv (.t 1)),ig 28 30 (.bin .leq (.t 29) (ik 36)),io 31 (.pick (.t 28) (.t 30) (ib false)),im 25 31]) (.cond (.t 25) .skip (.seq (.reg [im 33 1,io 34 (.bin .eql (.t 33) (ik 0)),im 32 34]) (.cond (.t 32) (.seq (.reg [jm 1 10]) (.seq (.reg [im 35 0,io 36 (.ixs (.t 35) (ik 0)),io 37 (.bin .eql (.t 36) (.c (.sc (.int .u8 48))))]) (.cond (.t 37) (.blk 1 (.seq (.reg [im 41 0,io 42 (.len true (.t 41)),io 43 (.bin .geq (.t 42) (ik 3)),im 44 43,ig 44 45 (.mv (.t 0)),ig 44 46 (.ixs (.t 45) (ik 1)),ig 44 47 (.call (jf 165) [.t 46]),ig 44 48 (.bin .eql (.t 47) (.c (.sc (.int .u8 98)))),io 49 (.pick (.t 44) (.t 48) (ib false)),im 40 49]) (.cond (.t 40) (.seq (.reg [jm 1 2]) (.reg [im 50 0,io 51 (.slS (.t 50) (some (ik 2)) none),im 0 51])) (.seq (.reg [im 53 0,io 54 (.len true (.t 53)),io 55 (.bin .geq (.t 54) (ik 3)),im 56 55,ig 56 57 (.mv (.t 0)),ig 56 58 (.ixs (.t 57) (ik 1)),ig 56 59 (.call (jf 165) [.t 58]),ig 56 60 (.bin .eql (.t 59) (.c (.sc (.int .u8 111)))),io 61 (.pick (.t 56) (.t 60) (ib false)),im 52 61]) (.cond (.t 52) (.seq (.reg [jm 1 8]) (.reg [im 62 0,io 63 (.slS (.t 62) (some (ik 2)) none),im 0 63])) (.seq (.reg [im 65 0,io 66 (.len true (.t 65)),io 67 (.bin .geq (.t 66) (ik 3)),im 68 67,ig 68 69 (.mv (.t 0)),ig 68 70 (.ixs (.t 69) (ik 1)),ig 68 71 (.call (jf 165) [.t 70]),ig 68 72 (.bin .eql (.t 71) (.c (.sc (.int .u8 120)))),io 73 (.pick (.t 68) (.t 72) (ib false)),im 64 73]) (.cond (.t 64) (.seq (.reg [jm 1 16]) (.reg [im 74 0,io 75 (.slS (.t 74) (some (ik 2)) none),im 0 75])) (.seq (.reg [jm 1 8]) (.reg [im 38 0,io 39 (.slS (.t 38) (some (ik 1)) none),im 0 39]))))))))) .skip))) (.seq (.reg [io 24 .bad,io 6 (.mv (.c (.sc (.int .u64 0)))),im 7 24]) .ret)))))) (.seq (.seq (.reg [im 76 2,io 77 (.bin .eql (.t 76) (ik 0))]) (.cond (.t 77) (.reg [jm 2 64]) (.seq (.reg [im 78 2,io 79 (.bin .lss (.t 78) (ik 0)),im 80 79,ih 80 81 (.mv (.t 2)),ih 80 82 (.bin .gtr (.t 81) (ik 64)),io 83 (.pick (.t 80) (ib true) (.t 82))]) (.cond (.t 83) (.seq (.reg [io 84 .bad,io 6 (.mv (.c (.sc (.int .u64 0)))),im 7 84]) .ret) .skip)))) (.seq (.reg [io 10 (.mv (.c (.sc (.int .u64 0))))]) (.seq (.seq (.reg [im 85 1]) (.blk 2 (.seq (.reg [io 91 (.bin .eql (.t 85) (ik 10)),im 90 91]) (.cond (.t 90) (.reg [io 10 (.mv (.c (.sc (.int .u64 1844674407370955162))))]) (.seq (.reg [io 93 (.bin .eql (.t 85) (ik 16)),im 92 93]) (.cond (.t 92) (.reg [io 10 (.mv (.c (.sc (.int .u64 1152921504606846976))))]) (.reg [im 86 1,io 87 (.cnv .u64 (.t 86)),io 88 (.bin .quo (.c (.sc (.int .u64 18446744073709551615))) (.t 87)),io 89 (.bin .add (.t 88) (.c (.sc (.int .u64 1)))),im 10 89]))))))) (.seq (.reg [im 94 2,io 95 (.cnv .u64 (.t 94)),io 96 (.bin .shl (.c (.sc (.int .u64 1))) (.t 95)),io 97 (.bin .sub (.t 96) (.c (.sc (.int .u64 1)))),im 11 97]) (.seq (.reg [io 12 (.mv (ib false))]) (.seq (.reg [io 13 (.mv (.c (.sc (.int .u64 0))))]) (.seq (.seq (.reg [im 98 0,io 99 .bad,io 100 (.len false (.t 99)),jm 101 0]) c138_1) (.seq (.seq (.reg [im 164 12,im 165 164,ig 165 166 (.mv (.t 9)),ig 165 167 (.call (jf 166) [.t 166]),ig 165 168 (.un .not (.t 167)),io 169 (.pick (.t 165) (.t 168) (ib false))]) (.cond (.t 169) (.seq (.reg [io 170 .bad,io 6 (.mv (.c (.sc (.int .u64 0)))),im 7 170]) .ret) .skip)) (.seq (.reg [im 171 13,im 6 171,io 7 (.mv (.c (.sc .nilIface)))]) .ret)))))))))))))
theorem cf138:cFn Tryz.prog eqT 138=some (c138_0,[(.tmp 6),(.tmp 7)],172):=by kernel_rfl
def Zka:Zar:=.seq (.reg [io 4 (.mv (.c (.sc (.pointer none))))]) (.seq (.drw [ip (im 5 0),ip (im 6 1),ip (io 8 (.ld 1 false (.c (.sc (.pointer (some ⟨4,0,none⟩)))))),(io 7 (.call (jf 167) [.t 6]),[io 8 (.ld 1 false (.c (.sc (.pointer (some ⟨4,0,none⟩)))))]),ip (io 9 (.bld [.sc (.string ⟨#[]⟩),.sc (.string ⟨#[]⟩),.sc .nilIface] [(0,(1,.t 5)),(1,(1,.t 7)),(2,(1,.t 8))])),ip (io 10 (.box 201 (.t 9))),ip (im 4 10)]) .ret)
theorem cf139:cFn Tryz.prog eqT 139=some (Zka,[(.tmp 4)],11):=by kernel_rfl
def ZfC:Zar:=.seq (.reg [io 4 (.mv (.c (.sc (.pointer none))))]) (.seq (.drw [ip (im 5 0),ip (im 6 1),ip (io 8 (.ld 1 false (.c (.sc (.pointer (some ⟨5,0,none⟩)))))),(io 7 (.call (jf 167) [.t 6]),[io 8 (.ld 1 false (.c (.sc (.pointer (some ⟨5,0,none⟩)))))]),ip (io 9 (.bld [.sc (.string ⟨#[]⟩),.sc (.string ⟨#[]⟩),.sc .nilIface] [(0,(1,.t 5)),(1,(1,.t 7)),(2,(1,.t 8))])),ip (io 10 (.box 201 (.t 9))),ip (im 4 10)]) .ret)
theorem cf140:cFn Tryz.prog eqT 140=some (ZfC,[(.tmp 4)],11):=by kernel_rfl
def ZdK:Zar:=.seq (.reg [io 6 (.mv (.c (.sc (.pointer none))))]) (.seq (.reg [im 7 0,im 8 1,io 9 (.call (jf 167) [.t 8]),im 10 2,io 11 (.call (jf 33) [.t 10]),io 12 (.bin .add (.c (.sc (.string ⟨#[105,110,118,97,108,105,100,32,98,97,115,101,32]⟩))) (.t 11)),io 13 (.call (jf 168) [.t 12]),io 14 (.bld [.sc (.string ⟨#[]⟩),.sc (.string ⟨#[]⟩),.sc .nilIface] [(0,(1,.t 7)),(1,(1,.t 9)),(2,(1,.t 13))]),io 15 (.box 201 (.t 14)),im 6 15]) .ret)
theorem cf141:cFn Tryz.prog eqT 141=some (ZdK,[(.tmp 6)],16):=by kernel_rfl
def ZcY:Zar:=.seq (.reg [io 6 (.mv (.c (.sc (.pointer none))))]) (.seq (.reg [im 7 0,im 8 1,io 9 (.call (jf 167) [.t 8]),im 10 2,io 11 (.call (jf 33) [.t 10]),io 12 (.bin .add (.c (.sc (.string ⟨#[105,110,118,97,108,105,100,32,98,105,116,32,115,105,122,101,32]⟩))) (.t 11)),io 13 (.call (jf 168) [.t 12]),io 14 (.bld [.sc (.string ⟨#[]⟩),.sc (.string ⟨#[]⟩),.sc .nilIface] [(0,(1,.t 7)),(1,(1,.t 9)),(2,(1,.t 13))]),io 15 (.box 201 (.t 14)),im 6 15]) .ret)
theorem cf142:cFn Tryz.prog eqT 142=some (ZcY,[(.tmp 6)],16):=by kernel_rfl
def ZeX:Zar:=.reg [im 4 0,im 5 0,io 6 (.len false (.t 5)),im 7 1,io 8 (.bin .sub (.t 6) (.t 7)),io 9 (.call (jf 169) [.t 4,.t 8])]
theorem cf144:cFn Tryz.prog eqT 144=some (ZeX,[],10):=by kernel_rfl
def c145_1:Zar:=.blk 0 (.loop (.seq (.reg [io 9 (.bin .lss (.t 8) (.t 7))]) (.seq (.cond (.t 9) .skip (.exit 0)) (.seq (.blk 1 (.seq (.reg [im 10 8,im 5 10]) (.seq (.reg [im 11 1,im 12 0,im 13 5,io 14 (.ixa 1 (.t 12) (.t 13)),io 15 (.ld 1 false (.t 14)),io 16 (.bin .eql (.t 11) (.t 15))]) (.cond (.t 16) (.seq (.reg [im 17 5,im 4 17]) .ret) .skip)))) (.reg [io 18 (.bin .add (.t 8) (ik 1)),im 8 18])))))
def ZpP:Zar:=.seq (.reg [jm 4 0]) (.seq (.seq (.reg [im 6 0,io 7 (.len false (.t 6)),jm 8 0]) c145_1) (.seq (.reg [jm 4 (-1)]) .ret))
theorem cf145:cFn Tryz.prog eqT 145=some (ZpP,[(.tmp 4)],19):=by kernel_rfl
def Zou:Zar:=.seq (.reg [io 4 (.mv (ib false))]) (.seq (.reg [im 5 0,im 6 1,io 7 (.call (jf 145) [.t 5,.t 6]),io 8 (.bin .geq (.t 7) (ik 0)),im 4 8]) .ret)
theorem cf146:cFn Tryz.prog eqT 146=some (Zou,[(.tmp 4)],9):=by kernel_rfl
def c147_1:Zar:=.blk 0 (.loop (.seq (.reg [io 29 (.bin .lss (.t 28) (.t 27))]) (.seq (.cond (.t 29) .skip (.exit 0)) (.seq (.blk 1 (.seq (.reg [im 30 28,io 31 (.ixa 3 (.t 26) (.t 28)),io 32 (.ld 3 true (.t 31)),io 6 (.box 102 (.c (.agg [.sc (.string ⟨#[]⟩),.sl .full [],.sl .full []]))),im 5 30,iz (.st 3 (.t 6) (.t 32))]) (.seq (.seq (.drw [ip (io 33 (.ld 3 true (.t 6))),ip (io 34 (.ld 2 true (.t 1))),ip (im 35 5),(io 36 (.call (jf 151) [.t 34,.t 35]),[io 33 (.ld 3 true (.t 6))]),ip (io 37 (.call (jf 171) [.t 33,.t 36])),ip (im 7 37)]) (.seq (.reg [im 38 7,io 39 (.bin .neq (.t 38) (ik 0))]) (.cond (.t 39) (.seq (.reg [im 40 7,im 2 40]) .ret) .skip))) (.seq (.reg [im 41 4,io 42 (.fla 0 (.t 6)),io 43 (.ld 1 false (.t 42)),io 44 (.lkp (.one .str) (.sc (.int .i64 0)) false (.t 41) (.t 43)),io 45 (.bin .add (.t 44) (ik 1)),iz (.mup (.one .str) (.t 41) (.t 43) (.t 45))]) (.seq (.reg [im 46 4,io 47 (.fla 0 (.t 6)),io 48 (.ld 1 false (.t 47)),io 49 (.lkp (.one .str) (.sc (.int .i64 0)) false (.t 46) (.t 48)),io 50 (.bin .gtr (.t 49) (ik 1))]) (.cond (.t 50) (.seq (.reg [jm 2 11]) .ret) .skip)))))) (.reg [io 51 (.bin .add (.t 28) (ik 1)),im 28 51])))))
def ZqT:Zar:=.seq (.reg [io 1 (.box 100 (.t 0)),jm 2 0]) (.seq (.seq (.reg [io 8 (.fla 0 (.t 1)),io 9 (.ld 1 false (.t 8)),io 10 (.call (jf 170) [.t 9]),im 3 10]) (.seq (.reg [im 11 3,io 12 (.bin .neq (.t 11) (ik 0))]) (.cond (.t 12) (.seq (.reg [im 13 3,im 2 13]) .ret) .skip))) (.seq (.seq (.reg [io 14 (.fla 1 (.t 1)),io 15 (.ld 1 false (.t 14)),io 16 (.len false (.t 15)),io 17 (.bin .lss (.t 16) (ik 1)),im 18 17,ih 18 19 (.fla 1 (.t 1)),ih 18 20 (.ld 1 false (.t 19)),ih 18 21 (.len false (.t 20)),ih 18 22 (.bin .gtr (.t 21) (ik 4)),io 23 (.pick (.t 18) (ib true) (.t 22))]) (.cond (.t 23) (.seq (.reg [jm 2 5]) .ret) .skip)) (.seq (.reg [io 24 (.mkm (.one .str)),im 4 24]) (.seq (.seq (.reg [io 25 (.fla 1 (.t 1)),io 26 (.ld 1 false (.t 25)),io 27 (.len false (.t 26)),jm 28 0]) c147_1) (.seq (.reg [jm 2 0]) .ret)))))
theorem cf147:cFn Tryz.prog eqT 147=some (ZqT,[(.tmp 2)],52):=by kernel_rfl
def ZcC:Zar:=.seq (.reg [io 4 (.mv (ib false))]) (.seq (.reg [im 5 0,im 6 1,io 7 (.lkp (.one .str) (.sc (.int .i64 0)) false (.t 5) (.t 6)),io 8 (.bin .add (.t 7) (ik 1)),iz (.mup (.one .str) (.t 5) (.t 6) (.t 8))]) (.seq (.reg [im 9 0,im 10 1,io 11 (.lkp (.one .str) (.sc (.int .i64 0)) false (.t 9) (.t 10)),io 12 (.bin .eql (.t 11) (ik 1)),im 4 12]) .ret))
theorem cf148:cFn Tryz.prog eqT 148=some (ZcC,[(.tmp 4)],13):=by kernel_rfl
def c149_1:Zar:=.blk 0 (.loop (.seq (.reg [io 19 (.bin .lss (.t 18) (.t 17))]) (.seq (.cond (.t 19) .skip (.exit 0)) (.seq (.blk 1 (.seq (.reg [io 20 (.ixa 1 (.t 16) (.t 18)),io 21 (.ld 1 false (.t 20)),im 5 21]) (.seq (.seq (.reg [im 22 5,io 23 (.call (jf 170) [.t 22]),im 6 23]) (.seq (.reg [im 24 6,io 25 (.bin .neq (.t 24) (ik 0))]) (.cond (.t 25) (.seq (.reg [im 26 6,im 2 26]) .ret) .skip))) (.seq (.reg [im 27 3,im 28 5,io 29 (.call (jf 148) [.t 27,.t 28]),io 30 (.un .not (.t 29))]) (.cond (.t 30) (.seq (.reg [jm 2 11]) .ret) .skip))))) (.reg [io 31 (.bin .add (.t 18) (ik 1)),im 18 31])))))
def Zu7:Zar:=.seq (.reg [jm 2 0]) (.seq (.seq (.reg [im 7 0,io 8 (.len false (.t 7)),io 9 (.bin .lss (.t 8) (ik 1)),im 10 9,ih 10 11 (.mv (.t 0)),ih 10 12 (.len false (.t 11)),ih 10 13 (.bin .gtr (.t 12) (ik 3)),io 14 (.pick (.t 10) (ib true) (.t 13))]) (.cond (.t 14) (.seq (.reg [jm 2 5]) .ret) .skip)) (.seq (.reg [io 15 (.mkm (.one .str)),im 3 15]) (.seq (.seq (.reg [im 16 0,io 17 (.len false (.t 16)),jm 18 0]) c149_1) (.seq (.reg [jm 2 0]) .ret))))
theorem cf149:cFn Tryz.prog eqT 149=some (Zu7,[(.tmp 2)],32):=by kernel_rfl
def c150_1:Zar:=.blk 0 (.loop (.seq (.reg [io 33 (.bin .lss (.t 32) (.t 31))]) (.seq (.cond (.t 33) .skip (.exit 0)) (.seq (.blk 1 (.seq (.reg [io 34 (.ixa 1 (.t 30) (.t 32)),io 35 (.ld 1 false (.t 34)),im 11 35]) (.reg [im 36 9,im 37 11,io 38 (.call (jf 72) [.t 37]),io 39 (.bin .add (.t 36) (.t 38)),im 9 39]))) (.reg [io 40 (.bin .add (.t 32) (ik 1)),im 32 40])))))
def Zcx:Zar:=.seq (.reg [io 2 (.box 102 (.t 0)),io 4 (.mv (.c (.sc (.string ⟨#[]⟩)))),jm 5 0]) (.seq (.seq (.reg [io 12 (.ld 3 true (.t 2)),im 13 1,io 14 (.call (jf 171) [.t 12,.t 13]),im 6 14]) (.seq (.reg [im 15 6,io 16 (.bin .neq (.t 15) (ik 0))]) (.cond (.t 16) (.seq (.reg [im 17 6,io 4 (.mv (.c (.sc (.string ⟨#[]⟩)))),im 5 17]) .ret) .skip))) (.seq (.reg [io 19 (.fla 1 (.t 2)),io 20 (.ld 1 false (.t 19)),io 21 (.call (jf 115) [.t 20]),im 18 21,io 22 (.ext (.t 18) 0),io 23 (.ext (.t 18) 1),im 7 22,im 8 23]) (.seq (.reg [io 24 (.fla 0 (.t 2)),io 25 (.ld 1 false (.t 24)),io 26 (.call (jf 75) [.t 25]),im 27 7,io 28 (.bin .add (.t 26) (.t 27)),im 9 28]) (.seq (.seq (.reg [io 29 (.fla 2 (.t 2)),io 30 (.ld 1 false (.t 29)),io 31 (.len false (.t 30)),jm 32 0]) c150_1) (.seq (.reg [im 41 9,im 4 41,jm 5 0]) .ret)))))
theorem cf150:cFn Tryz.prog eqT 150=some (Zcx,[(.tmp 4),(.tmp 5)],42):=by kernel_rfl
def Zfk:Zar:=.seq (.reg [io 2 (.box 100 (.t 0)),jm 4 0]) (.seq (.seq (.reg [im 5 1,io 6 (.bin .add (.t 5) (ik 1)),io 7 (.fla 1 (.t 2)),io 8 (.ld 1 false (.t 7)),io 9 (.len false (.t 8)),io 10 (.bin .lss (.t 6) (.t 9))]) (.cond (.t 10) (.seq (.reg [io 11 (.fla 1 (.t 2)),io 12 (.ld 1 false (.t 11)),im 13 1,io 14 (.bin .add (.t 13) (ik 1)),io 15 (.ixa 3 (.t 12) (.t 14)),io 16 (.fla 1 (.t 15)),io 17 (.ld 1 false (.t 16)),io 18 (.len false (.t 17)),im 4 18]) .ret) .skip)) (.seq (.reg [jm 4 0]) .ret))
theorem cf151:cFn Tryz.prog eqT 151=some (Zfk,[(.tmp 4)],19):=by kernel_rfl
def c152_1:Zar:=.blk 0 (.loop (.seq (.seq (.reg [im 4 3,io 5 (.bin .lss (.t 4) (ik 9))]) (.cond (.t 5) .skip (.exit 0))) (.seq (.blk 1 (.seq (.reg [im 8 0,im 9 3,io 10 (.bin .mul (ik 7) (.t 9)),io 11 (.bin .shr (.t 8) (.t 10)),io 12 (.bin .eql (.t 11) (.c (.sc (.int .u64 0))))]) (.cond (.t 12) (.seq (.reg [im 13 3,im 2 13]) .ret) .skip))) (.reg [im 6 3,io 7 (.bin .add (.t 6) (ik 1)),im 3 7]))))
def ZhO:Zar:=.seq (.reg [jm 2 0]) (.seq (.seq (.reg [jm 3 1]) c152_1) (.seq (.reg [jm 2 9]) .ret))
theorem cf152:cFn Tryz.prog eqT 152=some (ZhO,[(.tmp 2)],14):=by kernel_rfl
def ZuD:Zar:=.seq (.reg [io 2 (.mv (.c (.sc (.int .u8 0))))]) (.seq (.reg [im 3 0,io 4 (.bin .sub (ik 9) (.t 3)),io 5 (.bin .shl (.c (.sc (.int .u8 255))) (.t 4)),im 2 5]) .ret)
theorem cf153:cFn Tryz.prog eqT 153=some (ZuD,[(.tmp 2)],6):=by kernel_rfl
def c154_1:Zar:=.blk 0 (.loop (.seq (.seq (.reg [io 12 (.ld 1 false (.t 2)),io 13 (.len true (.t 12)),io 14 (.bin .gtr (.t 13) (ik 0))]) (.cond (.t 14) .skip (.exit 0))) (.blk 1 (.seq (.reg [io 16 (.ld 1 false (.t 2)),io 17 (.call (jf 101) [.t 16]),im 15 17,io 18 (.ext (.t 15) 0),io 19 (.ext (.t 15) 1),im 5 18,im 6 19]) (.seq (.seq (.reg [im 20 0,io 21 (.ld 1 false (.t 2)),im 22 6,io 23 (.slS (.t 21) none (some (.t 22))),io 24 (.call (.t 20) [.t 23]),io 25 (.un .not (.t 24))]) (.cond (.t 25) .ret .skip)) (.reg [io 26 (.ld 1 false (.t 2)),im 27 6,io 28 (.slS (.t 26) (some (.t 27)) none),iz (.st 1 (.t 2) (.t 28))]))))))
def c154_2:Zar:=.blk 2 (.loop (.blk 3 (.seq (.reg [io 29 (.ld 1 false (.t 2)),io 30 (.ld 1 false (.t 1)),io 31 (.call (jf 66) [.t 29,.t 30]),im 7 31]) (.seq (.seq (.reg [im 32 7,io 33 (.bin .lss (.t 32) (ik 0))]) (.cond (.t 33) (.exit 2) .skip)) (.seq (.reg [io 34 (.ld 1 false (.t 2)),im 35 7,io 36 (.ld 1 false (.t 3)),io 37 (.bin .add (.t 35) (.t 36)),io 38 (.slS (.t 34) none (some (.t 37))),im 8 38]) (.seq (.seq (.reg [im 39 0,im 40 8,io 41 (.call (.t 39) [.t 40]),io 42 (.un .not (.t 41))]) (.cond (.t 42) .ret .skip)) (.reg [io 43 (.ld 1 false (.t 2)),im 44 7,io 45 (.ld 1 false (.t 1)),io 46 (.len true (.t 45)),io 47 (.bin .add (.t 44) (.t 46)),io 48 (.slS (.t 43) (some (.t 47)) none),iz (.st 1 (.t 2) (.t 48))])))))))
def c154_0:Zar:=.seq (.seq (.reg [io 9 (.ld 1 false (.t 1)),io 10 (.len true (.t 9)),io 11 (.bin .eql (.t 10) (ik 0))]) (.cond (.t 11) (.seq c154_1 .ret) .skip)) (.seq c154_2 (.reg [im 49 0,io 50 (.ld 1 false (.t 2)),io 51 (.call (.t 49) [.t 50])]))
theorem cf154:cFn Tryz.prog eqT 154=some (c154_0,[],52):=by kernel_rfl
def Zrw:Zar:=.seq (.reg [io 2 (.mv (.c (.sc (.int .u64 0))))]) (.seq (.seq (.reg [im 3 0,io 4 (.bin .lss (.t 3) (ik 0))]) (.cond (.t 4) (.seq (.reg [im 5 0,io 6 (.un .xor (.t 5)),io 7 (.cnv .u64 (.t 6)),io 8 (.bin .shl (.t 7) (.c (.sc (.int .u64 1)))),io 9 (.bin .or (.t 8) (.c (.sc (.int .u64 1)))),im 2 9]) .ret) .skip)) (.seq (.reg [im 10 0,io 11 (.cnv .u64 (.t 10)),io 12 (.bin .shl (.t 11) (.c (.sc (.int .u64 1)))),im 2 12]) .ret))
theorem cf155:cFn Tryz.prog eqT 155=some (Zrw,[(.tmp 2)],13):=by kernel_rfl
def c156_1:Zar:=.blk 0 (.loop (.seq (.reg [io 9 (.bin .lss (.t 8) (.t 7))]) (.seq (.cond (.t 9) .skip (.exit 0)) (.seq (.blk 1 (.seq (.reg [im 10 8,io 11 (.ixa 1 (.t 6) (.t 8)),io 12 (.ld 1 false (.t 11)),im 3 10,im 4 12]) (.seq (.seq (.reg [im 13 4,io 14 (.call (jf 172) [.t 13]),im 5 14]) (.seq (.reg [im 15 5,io 16 (.bin .neq (.t 15) (ik 0))]) (.cond (.t 16) (.seq (.reg [im 17 5,im 2 17]) .ret) .skip))) (.seq (.reg [im 18 3,io 19 (.bin .gtr (.t 18) (ik 0)),im 20 19,ig 20 21 (.mv (.t 0)),ig 20 22 (.mv (.t 3)),ig 20 23 (.bin .sub (.t 22) (ik 1)),ig 20 24 (.ixa 1 (.t 21) (.t 23)),ig 20 25 (.ld 1 false (.t 24)),ig 20 26 (.mv (.t 4)),ig 20 27 (.bin .geq (.t 25) (.t 26)),io 28 (.pick (.t 20) (.t 27) (ib false))]) (.cond (.t 28) (.seq (.reg [jm 2 4]) .ret) .skip))))) (.reg [io 29 (.bin .add (.t 8) (ik 1)),im 8 29])))))
def Zr2:Zar:=.seq (.reg [jm 2 0]) (.seq (.seq (.reg [im 6 0,io 7 (.len false (.t 6)),jm 8 0]) c156_1) (.seq (.reg [jm 2 0]) .ret))
theorem cf156:cFn Tryz.prog eqT 156=some (Zr2,[(.tmp 2)],30):=by kernel_rfl
def c157_1:Zar:=.blk 0 (.loop (.seq (.seq (.drw [ip (im 6 5),ip (im 7 0),ip (io 8 (.len true (.t 7))),ip (io 9 (.bin .lss (.t 6) (.t 8))),ip (im 10 9),ip (ig 10 11 (.mv (.t 5))),ip (ig 10 12 (.mv (.t 1))),ip (ig 10 13 (.len true (.t 12))),ip (ig 10 14 (.bin .lss (.t 11) (.t 13))),ip (io 15 (.pick (.t 10) (.t 14) (ib false))),ip (im 16 15),ip (ig 16 17 (.mv (.t 0))),ip (ig 16 18 (.mv (.t 5))),ip (ig 16 19 (.ixs (.t 17) (.t 18))),ip (ig 16 20 (.mv (.t 1))),ip (ig 16 21 (.mv (.t 5))),ip (ig 16 22 (.ixs (.t 20) (.t 21))),ip (ig 16 23 (.bin .eql (.t 19) (.t 22))),ip (io 24 (.pick (.t 16) (.t 23) (ib false)))]) (.cond (.t 24) .skip (.exit 0))) (.blk 1 (.reg [im 25 5,io 26 (.bin .add (.t 25) (ik 1)),im 5 26]))))
def ZdN:Zar:=.seq (.reg [jm 4 0]) (.seq (.reg [jm 5 0]) (.seq c157_1 (.seq (.reg [im 27 5,im 4 27]) .ret)))
theorem cf157:cFn Tryz.prog eqT 157=some (ZdN,[(.tmp 4)],28):=by kernel_rfl
def c162_0:Zar:=.seq (.reg [jm 2 0]) (.seq (.seq (.reg [im 3 0,io 4 (.bin .eql (.t 3) (.c (.sc (.int .u32 0))))]) (.cond (.t 4) (.seq (.reg [jm 2 32]) .ret) .skip)) (.seq (.reg [im 5 0,im 6 0,io 7 (.un .neg (.t 6)),io 8 (.bin .and (.t 5) (.t 7)),io 9 (.bin .mul (.t 8) (.c (.sc (.int .u32 125613361)))),io 10 (.bin .shr (.t 9) (.c (.sc (.int .u64 27)))),io 11 (.ixA 32 1 (.c (.sc (.pointer (some ⟨6,0,none⟩)))) (.t 10)),io 12 (.ld 1 false (.t 11)),io 13 (.cnv .i64 (.t 12)),im 2 13]) .ret))
theorem cf162:cFn Tryz.prog eqT 162=some (c162_0,[(.tmp 2)],14):=by kernel_rfl
def ZvQ:Zar:=.seq (.reg [jm 2 0]) (.seq (.seq (.reg [im 3 0,io 4 (.bin .eql (.t 3) (.c (.sc (.int .u64 0))))]) (.cond (.t 4) (.seq (.reg [jm 2 64]) .ret) .skip)) (.seq (.reg [im 5 0,im 6 0,io 7 (.un .neg (.t 6)),io 8 (.bin .and (.t 5) (.t 7)),io 9 (.bin .mul (.t 8) (.c (.sc (.int .u64 285870213051353865)))),io 10 (.bin .shr (.t 9) (.c (.sc (.int .u64 58)))),io 11 (.ixA 64 1 (.c (.sc (.pointer (some ⟨7,0,none⟩)))) (.t 10)),io 12 (.ld 1 false (.t 11)),io 13 (.cnv .i64 (.t 12)),im 2 13]) .ret))
theorem cf163:cFn Tryz.prog eqT 163=some (ZvQ,[(.tmp 2)],14):=by kernel_rfl
def Zeo:Zar:=.seq (.reg [io 2 (.mv (.c (.sc (.int .u8 0))))]) (.seq (.reg [im 3 0,io 4 (.bin .or (.t 3) (.c (.sc (.int .u8 32)))),im 2 4]) .ret)
theorem cf165:cFn Tryz.prog eqT 165=some (Zeo,[(.tmp 2)],5):=by kernel_rfl
def c166_1:Zar:=.blk 0 (.loop (.seq (.seq (.reg [im 51 4,im 52 0,io 53 (.len true (.t 52)),io 54 (.bin .lss (.t 51) (.t 53))]) (.cond (.t 54) .skip (.exit 0))) (.seq (.blk 1 (.seq (.seq (.reg [im 57 0,im 58 4,io 59 (.ixs (.t 57) (.t 58)),io 60 (.bin .leq (.c (.sc (.int .u8 48))) (.t 59)),im 61 60,ig 61 62 (.mv (.t 0)),ig 61 63 (.mv (.t 4)),ig 61 64 (.ixs (.t 62) (.t 63)),ig 61 65 (.bin .leq (.t 64) (.c (.sc (.int .u8 57)))),io 66 (.pick (.t 61) (.t 65) (ib false)),im 67 66,ih 67 68 (.mv (.t 5)),ih 67 69 (.mv (.t 68)),ig 69 70 (.mv (.t 0)),ig 69 71 (.mv (.t 4)),ig 69 72 (.ixs (.t 70) (.t 71)),ig 69 73 (.call (jf 165) [.t 72]),ig 69 74 (.bin .leq (.c (.sc (.int .u8 97))) (.t 73)),ih 67 75 (.pick (.t 69) (.t 74) (ib false)),ih 67 76 (.mv (.t 75)),ig 76 77 (.mv (.t 0)),ig 76 78 (.mv (.t 4)),ig 76 79 (.ixs (.t 77) (.t 78)),ig 76 80 (.call (jf 165) [.t 79]),ig 76 81 (.bin .leq (.t 80) (.c (.sc (.int .u8 102)))),ih 67 82 (.pick (.t 76) (.t 81) (ib false)),io 83 (.pick (.t 67) (ib true) (.t 82))]) (.cond (.t 83) (.seq (.reg [io 3 (.mv (.c (.sc (.int .i32 48))))]) (.exit 1)) .skip)) (.seq (.seq (.reg [im 84 0,im 85 4,io 86 (.ixs (.t 84) (.t 85)),io 87 (.bin .eql (.t 86) (.c (.sc (.int .u8 95))))]) (.cond (.t 87) (.seq (.seq (.reg [im 88 3,io 89 (.bin .neq (.t 88) (.c (.sc (.int .i32 48))))]) (.cond (.t 89) (.seq (.reg [io 2 (.mv (ib false))]) .ret) .skip)) (.seq (.reg [io 3 (.mv (.c (.sc (.int .i32 95))))]) (.exit 1))) .skip)) (.seq (.seq (.reg [im 90 3,io 91 (.bin .eql (.t 90) (.c (.sc (.int .i32 95))))]) (.cond (.t 91) (.seq (.reg [io 2 (.mv (ib false))]) .ret) .skip)) (.reg [io 3 (.mv (.c (.sc (.int .i32 33))))]))))) (.reg [im 55 4,io 56 (.bin .add (.t 55) (ik 1)),im 4 56]))))
def Zk7:Zar:=.seq (.reg [io 2 (.mv (ib false))]) (.seq (.reg [io 3 (.mv (.c (.sc (.int .i32 94))))]) (.seq (.reg [jm 4 0]) (.seq (.seq (.reg [im 6 0,io 7 (.len true (.t 6)),io 8 (.bin .geq (.t 7) (ik 1)),im 9 8,ig 9 10 (.mv (.t 0)),ig 9 11 (.ixs (.t 10) (ik 0)),ig 9 12 (.bin .eql (.t 11) (.c (.sc (.int .u8 45)))),ig 9 13 (.mv (.t 12)),ih 13 14 (.mv (.t 0)),ih 13 15 (.ixs (.t 14) (ik 0)),ih 13 16 (.bin .eql (.t 15) (.c (.sc (.int .u8 43)))),ig 9 17 (.pick (.t 13) (ib true) (.t 16)),io 18 (.pick (.t 9) (.t 17) (ib false))]) (.cond (.t 18) (.reg [im 19 0,io 20 (.slS (.t 19) (some (ik 1)) none),im 0 20]) .skip)) (.seq (.reg [io 5 (.mv (ib false))]) (.seq (.seq (.reg [im 21 0,io 22 (.len true (.t 21)),io 23 (.bin .geq (.t 22) (ik 2)),im 24 23,ig 24 25 (.mv (.t 0)),ig 24 26 (.ixs (.t 25) (ik 0)),ig 24 27 (.bin .eql (.t 26) (.c (.sc (.int .u8 48)))),io 28 (.pick (.t 24) (.t 27) (ib false)),im 29 28,ig 29 30 (.mv (.t 0)),ig 29 31 (.ixs (.t 30) (ik 1)),ig 29 32 (.call (jf 165) [.t 31]),ig 29 33 (.bin .eql (.t 32) (.c (.sc (.int .u8 98)))),ig 29 34 (.mv (.t 33)),ih 34 35 (.mv (.t 0)),ih 34 36 (.ixs (.t 35) (ik 1)),ih 34 37 (.call (jf 165) [.t 36]),ih 34 38 (.bin .eql (.t 37) (.c (.sc (.int .u8 111)))),ig 29 39 (.pick (.t 34) (ib true) (.t 38)),ig 29 40 (.mv (.t 39)),ih 40 41 (.mv (.t 0)),ih 40 42 (.ixs (.t 41) (ik 1)),ih 40 43 (.call (jf 165) [.t 42]),ih 40 44 (.bin .eql (.t 43) (.c (.sc (.int .u8 120)))),ig 29 45 (.pick (.t 40) (ib true) (.t 44)),io 46 (.pick (.t 29) (.t 45) (ib false))]) (.cond (.t 46) (.seq (.reg [jm 4 2]) (.seq (.reg [io 3 (.mv (.c (.sc (.int .i32 48))))]) (.reg [im 47 0,io 48 (.ixs (.t 47) (ik 1)),io 49 (.call (jf 165) [.t 48]),io 50 (.bin .eql (.t 49) (.c (.sc (.int .u8 120)))),im 5 50]))) .skip)) (.seq c166_1 (.seq (.reg [im 92 3,io 93 (.bin .neq (.t 92) (.c (.sc (.int .i32 95)))),im 2 93]) .ret)))))))
theorem cf166:cFn Tryz.prog eqT 166=some (Zk7,[(.tmp 2)],94):=by kernel_rfl
def ZgH:Zar:=.seq (.reg [io 2 (.mv (.c (.sc (.string ⟨#[]⟩))))]) (.seq (.seq (.reg [im 4 0,io 5 (.len true (.t 4)),io 6 (.bin .eql (.t 5) (ik 0))]) (.cond (.t 6) (.seq (.reg [io 2 (.mv (.c (.sc (.string ⟨#[]⟩))))]) .ret) .skip)) (.seq (.reg [im 7 0,io 8 (.len true (.t 7)),io 9 (.mks 5 1 1 [.sc (.int .u8 0)] (.t 8) (.t 8)),im 3 9]) (.seq (.reg [im 10 3,im 11 0,io 12 (.cpy 1 (.t 10) (.t 11))]) (.seq (.reg [im 13 3,io 14 (.ixa 1 (.t 13) (ik 0)),im 15 3,io 16 (.len false (.t 15)),io 17 .bad,im 2 17]) .ret))))
theorem cf167:cFn Tryz.prog eqT 167=some (ZgH,[(.tmp 2)],18):=by kernel_rfl
def ZlK:Zar:=.seq (.reg [io 2 (.mv (.c (.sc .nilIface)))]) (.seq (.reg [im 3 0,io 4 (.bld [.sc (.string ⟨#[]⟩)] [(0,(1,.t 3))]),io 5 (.box 210 (.t 4)),io 6 .bad,im 2 6]) .ret)
theorem cf168:cFn Tryz.prog eqT 168=some (ZlK,[(.tmp 2)],7):=by kernel_rfl
def c169_0:Zar:=.seq (.reg [im 4 0,im 5 1,io 6 (.slc 3 (.t 4) none (some (.t 5)) none),io 7 (.call (jf 174) [.t 6])]) (.seq (.reg [im 8 0,im 9 1,io 10 (.slc 3 (.t 8) (some (.t 9)) none none),io 11 (.call (jf 174) [.t 10])]) (.reg [im 12 0,io 13 (.call (jf 174) [.t 12])]))
theorem cf169:cFn Tryz.prog eqT 169=some (c169_0,[],14):=by kernel_rfl
def c170_1:Zar:=.blk 0 (.loop (.seq (.reg [io 15 (.bin .lss (.t 14) (.t 13))]) (.seq (.cond (.t 15) .skip (.exit 0)) (.seq (.blk 1 (.seq (.reg [im 16 14,im 3 16]) (.seq (.reg [im 17 0,im 18 3,io 19 (.ixs (.t 17) (.t 18)),im 4 19]) (.blk 2 (.seq (.seq (.reg [im 21 4,io 22 (.bin .leq (.c (.sc (.int .u8 97))) (.t 21)),im 23 22,ig 23 24 (.mv (.t 4)),ig 23 25 (.bin .leq (.t 24) (.c (.sc (.int .u8 122)))),io 26 (.pick (.t 23) (.t 25) (ib false)),im 20 26]) (.cond (.t 20) .skip (.seq (.reg [im 27 4,io 28 (.bin .leq (.c (.sc (.int .u8 48))) (.t 27)),im 29 28,ig 29 30 (.mv (.t 4)),ig 29 31 (.bin .leq (.t 30) (.c (.sc (.int .u8 57)))),io 32 (.pick (.t 29) (.t 31) (ib false)),im 20 32]) (.cond (.t 20) .skip (.reg [im 33 4,io 34 (.bin .eql (.t 33) (.c (.sc (.int .u8 95)))),im 20 34]))))) (.cond (.t 20) .skip (.seq (.reg [jm 2 2]) .ret))))))) (.reg [io 35 (.bin .add (.t 14) (ik 1)),im 14 35])))))
def Zln:Zar:=.seq (.reg [jm 2 0]) (.seq (.seq (.reg [im 5 0,io 6 (.bin .eql (.t 5) (.c (.sc (.string ⟨#[]⟩)))),im 7 6,ih 7 8 (.mv (.t 0)),ih 7 9 (.len true (.t 8)),ih 7 10 (.bin .gtr (.t 9) (ik 12)),io 11 (.pick (.t 7) (ib true) (.t 10))]) (.cond (.t 11) (.seq (.reg [jm 2 2]) .ret) .skip)) (.seq (.seq (.reg [im 12 0,io 13 (.len true (.t 12)),jm 14 0]) c170_1) (.seq (.reg [jm 2 0]) .ret)))
theorem cf170:cFn Tryz.prog eqT 170=some (Zln,[(.tmp 2)],36):=by kernel_rfl
def c171_0:Zar:=.seq (.reg [io 2 (.box 102 (.t 0)),jm 4 0]) (.seq (.seq (.reg [io 7 (.fla 0 (.t 2)),io 8 (.ld 1 false (.t 7)),io 9 (.call (jf 170) [.t 8]),im 5 9]) (.seq (.reg [im 10 5,io 11 (.bin .neq (.t 10) (ik 0))]) (.cond (.t 11) (.seq (.reg [im 12 5,im 4 12]) .ret) .skip))) (.seq (.seq (.reg [io 13 (.fla 1 (.t 2)),io 14 (.ld 1 false (.t 13)),io 15 (.len false (.t 14)),io 16 (.bin .lss (.t 15) (ik 1)),im 17 16,ih 17 18 (.fla 1 (.t 2)),ih 17 19 (.ld 1 false (.t 18)),ih 17 20 (.len false (.t 19)),ih 17 21 (.bin .gtr (.t 20) (ik 200)),io 22 (.pick (.t 17) (ib true) (.t 21))]) (.cond (.t 22) (.seq (.reg [jm 4 5]) .ret) .skip)) (.seq (.seq (.reg [io 23 (.fla 1 (.t 2)),io 24 (.ld 1 false (.t 23)),io 25 (.call (jf 156) [.t 24]),im 6 25]) (.seq (.reg [im 26 6,io 27 (.bin .neq (.t 26) (ik 0))]) (.cond (.t 27) (.seq (.reg [im 28 6,im 4 28]) .ret) .skip))) (.seq (.seq (.reg [io 29 (.fla 2 (.t 2)),io 30 (.ld 1 false (.t 29)),io 31 (.fla 1 (.t 2)),io 32 (.ld 1 false (.t 31)),io 33 (.len false (.t 32)),im 34 1,io 35 (.call (jf 175) [.t 30,.t 33,.t 34]),io 36 (.un .not (.t 35))]) (.cond (.t 36) (.seq (.reg [jm 4 14]) .ret) .skip)) (.seq (.reg [jm 4 0]) .ret)))))
theorem cf171:cFn Tryz.prog eqT 171=some (c171_0,[(.tmp 4)],37):=by kernel_rfl
def c172_0:Zar:=.seq (.reg [jm 2 0]) (.seq (.seq (.reg [im 3 0,io 4 (.bin .eql (.t 3) (.c (.sc (.string ⟨#[]⟩)))),im 5 4,ih 5 6 (.mv (.t 0)),ih 5 7 (.len true (.t 6)),ih 5 8 (.bin .gtr (.t 7) (ik 16)),io 9 (.pick (.t 5) (ib true) (.t 8))]) (.cond (.t 9) (.seq (.reg [jm 2 2]) .ret) .skip)) (.seq (.reg [jm 2 0]) .ret))
theorem cf172:cFn Tryz.prog eqT 172=some (c172_0,[(.tmp 2)],10):=by kernel_rfl
def c174_1:Zar:=.blk 0 (.loop (.seq (.seq (.reg [im 7 2,im 8 3,io 9 (.bin .lss (.t 7) (.t 8))]) (.cond (.t 9) .skip (.exit 0))) (.seq (.blk 1 (.drw [ip (im 14 0),ip (im 15 2),ip (im 16 0),ip (im 17 3),ip (im 18 0),ip (im 19 3),ip (io 20 (.ixa 3 (.t 18) (.t 19))),ip (io 21 (.ld 3 true (.t 20))),ip (im 22 0),ip (im 23 2),ip (io 24 (.ixa 3 (.t 22) (.t 23))),ip (io 25 (.ld 3 true (.t 24))),ip (io 26 (.ixa 3 (.t 14) (.t 15))),ip (iz (.st 3 (.t 26) (.t 21))),ip (io 27 (.ixa 3 (.t 16) (.t 17))),ip (iz (.st 3 (.t 27) (.t 25)))])) (.reg [im 10 2,io 11 (.bin .add (.t 10) (ik 1)),im 12 3,io 13 (.bin .sub (.t 12) (ik 1)),im 2 11,im 3 13]))))
def c174_0:Zar:=.seq (.reg [im 4 0,io 5 (.len false (.t 4)),io 6 (.bin .sub (.t 5) (ik 1)),jm 2 0,im 3 6]) c174_1
theorem cf174:cFn Tryz.prog eqT 174=some (c174_0,[],28):=by kernel_rfl
def c175_1:Zar:=.blk 0 (.loop (.seq (.reg [io 23 (.bin .lss (.t 22) (.t 21))]) (.seq (.cond (.t 23) .skip (.exit 0)) (.seq (.blk 1 (.seq (.reg [io 24 (.ixa 1 (.t 20) (.t 22)),io 25 (.ld 1 false (.t 24)),im 9 25]) (.seq (.seq (.reg [im 26 9,io 27 (.bin .lss (.t 26) (ik 0)),im 28 27,ih 28 29 (.mv (.t 9)),ih 28 30 (.mv (.t 2)),ih 28 31 (.bin .geq (.t 29) (.t 30)),io 32 (.pick (.t 28) (ib true) (.t 31))]) (.cond (.t 32) (.seq (.reg [io 6 (.mv (ib false))]) .ret) .skip)) (.reg [im 33 7,im 34 9,iz (.mup (.one (.int .i64)) (.t 33) (.t 34) (ik 1))])))) (.reg [io 35 (.bin .add (.t 22) (ik 1)),im 22 35])))))
def c175_0:Zar:=.seq (.reg [io 6 (.mv (ib false))]) (.seq (.seq (.reg [im 10 2,io 11 (.bin .leq (.t 10) (ik 0))]) (.cond (.t 11) (.seq (.reg [im 12 0,io 13 (.len false (.t 12)),io 14 (.bin .eql (.t 13) (ik 0)),im 6 14]) .ret) .skip)) (.seq (.seq (.reg [im 15 0,io 16 (.len false (.t 15)),im 17 1,io 18 (.bin .neq (.t 16) (.t 17))]) (.cond (.t 18) (.seq (.reg [io 6 (.mv (ib false))]) .ret) .skip)) (.seq (.reg [io 19 (.mkm (.one (.int .i64))),im 7 19]) (.seq (.seq (.reg [im 20 0,io 21 (.len false (.t 20)),jm 22 0]) c175_1) (.seq (.reg [im 36 7,io 37 (.mln (.t 36)),im 38 2,io 39 (.bin .eql (.t 37) (.t 38)),im 6 39]) .ret)))))
theorem cf175:cFn Tryz.prog eqT 175=some (c175_0,[(.tmp 6)],40):=by kernel_rfl
def Zwl {α:Type}:List (FuncId×α)→FuncId→Option α
 | [],_=>none
 | (k,x) :: l,f=>bif Nat.beq f k then some x else Zwl l f
def TabAll {α:Type} (Pr:FuncId→α→Prop):List (FuncId×α)→Prop
 | []=>True
 | (k,x) :: l=>Pr k x∧TabAll Pr l
theorem Zwh {α:Type} {Pr:FuncId→α→Prop}:∀{l:List (FuncId×α)} {f:FuncId} {x:α},TabAll Pr l→Zwl l f=some x→Pr f x
 | [],f,x,_,h=>by simp[Zwl]at h
 | (k,y) :: l,f,x,ha,h=>by
  simp only[Zwl,ZwR]at h
  by_cases e:f=k
  ·subst e
   simp only[decide_true,cond_true,Option.some.injEq]at h
   subst h
   exact ha.1
  ·simp only[e,decide_false,cond_false]at h
   exact Zwh ha.2 h
def LK:List (FuncId×Zar×List Zcq×Nat):=[(3,Zxe,[(.tmp 4)],73),(6,Zna,[(.tmp 0)],35),(7,ZzR,[(.tmp 2)],28),(8,Ztx,[(.tmp 2),(.tmp 3)],57),(9,Zq4,[(.tmp 2),(.tmp 3)],58),(10,ZkB,[(.tmp 2)],30),(11,ZlE,[(.cell 2 true 2),(.tmp 3)],48),(17,ZqR,[(.tmp 2)],17),(18,Zo4,[(.tmp 4)],17),(21,Zeb,[(.tmp 2)],36),(22,Zg5,[(.tmp 2)],13),(23,Zga,[(.tmp 2)],10),(24,ZuT,[(.tmp 4)],8),(25,Zlu,[(.cell 2 true 2),(.tmp 3)],33),(26,c26_0,[(.tmp 0)],3),(27,Zdp,[(.tmp 2)],11),(33,c33_0,[(.tmp 2)],5),(35,Zvl,[(.tmp 4)],8),(38,Ztz,[(.tmp 2)],5),(41,ZsN,[(.tmp 2)],21),(44,c44_0,[(.tmp 8)],66),(45,Zq5,[(.tmp 2),(.tmp 3)],20),(46,ZrM,[(.tmp 2),(.tmp 3)],33),(47,c47_0,[(.cell 1 false 2),(.cell 1 false 3)],72),(48,ZeF,[(.tmp 2),(.tmp 3)],52),(49,ZmE,[(.tmp 2),(.tmp 3)],7),(58,ZtC,[(.tmp 2)],5),(59,Zqj,[(.tmp 4)],54),(64,ZoS,[(.tmp 4)],50),(67,Zks,[(.tmp 6),(.tmp 7)],25),(68,ZiL,[(.tmp 4)],110),(69,c69_0,[(.tmp 2),(.tmp 3)],56),(70,ZnP,[(.tmp 4)],26),(71,c71_0,[(.tmp 2)],64),(72,ZhM,[(.tmp 2)],7),(73,c73_0,[(.tmp 4),(.tmp 5),(.tmp 6)],13),(74,Znz,[(.cell 1 false 2),(.cell 1 false 3)],25),(75,c75_0,[(.tmp 2)],8),(76,Zuo,[(.tmp 4)],8),(77,ZdC,[(.tmp 2)],5),(78,ZtG,[(.tmp 2),(.tmp 3)],101),(79,ZtM,[(.tmp 2),(.tmp 3)],21),(95,Zvp,[(.tmp 2)],15),(96,ZiC,[(.tmp 2)],15),(97,ZvO,[],167),(98,c98_0,[(.tmp 10),(.tmp 11)],102),(100,Zck,[(.tmp 2)],10),(101,ZmV,[(.tmp 2),(.tmp 3)],19),(104,Zt4,[(.tmp 6),(.tmp 7)],73),(105,ZtP,[(.tmp 10)],43),(106,Zic,[(.tmp 6)],95),(107,Zcf,[(.tmp 6)],61),(108,Zeq,[(.tmp 2)],39),(109,ZfJ,[(.tmp 2),(.tmp 3)],46),(110,Zpi,[(.tmp 4)],52),(111,Zfr,[(.tmp 2)],34),(112,Zpf,[(.tmp 4),(.tmp 5),(.tmp 6)],23),(113,ZpX,[(.tmp 6)],8),(114,ZpQ,[(.tmp 2)],6),(115,Zno,[(.tmp 2),(.tmp 3)],39),(128,ZrW,[(.tmp 2)],6),(129,c129_0,[(.tmp 2)],25),(130,Zgs,[(.tmp 2)],4),(131,Zds,[(.tmp 2)],8),(132,ZmU,[(.tmp 2)],8),(134,Zed,[(.tmp 2),(.tmp 3)],117),(138,c138_0,[(.tmp 6),(.tmp 7)],172),(139,Zka,[(.tmp 4)],11),(140,ZfC,[(.tmp 4)],11),(141,ZdK,[(.tmp 6)],16),(142,ZcY,[(.tmp 6)],16),(144,ZeX,[],10),(145,ZpP,[(.tmp 4)],19),(146,Zou,[(.tmp 4)],9),(147,ZqT,[(.tmp 2)],52),(148,ZcC,[(.tmp 4)],13),(149,Zu7,[(.tmp 2)],32),(150,Zcx,[(.tmp 4),(.tmp 5)],42),(151,Zfk,[(.tmp 4)],19),(152,ZhO,[(.tmp 2)],14),(153,ZuD,[(.tmp 2)],6),(154,c154_0,[],52),(155,Zrw,[(.tmp 2)],13),(156,Zr2,[(.tmp 2)],30),(157,ZdN,[(.tmp 4)],28),(162,c162_0,[(.tmp 2)],14),(163,ZvQ,[(.tmp 2)],14),(165,Zeo,[(.tmp 2)],5),(166,Zk7,[(.tmp 2)],94),(167,ZgH,[(.tmp 2)],18),(168,ZlK,[(.tmp 2)],7),(169,c169_0,[],14),(170,Zln,[(.tmp 2)],36),(171,c171_0,[(.tmp 4)],37),(172,c172_0,[(.tmp 2)],10),(174,c174_0,[],28),(175,c175_0,[(.tmp 6)],40)]
def TK:FuncId→Option (Zar×List Zcq×Nat):=Zwl LK
theorem hTK:∀f x,TK f=some x→cFn Tryz.prog eqT f=some x:=fun f x h=>Zwh (Pr:=fun f x=>cFn Tryz.prog eqT f=some x) (l:=LK) ⟨cf3,cf6,cf7,cf8,cf9,cf10,cf11,cf17,cf18,cf21,cf22,cf23,cf24,cf25,cf26,cf27,cf33,cf35,cf38,cf41,cf44,cf45,cf46,cf47,cf48,cf49,cf58,cf59,cf64,cf67,cf68,cf69,cf70,cf71,cf72,cf73,cf74,cf75,cf76,cf77,cf78,cf79,cf95,cf96,cf97,cf98,ZkE,cf101,cf104,cf105,cf106,cf107,cf108,cf109,cf110,cf111,cf112,cf113,cf114,cf115,cf128,cf129,cf130,cf131,cf132,cf134,cf138,cf139,cf140,cf141,cf142,cf144,cf145,cf146,cf147,cf148,cf149,cf150,cf151,cf152,cf153,cf154,cf155,cf156,cf157,cf162,cf163,cf165,cf166,cf167,cf168,cf169,cf170,cf171,cf172,cf174,cf175,trivial⟩ h
open Go.RowKit Go.Lib
def XI:Zwq→FuncId→List AV→(AV→TH→Nat→Bool)→TH→Nat→Option Bool:=fun _ f args k M n=>match args with
 | [.sc (.string s),.sc (.int .u8 c)]=>bif Nat.beq f 20 then some (fV (.i (indexByte s.data.toList c.toNat.toUInt8)) fun r=>k r M n) else none
 | [.sc (.string s),.sc (.string p)]=>(match p.data.toList with
  | [c]=>bif Nat.beq f 66 then some (fV (.i (indexByte s.data.toList c)) fun r=>k r M n) else bif Nat.beq f 103 then some (fV (.i (indexByte s.data.toList c)) fun r=>k r M n) else bif Nat.beq f 65 then some (fV (.i (countByte s.data.toList c:Nat)) fun r=>k r M n) else none
  | _=>none)
 | _=>none
theorem hXI:∀call,Zv9 Tryz.prog call→∀f args k M n,XI call f args k M n=some true→Zay Tryz.prog f args (upT M n) fun r H'=>∃M' n',upT M' n'=H'∧k r M' n'=true:=by
 intro call _ f args k M n h
 unfold XI at h
 split at h
 ·rename_i s c
  cases e:Nat.beq f 20 with
  | false=>rw[e]at h;cases h
  | true =>
  rw[e,cond_true]at h
  have e:=Nat.eq_of_beq_eq_true e
  subst e
  simp only[Option.some.injEq]at h
  rw[ZwT]at h
  exact(Zy9 s c (upT M n)).mono fun r H' ⟨h1,h2⟩=>⟨M,n,h2.symm,by rw[h1];exact h⟩
 ·rename_i s p
  split at h
  ·rename_i c hc
   have hp:p=⟨#[c]⟩:=by
    apply ByteArray.ext
    apply Array.ext'
    rw[hc]
   subst hp
   cases e:Nat.beq f 66 with
   | true =>
    rw[e,cond_true]at h
    have e:=Nat.eq_of_beq_eq_true e
    subst e
    simp only[Option.some.injEq]at h
    rw[ZwT]at h
    exact(ZzL s c (upT M n)).mono fun r H' ⟨h1,h2⟩=>⟨M,n,h2.symm,by rw[h1];exact h⟩
   | false =>
    rw[e,cond_false]at h
    cases e2:Nat.beq f 103 with
    | true =>
     rw[e2,cond_true]at h
     have e2:=Nat.eq_of_beq_eq_true e2
     subst e2
     simp only[Option.some.injEq]at h
     rw[ZwT]at h
     exact(Zzs s c (upT M n)).mono fun r H' ⟨h1,h2⟩=>⟨M,n,h2.symm,by rw[h1];exact h⟩
    | false =>
     rw[e2,cond_false]at h
     cases e3:Nat.beq f 65 with
     | true =>
      rw[e3,cond_true]at h
      have e3:=Nat.eq_of_beq_eq_true e3
      subst e3
      simp only[Option.some.injEq]at h
      rw[ZwT]at h
      exact(ZzO s c (upT M n)).mono fun r H' ⟨h1,h2⟩=>⟨M,n,h2.symm,by rw[h1];exact h⟩
     | false=>rw[e3]at h;cases h
  ·cases h
 ·cases h
def isT3:AV→TH→Nat→Bool:=fun r _ _=>match r with
 | .sc (.bool true)=>true
 | _=>false
theorem isT3_ok {r:AV} {M:TH} {n:Nat} (h:isT3 r M n=true):r=.sc (.bool true):=by
 unfold isT3 at h
 split at h
 ·rfl
 ·cases h
open Go.RowKit Go.Lib
theorem Zxg {g:Gh} {H:Zaa} {w w':World} (hW:WR g H w) (hb:Below w.heap.size w w'):WR g H w'∧Stp g H w g H w':=by
 have hle:g.le g w w':=⟨fun _ _ h=>h,fun _ _ _ _ h=>⟨_,_,_,h,.inr ⟨rfl,rfl,rfl⟩⟩,fun _ _ _ h=>h,fun _ _ h=>h,fun b j h=>Zcb (hb.block b (hW.ro b j h)) j,Zyf hb.block,rfl⟩
 exact⟨⟨fun id o h=>(hW.obj id o h).mono hle (fun b h2=>hb.block b (hW.bd id o b h h2)) (fun _ _ _ h=>h) rfl rfl (fun _=>rfl),hW.inj,hW.dom,fun id o b h1 h2=>Nat.lt_of_lt_of_le (hW.bd id o b h1 h2) hb.size,fun b j h=>Nat.lt_of_lt_of_le (hW.ro b j h) hb.size⟩,
  ⟨hle,Nat.le_refl _,hb.os,hb.tape,hb.output,hb.size,fun b h _=>hb.block b h,fun _ _ h=>h,fun _ _ _ h=>.inl h⟩⟩
theorem ok_parse:Zmq Tryz.prog 67:=⟨_,Tryz.func67,by kernel_rfl,by kernel_rfl⟩
theorem ZzY:Zmq Tryz.prog 35:=⟨_,Tryz.func35,by kernel_rfl,by kernel_rfl⟩
theorem ok_itoa:Zmq Tryz.prog 33:=⟨_,Tryz.func33,by kernel_rfl,by kernel_rfl⟩
theorem vr_two {g:Gh} {w:World} (a b:Value):VR g w (.tup [.sc a,.sc b]) (.tuple #[a,b]) :=
 .tup _ _ rfl fun i x u hx hu=>(VRs.scs (g:=g) (w:=w) [a,b]).2 i x u (by simpa using hx) (by simpa using hu)
theorem parse_ok (s:ByteArray) (v:Int) (H:Zaa) (hs:s.size≤1000000) (h:parseIntB 64 s.data.toList=.ok v):Zay Tryz.prog 67 [.sc (.string s),.i 10,.i 64] H (fun r H'=>r=.tup [.i v,.sc .nilIface]∧H'=H):=by
 refine⟨ok_parse,fun g w vs hW hV hEn=>?_⟩
 obtain⟨v0,v1,v2,rfl⟩:∃v0 v1 v2,vs=[v0,v1,v2]:=by
  match vs,hV.1 with
  | [v0,v1,v2],_=>exact⟨v0,v1,v2,rfl⟩
 have h1:=hV.2 0 _ _ rfl rfl
 have h2:=hV.2 1 _ _ rfl rfl
 have h3:=hV.2 2 _ _ rfl rfl
 cases h1
 cases h2
 cases h3
 refine(Any.strconv_ParseInt_10_at64_ok laysC174 s (by omega) v h w).mono fun e w' ⟨he,hb⟩=>?_
 have hb:Below w.heap.size w w':=by
  rcases hb with rfl|⟨t,rfl⟩
  ·exact Below.refl _ _
  ·exact bytesWorld_below _ _ _
 obtain⟨k1,k2⟩:=Zxg hW hb
 exact .inl ⟨_,_,_,g,he,⟨rfl,rfl⟩,vr_two _ _,k1,k2⟩
theorem Zzz (n:Int) (H:Zaa) (h0 : -9223372036854775808≤n) (h1:n≤9223372036854775807):Zay Tryz.prog 35 [.i n,.i 10] H (fun r H'=>r=eS (itoa n)∧H'=H):=by
 refine⟨ZzY,fun g w vs hW hV hEn=>?_⟩
 obtain⟨v0,v1,rfl⟩:∃v0 v1,vs=[v0,v1]:=by
  match vs,hV.1 with
  | [v0,v1],_=>exact⟨v0,v1,rfl⟩
 have q1:=hV.2 0 _ _ rfl rfl
 have q2:=hV.2 1 _ _ rfl rfl
 cases q1
 cases q2
 refine(Any.strconv_FormatInt_10 laysM173 n h0 h1 w hEn.tab).mono fun e w' ⟨he,k,os,hb⟩=>?_
 subst hb
 obtain⟨k1,k2⟩:=Zxg hW (below_grow _ w (Nat.le_refl _) k os)
 exact .inl ⟨_,_,_,g,he,⟨rfl,rfl⟩,.sc _,k1,k2⟩
theorem ZAB (n:Int) (H:Zaa) (h0 : -9223372036854775808≤n) (h1:n≤9223372036854775807):Zay Tryz.prog 33 [.i n] H (fun r H'=>r=eS (itoa n)∧H'=H):=by
 refine⟨ok_itoa,fun g w vs hW hV hEn=>?_⟩
 obtain⟨v0,rfl⟩:∃v0,vs=[v0]:=by
  match vs,hV.1 with
  | [v0],_=>exact⟨v0,rfl⟩
 have q1:=hV.2 0 _ _ rfl rfl
 cases q1
 refine(Any.strconv_Itoa laysM171 n h0 h1 w hEn.tab).mono fun e w' ⟨he,k,os,hb⟩=>?_
 subst hb
 obtain⟨k1,k2⟩:=Zxg hW (below_grow _ w (Nat.le_refl _) k os)
 exact .inl ⟨_,_,_,g,he,⟨rfl,rfl⟩,.sc _,k1,k2⟩
end Go.Proofs.YtemmgefppobboaaGreatDoor
