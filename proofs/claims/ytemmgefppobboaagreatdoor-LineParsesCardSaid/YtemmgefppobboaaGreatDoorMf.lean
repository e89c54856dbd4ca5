/- Texts of the walk. -/
import Derived.Test.YtemmgefppobboaaGreatDoorMd
import Derived.Test.YtemmgefppobboaaGreatDoorMe
import Derived.Laws.Strings
import Derived.Lib.AppendIntMem
import Derived.Lib.AtoiErrMem
namespace Go.Proofs.YtemmgefppobboaaGreatDoor
set_option linter.defProp false
set_option linter.unusedSimpArgs false
set_option linter.unusedVariables false
open Go.RowKit
inductive Tr (α:Type) where
 | e
 | n (v:α) (l r:Tr α)
def Tr.get {α:Type} (d:α):Tr α->Nat->α
 | .e,_=>d
 | .n v l r,k=>bif Nat.beq k 0 then v else bif Nat.beq (k % 2) 1 then l.get d (k / 2) else r.get d (k / 2 - 1)
def Tr.put {α:Type} (d:α) (a:α):Nat->Tr α->Nat->(Tr α->Bool)->Bool
 | 0,_,_,_=>false
 | f+1,.e,k,K=>bif Nat.beq k 0 then K (.n a .e .e) else bif Nat.beq (k % 2) 1 then Tr.put d a f .e (k / 2) fun l'=>K (.n d l' .e) else Tr.put d a f .e (k / 2 - 1) fun r'=>K (.n d .e r')
 | f+1,.n v l r,k,K=>bif Nat.beq k 0 then K (.n a l r) else bif Nat.beq (k % 2) 1 then Tr.put d a f l (k / 2) fun l'=>K (.n v l' r) else Tr.put d a f r (k / 2 - 1) fun r'=>K (.n v l r')
theorem ZwR (a b:Nat):Nat.beq a b=decide (a=b):=by
 cases h:Nat.beq a b with
 | true=>have:=zaS h;simp[this]
 | false=>have:=Nat.ne_of_beq_eq_false h;simp[this]
theorem Tr.get_e {α:Type} {d:α} {k:Nat}:(Tr.e:Tr α).get d k=d:=rfl
theorem Tr.Zwc {α:Type} {d v:α} {l r:Tr α} {k:Nat}:(Tr.n v l r).get d k=if k=0 then v else if k % 2=1 then l.get d (k / 2) else r.get d (k / 2 - 1):=by
 show(bif Nat.beq k 0 then v else bif Nat.beq (k % 2) 1 then l.get d (k / 2) else r.get d (k / 2 - 1))=_
 simp only[cond_eq_ite,ZwR,decide_eq_true_eq]
theorem Tr.ZvT {α:Type} {d a:α}:∀{f:Nat} {T:Tr α} {k:Nat} {K:Tr α->Bool},Tr.put d a f T k K=true->∃T',K T'=true/\∀j,T'.get d j=if j=k then a else T.get d j
 | 0,_,_,_,h=>by simp[Tr.put]at h
 | f+1,.e,k,K,h=>by
  simp only[Tr.put,cond_eq_ite,ZwR,decide_eq_true_eq]at h
  split at h
  ·rename_i h0
   refine⟨_,h,fun j=>?_⟩
   rw[Tr.Zwc,h0]
   simp only[Tr.get_e,ite_self]
  ·split at h
   ·obtain⟨T',h1,h2⟩:=Tr.ZvT h
    refine⟨_,h1,fun j=>?_⟩
    rw[Tr.Zwc]
    simp only[h2,Tr.get_e]
    by_cases hj:j=k
    ·subst hj;rw[if_neg (by assumption),if_pos (by assumption)];simp
    ·simp only[hj,if_false]
     by_cases a1:j=0
     ·simp[a1]
     ·by_cases a2:j % 2=1
      ·have:¬j / 2=k / 2:=by omega
       simp[a1,a2,this]
      ·simp[a1,a2]
   ·obtain⟨T',h1,h2⟩:=Tr.ZvT h
    refine⟨_,h1,fun j=>?_⟩
    rw[Tr.Zwc]
    simp only[h2,Tr.get_e]
    by_cases hj:j=k
    ·subst hj;rw[if_neg (by assumption),if_neg (by assumption)];simp
    ·simp only[hj,if_false]
     by_cases a1:j=0
     ·simp[a1]
     ·by_cases a2:j % 2=1
      ·simp[a1,a2]
      ·have:¬j / 2 - 1=k / 2 - 1:=by omega
       simp[a1,a2,this]
 | f+1,.n v l r,k,K,h=>by
  simp only[Tr.put,cond_eq_ite,ZwR,decide_eq_true_eq]at h
  split at h
  ·rename_i h0
   refine⟨_,h,fun j=>?_⟩
   rw[Tr.Zwc,Tr.Zwc,h0]
   by_cases a1:j=0<;>simp[a1]
  ·split at h
   ·obtain⟨T',h1,h2⟩:=Tr.ZvT h
    refine⟨_,h1,fun j=>?_⟩
    rw[Tr.Zwc,Tr.Zwc]
    simp only[h2]
    by_cases hj:j=k
    ·subst hj;rw[if_neg (by assumption),if_pos (by assumption)];simp
    ·simp only[hj,if_false]
     by_cases a1:j=0
     ·simp[a1]
     ·by_cases a2:j % 2=1
      ·have:¬j / 2=k / 2:=by omega
       simp[a1,a2,this]
      ·simp[a1,a2]
   ·obtain⟨T',h1,h2⟩:=Tr.ZvT h
    refine⟨_,h1,fun j=>?_⟩
    rw[Tr.Zwc,Tr.Zwc]
    simp only[h2]
    by_cases hj:j=k
    ·subst hj;rw[if_neg (by assumption),if_neg (by assumption)];simp
    ·simp only[hj,if_false]
     by_cases a1:j=0
     ·simp[a1]
     ·by_cases a2:j % 2=1
      ·simp[a1,a2]
      ·have:¬j / 2 - 1=k / 2 - 1:=by omega
       simp[a1,a2,this]
def fN (n:Nat) (k:Nat->Bool):Bool:=Nat.casesOn (motive:=fun _=>Bool) n (k 0) fun m=>k (Nat.succ m)
theorem Zwf (n:Nat) (k:Nat->Bool):fN n k=k n:=by cases n<;>rfl
def fI (n:Int) (k:Int->Bool):Bool:=match n with
 | .ofNat m=>fN m fun m=>k (.ofNat m)
 | .negSucc m=>fN m fun m=>k (.negSucc m)
theorem fI_eq (n:Int) (k:Int->Bool):fI n k=k n:=by
 cases n with
 | ofNat m=>exact Zwf m fun m=>k (.ofNat m)
 | negSucc m=>exact Zwf m fun m=>k (.negSucc m)
def fV (v:AV) (k:AV->Bool):Bool:=match v with
 | .sl tok rows=>Zv1 rows fun r=>k (.sl tok r)
 | .agg cs=>Zv1 cs fun c=>k (.agg c)
 | .tup cs=>Zv1 cs fun c=>k (.tup c)
 | .sc (.bool b)=>bif b then k (.sc (.bool true)) else k (.sc (.bool false))
 | .sc (.int kd n)=>fI n fun n=>k (.sc (.int kd n))
 | .sc (.string s)=>Zv1 s.data.toList fun l=>k (.sc (.string ⟨⟨l⟩⟩))
 | .ptr id off=>fN id fun id=>fN off fun off=>k (.ptr id off)
 | .el row off=>fN off fun off=>k (.el row off)
 | .arr id off len cap=>fN off fun off=>fN len fun len=>fN cap fun cap=>k (.arr id off len cap)
 | v=>k v
theorem ZwT (v:AV) (k:AV->Bool):fV v k=k v:=by
 unfold fV
 split
 ·exact ZvR _ _
 ·exact ZvR _ _
 ·exact ZvR _ _
 ·rename_i b;cases b<;>rfl
 ·exact fI_eq _ _
 ·exact ZvR _ _
 ·simp only[Zwf]
 ·simp only[Zwf]
 ·simp only[Zwf]
 ·rfl
def fVs:List AV->(List AV->Bool)->Bool
 | [],k=>k []
 | a :: l,k=>fV a fun a=>fVs l fun l=>k (a :: l)
theorem fVs_eq:∀(l:List AV) (k:List AV->Bool),fVs l k=k l
 | [],_=>rfl
 | a :: l,k=>by simp only[fVs,ZwT];exact fVs_eq l _
def fO (o:Option Zb3) (k:Option Zb3->Bool):Bool:=match o with
 | some (.cells cs E)=>Zv1 cs fun c=>k (some (.cells c E))
 | some (.tok n E sz)=>fN n fun n=>k (some (.tok n E sz))
 | some (.map kk es d)=>Zv1 es fun es=>k (some (.map kk es d))
 | some (.iter m n s)=>Zv1 s fun s=>k (some (.iter m n s))
 | none=>k none
theorem fO_eq (o:Option Zb3) (k:Option Zb3->Bool):fO o k=k o:=by
 unfold fO
 split
 ·exact ZvR _ _
 ·exact Zwf _ _
 ·exact ZvR _ _
 ·exact ZvR _ _
 ·rfl
def u8Eq:List UInt8->List UInt8->Bool
 | [],[]=>true
 | a :: l,b :: m=>bif Nat.beq a.toNat b.toNat then u8Eq l m else false
 | _,_=>false
theorem Zwb:∀(l m:List UInt8),u8Eq l m=(l == m)
 | [],[]=>rfl
 | [],_ :: _=>rfl
 | _ :: _,[]=>rfl
 | a :: l,b :: m=>by
  rw[u8Eq,Zwb l m,cond_eq_ite,List.cons_beq_cons]
  by_cases h:a=b
  ·subst h;simp
  ·have:¬a.toNat=b.toNat:=fun e=>h (UInt8.toNat_inj.1 e)
   simp[ZwR,this,h]
def strQ (op:BinOp) (a b:List UInt8):Option Value:=match op with
 | .add=>if a.length+b.length<=maxLen then some (.string ⟨⟨a++b⟩⟩) else none
 | .eql=>some (.bool (u8Eq a b))
 | .neq=>some (.bool !(u8Eq a b))
 | .lss=>some (.bool (Op.bytesLess a b))
 | .leq=>some (.bool (Op.bytesLess a b || u8Eq a b))
 | .gtr=>some (.bool !(Op.bytesLess a b || u8Eq a b))
 | .geq=>some (.bool !(Op.bytesLess a b))
 | _=>none
theorem Zw6 (a b:ByteArray):a++b=⟨⟨a.data.toList++b.data.toList⟩⟩:=by
 apply za3
 rw[ByteArray.data_append]
 apply zbQ.1
 rw[zbq]
theorem strQ_eq (op:BinOp) (a b:ByteArray):strQ op a.data.toList b.data.toList=ZwL op a b:=by
 cases op<;>simp only[strQ,ZwL,Zwb,ByteArray.toList_eq]
 rw[Zw6]
 rfl
def AOp.evq (op:AOp) (H:Zaa):Option (AV×Zaa):=match op with
 | .bin o x y=>match x.ev [],y.ev []with
  | .sc (.string a),.sc (.string b)=>(strQ o a.data.toList b.data.toList).map fun r=>(.sc r,H)
  | .sc u,.sc v=>(ZaI o u v).map fun r=>(.sc r,H)
  | _,_=>none
 | .slS x lo hi=>match x.ev []with
  | .sc (.string s)=>match Zdi [] 0 lo,Zdi [] s.data.toList.length hi with
   | some l,some h=>if l<=h/\h<=s.data.toList.length then some (.sc (.string ⟨⟨(s.data.toList.drop l).take (h - l)⟩⟩),H) else none
   | _,_=>none
  | _=>none
 | .ixs x i=>match x.ev [],i.ev []with
  | .sc (.string s),.sc (.int _ j)=>if 0<=j then (match s.data.toList[j.toNat]? with
   | some b=>some (.sc (.int .u8 b.toNat),H)
   | none=>none) else none
  | _,_=>none
 | .len true x=>match x.ev []with
  | .sc (.string s)=>some (.i s.data.toList.length,H)
  | _=>none
 | .sob x=>match ZaL H 1 (x.ev [])with
  | some rows=>match Zef rows with
   | some ns=>some (.sc (.string ⟨⟨ns.map fun n=>UInt8.ofNat n.toNat⟩⟩),H)
   | none=>none
  | none=>none
 | op=>op.ev [] H
theorem strOf_eq (ns:List Int):(⟨⟨ns.map fun n=>UInt8.ofNat n.toNat⟩⟩:ByteArray)=strOf ns:=by
 have key:∀(ns:List Int) (a:ByteArray),(ns.foldl (fun r n=>r.push (UInt8.ofNat n.toNat)) a).data.toList=a.data.toList++ns.map fun n=>UInt8.ofNat n.toNat:=by
  intro ns
  induction ns with
  | nil=>intro a;rw[List.foldl_nil,zbw,zaB]
  | cons n ns ih =>
   intro a
   rw[List.foldl_cons,ih,zav]
   show(a.data.push _).toList++_=_
   rw[Array.toList_push,zak]
   rfl
 apply za3
 apply zbQ.1
 unfold strOf
 rw[key]
 rfl
theorem Zh9 (s:ByteArray) (j:Nat):s.data.toList[j]?=s[j]?:=by
 by_cases h:j<s.size
 ·rw[getElem?_pos s j h]
  have h':j<s.data.toList.length:=h
  rw[zad h']
  rfl
 ·rw[getElem?_neg s j h]
  rw[za5]
  exact Nat.le_of_not_lt h
theorem ZwX (s:ByteArray) (l h:Nat):(⟨⟨(s.data.toList.drop l).take (h - l)⟩⟩:ByteArray)=s.extract l h:=by
 apply za3
 apply zbQ.1
 rw[zbe,Array.toList_extract]
theorem ZwW (op:AOp) (H:Zaa):op.evq H=op.ev [] H:=by
 cases op with
 | bin o x y =>
  simp only[AOp.evq,AOp.ev]
  split
  ·rename_i h1 h2;rw[h1,h2];simp only[strQ_eq,ZaI]
  ·rename_i h1 h2;rw[h1,h2]
  ·rename_i h1 h2
   split
   ·rename_i h3 h4;exact absurd h4 (h2 _ _ h3)
   ·rfl
 | slS x lo hi =>
  simp only[AOp.evq,AOp.ev]
  split
  ·rename_i s h1
   simp only[ZwX,h1]
   rfl
  ·rename_i h1
   split
   ·rename_i s h2;exact absurd h2 (h1 s)
   ·rfl
 | ixs x i =>
  simp only[AOp.evq,AOp.ev]
  split
  ·rename_i s j h1 h2
   simp only[Zh9,h1,h2]
   rfl
  ·rename_i h1
   split
   ·rename_i s j h2 h3;exact absurd h3 (h1 _ _ _ h2)
   ·rfl
 | len b x =>
  cases b
  ·rfl
  ·simp only[AOp.evq,AOp.ev]
   split
   ·rename_i h1;simp only[h1];rfl
   ·rename_i h1
    split
    ·rename_i s h2;exact absurd h2 (h1 s)
    ·rfl
 | sob x =>
  simp only[AOp.evq,AOp.ev,strOf_eq]
  rfl
 | _=>rfl
abbrev TF:=Tr AV
def AX.sub (T:TF):AX->AX
 | .t n=>.c (T.get .any n)
 | .c a=>.c a
def Zv4 (T:TF) (F:Fr):Prop:=∀t,Fr.get F t=T.get .any t
def AOp.sub (T:TF):AOp->AOp
 | .mv x=>.mv (x.sub T)
 | .pick c a b=>.pick (c.sub T) (a.sub T) (b.sub T)
 | .box E x=>.box E (x.sub T)
 | .bld z ps=>.bld z (ps.map fun p=>(p.1,p.2.1,p.2.2.sub T))
 | .bsl sz ps=>.bsl sz (ps.map (AX.sub T))
 | .bsv E sz ps=>.bsv E sz (ps.map (AX.sub T))
 | .ld sz a x=>.ld sz a (x.sub T)
 | .st sz x y=>.st sz (x.sub T) (y.sub T)
 | .nck x=>.nck (x.sub T)
 | .bin o x y=>.bin o (x.sub T) (y.sub T)
 | .eqf ks n x y=>.eqf ks n (x.sub T) (y.sub T)
 | .bnb n x y=>.bnb n (x.sub T) (y.sub T)
 | .eqn k n x y=>.eqn k n (x.sub T) (y.sub T)
 | .un o x=>.un o (x.sub T)
 | .cnv k x=>.cnv k (x.sub T)
 | .cvs x=>.cvs (x.sub T)
 | .sob x=>.sob (x.sub T)
 | .clr m=>.clr (m.sub T)
 | .cpy sz x y=>.cpy sz (x.sub T) (y.sub T)
 | .mkf f a b=>.mkf f (a.map (AX.sub T)) (b.map (AX.sub T))
 | .mks E sz by_ z l c=>.mks E sz by_ z (l.sub T) (c.sub T)
 | .slc sz x lo hi mx=>.slc sz (x.sub T) (lo.map (AX.sub T)) (hi.map (AX.sub T)) (mx.map (AX.sub T))
 | .sla n sz x lo hi mx=>.sla n sz (x.sub T) (lo.map (AX.sub T)) (hi.map (AX.sub T)) (mx.map (AX.sub T))
 | .slS x lo hi=>.slS (x.sub T) (lo.map (AX.sub T)) (hi.map (AX.sub T))
 | .fla off x=>.fla off (x.sub T)
 | .fld off sz a x=>.fld off sz a (x.sub T)
 | .ixa sz x i=>.ixa sz (x.sub T) (i.sub T)
 | .ixA n sz x i=>.ixA n sz (x.sub T) (i.sub T)
 | .ixv n sz a x i=>.ixv n sz a (x.sub T) (i.sub T)
 | .ixs x i=>.ixs (x.sub T) (i.sub T)
 | .ext x i=>.ext (x.sub T) i
 | .len s x=>.len s (x.sub T)
 | .lnA n=>.lnA n
 | .app E sz by_ s x=>.app E sz by_ (s.sub T) (x.sub T)
 | .apv E sz by_ z s x=>.apv E sz by_ z (s.sub T) (x.sub T)
 | .mm m x y=>.mm m (x.sub T) (y.sub T)
 | .mkm kk=>.mkm kk
 | .lkp kk z ok m k=>.lkp kk z ok (m.sub T) (k.sub T)
 | .mup kk m k x=>.mup kk (m.sub T) (k.sub T) (x.sub T)
 | .men kk z m k=>.men kk z (m.sub T) (k.sub T)
 | .est m s x=>.est (m.sub T) (s.sub T) (x.sub T)
 | .mln m=>.mln (m.sub T)
 | .rng m=>.rng (m.sub T)
 | .nxt s x=>.nxt s (x.sub T)
 | .ent x=>.ent (x.sub T)
 | .del kk m k=>.del kk (m.sub T) (k.sub T)
 | .call f al=>.call (f.sub T) (al.map (AX.sub T))
 | .eqs n x=>.eqs n (x.sub T)
 | .cap x=>.cap (x.sub T)
 | .bad=>.bad
 | .ovl x y=>.ovl (x.sub T) (y.sub T)
section
variable {T:TF} {F:Fr}
theorem ZvW (h:Zv4 T F) (x:AX):(x.sub T).ev []=x.ev F:=by
 cases x with
 | t n=>exact(h n).symm
 | c a=>rfl
theorem ZwS (h:Zv4 T F) (xs:List AX):evs [] (xs.map (AX.sub T))=evs F xs:=by
 simp[evs,Function.comp_def,ZvW h]
theorem Zw5 (h:Zv4 T F) (d:Nat) (x:Option AX):Zdi [] d (x.map (AX.sub T))=Zdi F d x:=by
 cases x with
 | none=>rfl
 | some x=>simp only[Option.map_some,Zdi,ZvW h]
theorem ZwJ (h:Zv4 T F):∀(ps:List (Nat×Nat×AX)) (cs:List AV),Zb9 [] cs (ps.map fun p=>(p.1,p.2.1,p.2.2.sub T))=Zb9 F cs ps
 | [],_=>rfl
 | (a,b,x) :: ps,cs=>by
  simp only[zav,Zb9,ZvW h,ZwJ h ps]
theorem ZwA (h:Zv4 T F) (sz:Nat):∀(xs:List AX),rowsOf [] sz (xs.map (AX.sub T))=rowsOf F sz xs
 | []=>rfl
 | x :: xs=>by simp only[zav,rowsOf,ZvW h,ZwA h sz xs]
theorem ZwU (h:Zv4 T F) (op:AOp) (H:Zaa):(op.sub T).ev [] H=op.ev F H:=by
 cases op with
 | eqn k n x y=>rcases k with _|_|_|_|k<;>simp only[AOp.sub,AOp.ev,ZvW h]
 | len s x=>cases s<;>simp only[AOp.sub,AOp.ev,ZvW h]
 | slc sz x lo hi mx =>
  simp only[AOp.sub,AOp.ev,ZvW h,Zw5 h,zbf]
  rfl
 | _=>simp only[AOp.sub,AOp.ev,ZvW h,ZwS h,Zw5 h,ZwJ h,ZwA h]
def Zw0 (i:AI) (T:TF):Option Bool:=match i.gd with
 | none=>some true
 | some (s,b)=>match T.get .any s with
  | .sc (.bool c)=>some (c == b)
  | .sc _=>some false
  | _=>none
theorem Zwe (h:Zv4 T F) (i:AI):Zw0 i T=i.want F:=by
 unfold Zw0 AI.want
 have h':∀t,Fr.get F t=T.get .any t:=h
 simp only[h']
 rfl
end
abbrev TH:=Tr (Option Zb3)
def upT (T:TH) (n:Nat):Zaa:=⟨fun i=>bif Nat.ble n i then none else T.get none i,n,fun i hi=>by rw[Nat.ble_eq_true_of_le hi];rfl⟩
theorem ZvS {T:TH} {n i:Nat} (h:i<n):(upT T n).get i=T.get none i:=by
 have:Nat.ble n i=false:=by
  cases hb:Nat.ble n i with
  | false=>rfl
  | true=>have:=zaa hb;omega
 show(bif Nat.ble n i then none else T.get none i)=_
 rw[this];rfl
theorem upT_eq {T T':TH} {n:Nat} (h:∀i,i<n->T'.get none i=T.get none i):upT T' n=upT T n:=by
 refine Zaa.ext ?_ rfl
 funext i
 by_cases hi:i<n
 ·rw[ZvS hi,ZvS hi,h i hi]
 ·rw[(upT T' n).wf i (by show n<=i;omega),(upT T n).wf i (by show n<=i;omega)]
def nextT (op:AOp) (T:TH) (n:Nat) (H':Zaa) (k:TH->Nat->Bool):Bool :=
 bif Nat.beq H'.next n then
  match op.tgt []with
  | some id=>fO (H'.get id) fun o=>Tr.put none o 40 T id fun T'=>k T' n
  | none=>k T n
 else fO (H'.get n) fun o=>Tr.put none o 40 T n fun T'=>fN (n+1) fun m=>k T' m
theorem ZwF {op:AOp} {T:TH} {n:Nat} {v:AV} {H':Zaa} {k:TH->Nat->Bool} (h:op.ev [] (upT T n)=some (v,H')) (hk:nextT op T n H' k=true):∃T' m,upT T' m=H'/\k T' m=true:=by
 unfold nextT at hk
 rcases ev_upd h with e|⟨o,e⟩|⟨id,o,ht,e⟩
 ·subst e
  have:Nat.beq (upT T n).next n=true:=Nat.beq_refl n
  rw[this,cond_true]at hk
  split at hk
  ·rename_i id hid
   rw[fO_eq]at hk
   obtain⟨T',h1,h2⟩:=Tr.ZvT hk
   refine⟨T',n,upT_eq fun i hi=>?_,h1⟩
   rw[h2]
   split
   ·rename_i e;subst e;exact ZvS hi
   ·rfl
  ·exact⟨T,n,rfl,hk⟩
 ·subst e
  have:Nat.beq ((upT T n).alloc o).next n=false:=by
   show Nat.beq (n+1) n=false
   cases hb:Nat.beq (n+1) n with
   | false=>rfl
   | true=>have:=zaS hb;omega
  rw[this,cond_false,fO_eq]at hk
  have hn:((upT T n).alloc o).get n=some o:=Zaa.Zae (H:=upT T n)
  rw[hn]at hk
  obtain⟨T',h1,h2⟩:=Tr.ZvT hk
  rw[Zwf]at h1
  refine⟨T',n+1,?_,h1⟩
  refine Zaa.ext ?_ rfl
  funext i
  by_cases hi:i<n+1
  ·rw[ZvS hi,h2]
   by_cases e:i=n
   ·subst e;rw[if_pos rfl,hn]
   ·rw[if_neg e,Zaa.Zag (H:=upT T n) e,ZvS (by omega)]
  ·rw[(upT T' (n+1)).wf i (by show n+1<=i;omega),((upT T n).alloc o).wf i (by show n+1<=i;omega)]
 ·subst e
  have:Nat.beq ((upT T n).set id o).next n=true:=Nat.beq_refl n
  rw[this,cond_true,ht]at hk
  simp only at hk
  rw[fO_eq]at hk
  obtain⟨T',h1,h2⟩:=Tr.ZvT hk
  refine⟨T',n,?_,h1⟩
  refine Zaa.ext ?_ rfl
  funext i
  by_cases hi:i<n
  ·rw[ZvS hi,h2]
   by_cases e:i=id
   ·subst e;rw[if_pos rfl]
   ·rw[if_neg e,Zaa.Zah e,ZvS hi]
  ·rw[(upT T' n).wf i (by show n<=i;omega),((upT T n).set id o).wf i (by show n<=i;omega)]
def putT (T:TF) (d:Option Nat) (a:AV) (k:TF->Bool):Bool:=match d with
 | some d=>Tr.put .any a 40 T d k
 | none=>k T
theorem Zv7 {T:TF} {F:Fr} {d:Option Nat} {a:AV} {k:TF->Bool} (hF:Zv4 T F) (h:putT T d a k=true):∃T',Zv4 T' (Fr.put F d a)/\k T'=true:=by
 cases d with
 | none=>exact⟨T,hF,h⟩
 | some d =>
  obtain⟨T',h1,h2⟩:=Tr.ZvT h
  refine⟨T',fun t=>?_,h1⟩
  rw[h2]
  simp only[Fr.put,Fr.get]
  split
  ·rfl
  ·exact hF t
abbrev Zwq:=FuncId->List AV->(AV->TH->Nat->Bool)->TH->Nat->Bool
def Zwd (r:AI) (T:TF) (M:TH) (n:Nat):Bool:=match Zw0 r T with
 | some false=>true
 | some true=>match r.dst with
  | some d=>Nat.blt r.op.kind 2&&(match (r.op.sub T).evq (upT M n)with
   | some (v,_)=>AV.same 20 v (T.get .any d)
   | none=>false)
  | none=>false
 | none=>false
theorem ZwM {r:AI} {T:TF} {F:Fr} {M:TH} {n:Nat} (hF:Zv4 T F) (h:Zwd r T M n=true):r.stable F (upT M n):=by
 unfold Zwd at h
 unfold AI.stable
 rw[Zwe hF]at h
 split at h
 ·rename_i e;rw[e];trivial
 ·rename_i e
  rw[e]
  split at h
  ·rename_i d hd
   simp only[zay]at h
   obtain⟨hk,h⟩:=h
   have hk:r.op.kind<2:=zaa hk
   rw[ZwW,ZwU hF]at h
   split at h
   ·rename_i v H' hv
    have:=ev_read hk hv
    subst this
    refine⟨d,hd,?_⟩
    rw[hv,AV.Zlv h,hF]
   ·cases h
  ·cases h
 ·cases h
def Zwt (call:Zwq) (i:AI) (k:TF->TH->Nat->Bool) (T:TF) (M:TH) (n:Nat):Bool:=match i.op with
 | .call f args=>match (f.sub T).ev []with
  | .fn h first caps=>call h (first++evs [] (args.map (AX.sub T))++caps) (fun r M' n'=>putT T i.dst r fun T'=>k T' M' n') M n
  | _=>false
 | op=>match (op.sub T).evq (upT M n)with
  | some (v,H')=>fV v fun v=>nextT (op.sub T) M n H' fun M' n'=>putT T i.dst v fun T'=>k T' M' n'
  | none=>false
def Zv6 (call:Zwq):List AI->(TF->TH->Nat->Bool)->TF->TH->Nat->Bool
 | [],k,T,M,n=>k T M n
 | i :: l,k,T,M,n=>match Zw0 i T with
  | some true=>Zwt call i (Zv6 call l k) T M n
  | some false=>putT T i.dst ZaO fun T'=>Zv6 call l k T' M n
  | none=>false
def allB {α:Type} (p:α->Bool):List α->Bool
 | []=>true
 | a :: l=>bif p a then allB p l else false
theorem ZwV {α:Type} {p:α->Bool}:∀{l:List α},allB p l=true->∀a∈l,p a=true
 | [],_,a,h=>by cases h
 | b :: l,h,a,ha=>by
  unfold allB at h
  cases hb:p b with
  | false=>rw[hb]at h;cases h
  | true =>
   rw[hb,cond_true]at h
   rcases zaq.1 ha with rfl|ha
   ·exact hb
   ·exact ZwV h a ha
def ZvZ (call:Zwq):List (AI×List AI)->(TF->TH->Nat->Bool)->TF->TH->Nat->Bool
 | [],k,T,M,n=>k T M n
 | (i,chk) :: l,k,T,M,n=>match Zw0 i T with
  | some true=>Zwt call i (fun T' M' n'=>bif allB (fun r=>Zwd r T' M' n') chk then ZvZ call l k T' M' n' else false) T M n
  | some false=>putT T i.dst ZaO fun T'=>ZvZ call l k T' M n
  | none=>false
def Zwm (step:(AEx->TF->TH->Nat->Bool)->TF->TH->Nat->Bool) (k:AEx->TF->TH->Nat->Bool):Nat->TF->TH->Nat->Bool
 | 0,_,_,_=>false
 | m+1,T,M,n=>step (fun e T' M' n'=>match e with
  | .normal=>Zwm step k m T' M' n'
  | e=>k e T' M' n') T M n
def ZzJ:TF->List Nat->List AV->(TF->Bool)->Bool
 | T,p :: ps,x :: xs,k=>fV x fun x=>Tr.put .any x 40 T p fun T'=>ZzJ T' ps xs k
 | T,_,_,k=>k T
def Zz2:List Nat->TH->(TH->Bool)->Bool
 | [],M,k=>k M
 | i :: is,M,k=>Tr.put none none 40 M i fun M'=>Zz2 is M' k
def isCells:Option Zb3->Bool
 | some (.cells _ _)=>true
 | _=>false
def iterN (ra rb:(AEx->TF->TH->Nat->Bool)->TF->TH->Nat->Bool) (k:AEx->TF->TH->Nat->Bool) (ps:List Nat) (T:TF):List (List AV)->TH->Nat->Bool
 | [],M,n=>k .normal T M n
 | x :: xs,M,n=>ZzJ T ps x fun T'=>ra (fun e T1 M1 n1=>match e with
  | .normal=>rb (fun e _ M2 n2=>match e with
   | .normal=>iterN ra rb k ps T xs M2 n2
   | .ret=>k .ret T M2 n2
   | .exit _=>false) T1 M1 n1
  | _=>false) T' M n
def ZvU (call0 call:Zwq) (lf:Nat):Zar->(AEx->TF->TH->Nat->Bool)->TF->TH->Nat->Bool
 | .skip,k,T,M,n=>k .normal T M n
 | .reg l,k,T,M,n=>Zv6 call l (k .normal) T M n
 | .drw l,k,T,M,n=>ZvZ call l (k .normal) T M n
 | .seq a b,k,T,M,n=>ZvU call0 call lf a (fun e T M n=>match e with
  | .normal=>ZvU call0 call lf b k T M n
  | e=>k e T M n) T M n
 | .cond c a b,k,T,M,n=>match (c.sub T).ev []with
  | .sc (.bool t)=>bif t then ZvU call0 call lf a k T M n else ZvU call0 call lf b k T M n
  | .ub=>bif ZvU call0 call lf a k T M n then ZvU call0 call lf b k T M n else false
  | _=>false
 | .blk id a,k,T,M,n=>ZvU call0 call lf a (fun e T M n=>match e with
  | .exit j=>bif Nat.beq j id then k .normal T M n else k (.exit j) T M n
  | e=>k e T M n) T M n
 | .loop a,k,T,M,n=>Zwm (ZvU call0 call lf a) k lf T M n
 | .exit id,k,T,M,n=>k (.exit id) T M n
 | .ret,k,T,M,n=>k .ret T M n
 | .rf gx ps al b,k,T,M,n=>match (gx.sub T).ev []with
  | .fn f [] caps=>match itX f caps (upT M n)with
   | some (ks,xs)=>bif allB (fun id=>bif Nat.blt id n then isCells (M.get none id) else false) ks then bif allB (fun x=>Nat.beq x.length ps.length) xs then
    Zz2 ks M fun M0=>iterN (ZvU call0 call0 lf al) (ZvU call0 call0 lf b) k ps T xs M0 n else false else false
   | none=>false
  | _=>false
 | .bad,_,_,_,_=>false
def argsT:Nat->List AV->TF->(TF->Bool)->Bool
 | _,[],T,k=>k T
 | i,a :: al,T,k=>Tr.put .any a 40 T i fun T'=>argsT (i+1) al T' k
theorem Zww:∀{al:List AV} {i:Nat} {T:TF} {k:TF->Bool} {F:Fr},Zv4 T F->(∀t,i<=t->Fr.get F t=.any)->argsT i al T k=true->∃T',k T'=true/\∀t,T'.get .any t=if t<i then Fr.get F t else Fr.get (Za2 i al) t
 | [],i,T,k,F,hF,h0,h=>⟨T,h,fun t=>by
   rw[<- hF]
   split
   ·rfl
   ·exact h0 t (by omega)⟩
 | a :: al,i,T,k,F,hF,h0,h=>by
  obtain⟨T',h1,h2⟩:=Tr.ZvT h
  obtain⟨T'',h3,h4⟩:=Zww (F:=(i,a) :: F) (fun t=>by
   rw[h2]
   simp only[Fr.get]
   split
   ·rfl
   ·exact hF t) (fun t ht=>by
   simp only[Fr.get]
   rw[if_neg (by omega)]
   exact h0 t (by omega)) h1
  refine⟨T'',h3,fun t=>?_⟩
  rw[h4]
  simp only[Za2,Fr.get]
  by_cases e1:t<i
  ·rw[if_pos (by omega),if_pos e1,if_neg (by omega)]
  ·by_cases e2:t=i
   ·rw[if_pos (by omega),if_pos e2,if_neg e1,if_pos e2]
   ·rw[if_neg (by omega),if_neg e1,if_neg e2]
def ZwY (T:TF) (H:Zaa):Zcq->Option AV
 | .tmp t=>some (T.get .any t)
 | .cell sz ag a=>match AOp.ev [] H (.ld sz ag (.c (T.get .any a)))with
  | some (v,_)=>some v
  | none=>none
def resTL (T:TF) (H:Zaa):List Zcq->Option (List AV)
 | []=>some []
 | r :: rs=>match ZwY T H r with
  | some v=>match resTL T H rs with
   | some vs=>some (v :: vs)
   | none=>none
  | none=>none
def resT (T:TF) (H:Zaa) (rs:List Zcq):Option AV:=match rs with
 | [r]=>ZwY T H r
 | rs=>match resTL T H rs with
  | some vs=>some (.tup vs)
  | none=>none
theorem ZwC {T:TF} {F:Fr} (h:Zv4 T F) (H:Zaa) (r:Zcq):ZwY T H r=r.ev F H:=by
 have h':∀t,Fr.get F t=T.get .any t:=h
 cases r with
 | tmp t=>simp only[ZwY,Zcq.ev,h']
 | cell sz ag a =>
  simp only[ZwY,Zcq.ev,AOp.ev,AX.ev,h']
  rfl
theorem Zwz {T:TF} {F:Fr} (h:Zv4 T F) (H:Zaa):∀rs:List Zcq,resTL T H rs=ZcF F H rs
 | []=>rfl
 | r :: rs=>by
  simp only[resTL,ZcF,ZwC h,Zwz h H rs]
  rfl
theorem resT_eq {T:TF} {F:Fr} (h:Zv4 T F) (H:Zaa) (rs:List Zcq):resT T H rs=ZcU F H rs:=by
 match rs with
 | []=>rfl
 | [r]=>exact ZwC h H r
 | a :: b :: rs =>
  simp only[resT,ZcU,Zwz h]
  rfl
def ZzC (X:Zwq->FuncId->List AV->(AV->TH->Nat->Bool)->TH->Nat->Option Bool) (Tb:FuncId->Option (Zar×List Zcq×Nat)) (lf:Nat):Nat->Zwq
 | 0,_,_,_,_,_=>false
 | m+1,f,args,k,M,n=>fVs args fun args=>match X (ZzC X Tb lf m) f args k M n with
  | some b=>b
  | none=>match Tb f with
   | some (code,rs,N)=>bif Nat.ble args.length N then argsT 0 args .e fun T=>ZvU (ZzC X Tb lf m) (ZzC X Tb lf m) lf code (fun e T' M' n'=>match e with
    | .exit _=>false
    | _=>match resT T' (upT M' n') rs with
     | some r=>fV r fun r=>k r M' n'
     | none=>false) T M n else false
   | none=>false
section
variable {P:Prg} {call:Zwq}
def Zv9 (P:Prg) (call:Zwq):Prop:=∀f args k M n,call f args k M n=true->Zay P f args (upT M n) fun r H'=>∃M' n',upT M' n'=H'/\k r M' n'=true
theorem ZwG (hc:Zv9 P call) {i:AI} {k:TF->TH->Nat->Bool} {T:TF} {F:Fr} {M:TH} {n:Nat} {K:Fr->Zaa->Prop} (hF:Zv4 T F) (h:Zwt call i k T M n=true) (hk:∀T' F' M' n',Zv4 T' F'->k T' M' n'=true->K F' (upT M' n')):i.step P F (upT M n) K:=by
 have key:(∀f args,i.op≠.call f args)->(∀E sz bytes zero s x,i.op≠.apv E sz bytes zero s x)->(∀str x,i.op≠.nxt str x)->i.step P F (upT M n) K:=by
  intro hnc hna hnn
  unfold Zwt at h
  unfold AI.step
  split
  ·rename_i f args he;exact absurd he (hnc f args)
  ·rename_i he;exact absurd he (hna _ _ _ _ _ _)
  ·rename_i he;exact absurd he (hnn _ _)
  ·split at h
   ·rename_i f args he;exact absurd he (hnc f args)
   ·split at h
    ·rename_i v H' hv
     rw[ZwT]at h
     rw[ZwW]at hv
     obtain⟨M',n',h1,h2⟩:=ZwF hv h
     rw[ZwU hF]at hv
     rw[hv]
     obtain⟨T',h3,h4⟩:=Zv7 hF h2
     have:=hk _ _ _ _ h3 h4
     rw[h1]at this
     exact this
    ·cases h
 cases hio:i.op with
 | call f args =>
  unfold Zwt at h
  unfold AI.step
  rw[hio]at h ⊢
  simp only at h ⊢
  rw[ZvW hF]at h
  split at h
  ·rename_i hf
   rw[hf]
   rw[ZwS hF]at h
   exact(hc _ _ _ _ _ h).mono fun r H' ⟨M',n',h1,h2⟩=>by
    obtain⟨T',h3,h4⟩:=Zv7 hF h2
    have:=hk _ _ _ _ h3 h4
    rw[h1]at this
    exact this
  ·cases h
 | apv E sz bytes zero s x =>
  exfalso
  unfold Zwt at h
  rw[hio]at h
  simp[AOp.sub,AOp.evq,AOp.ev]at h
 | nxt str x =>
  unfold Zwt at h
  unfold AI.step
  rw[hio]at h ⊢
  simp only at h ⊢
  split at h
  ·rename_i v H' hv
   rw[ZwT]at h
   rw[ZwW]at hv
   obtain⟨M',n',h1,h2⟩:=ZwF hv h
   have e:=ZwU (H:=upT M n) (op:=.nxt str x) hF
   rw[e]at hv
   obtain⟨T',h3,h4⟩:=Zv7 hF h2
   have:=hk _ _ _ _ h3 h4
   rw[h1]at this
   exact Zj7.of_ev hv this
  ·cases h
 | _=>exact key (by intro f args e;rw[hio]at e;cases e) (by intro E sz bytes zero s x e;rw[hio]at e;cases e) (by intro str x e;rw[hio]at e;cases e)
theorem Zv3 (hc:Zv9 P call):∀{l:List AI} {k:TF->TH->Nat->Bool} {T:TF} {F:Fr} {M:TH} {n:Nat} {K:Fr->Zaa->Prop},Zv4 T F->Zv6 call l k T M n=true->(∀T' F' M' n',Zv4 T' F'->k T' M' n'=true->K F' (upT M' n'))->Zau P l F (upT M n) K
 | [],k,T,F,M,n,K,hF,h,hk=>hk _ _ _ _ hF h
 | i :: l,k,T,F,M,n,K,hF,h,hk=>by
  simp only[Zv6]at h
  simp only[Zau]
  rw[Zwe hF]at h
  split at h
  ·rename_i e;rw[e];exact ZwG hc hF h fun T' F' M' n' hF' h'=>Zv3 hc hF' h' hk
  ·rename_i e
   rw[e]
   obtain⟨T',h3,h4⟩:=Zv7 hF h
   exact Zv3 hc h3 h4 hk
  ·cases h
theorem ZvX (hc:Zv9 P call):∀{l:List (AI×List AI)} {k:TF->TH->Nat->Bool} {T:TF} {F:Fr} {M:TH} {n:Nat} {K:Fr->Zaa->Prop},Zv4 T F->ZvZ call l k T M n=true->(∀T' F' M' n',Zv4 T' F'->k T' M' n'=true->K F' (upT M' n'))->Zaj P l F (upT M n) K
 | [],k,T,F,M,n,K,hF,h,hk=>hk _ _ _ _ hF h
 | (i,chk) :: l,k,T,F,M,n,K,hF,h,hk=>by
  simp only[ZvZ]at h
  simp only[Zaj]
  rw[Zwe hF]at h
  split at h
  ·rename_i e
   rw[e]
   refine ZwG hc hF h fun T' F' M' n' hF' h'=>?_
   cases ha:allB (fun r=>Zwd r T' M' n') chk with
   | true =>
    rw[ha,cond_true]at h'
    exact⟨fun r hr=>ZwM hF' (ZwV ha r hr),ZvX hc hF' h' hk⟩
   | false=>rw[ha]at h';cases h'
  ·rename_i e
   rw[e]
   obtain⟨T',h3,h4⟩:=Zv7 hF h
   exact ZvX hc h3 h4 hk
  ·cases h
theorem Zze:∀{ps:List Nat} {xs:List AV} {T:TF} {F:Fr} {k:TF->Bool},Zv4 T F->ZzJ T ps xs k=true->∃T',Zv4 T' (ZxS F ps xs)/\k T'=true
 | [],[],T,F,k,hF,h=>⟨T,hF,h⟩
 | [],x :: xs,T,F,k,hF,h=>⟨T,hF,h⟩
 | p :: ps,[],T,F,k,hF,h=>⟨T,hF,h⟩
 | p :: ps,x :: xs,T,F,k,hF,h=>by
  simp only[ZzJ]at h
  rw[ZwT]at h
  obtain⟨T',h3,h4⟩:=Tr.ZvT h
  have hF':Zv4 T' (Fr.put F (some p) x):=fun t=>by
   rw[h4]
   simp only[Fr.put,Fr.get]
   split
   ·rfl
   ·exact hF t
  obtain⟨T2,q1,q2⟩:=Zze hF' h3
  exact⟨T2,q1,q2⟩
theorem Zzl:∀{ks:List Nat} {M:TH} {k:TH->Bool},Zz2 ks M k=true->∃M',k M'=true/\∀j,M'.get none j=if j∈ks then none else M.get none j
 | [],M,k,h=>⟨M,h,fun j=>by simp⟩
 | i :: is,M,k,h=>by
  obtain⟨M1,h1,h2⟩:=Tr.ZvT h
  obtain⟨M2,h3,h4⟩:=Zzl h1
  refine⟨M2,h3,fun j=>?_⟩
  rw[h4,h2]
  by_cases e:j∈is
  ·rw[if_pos e,if_pos (zaD _ e)]
  ·rw[if_neg e]
   by_cases e2:j=i
   ·rw[if_pos e2,if_pos (by rw[e2];exact zaN)]
   ·rw[if_neg e2,if_neg (by simp[e,e2])]
theorem runC2_ok {p:Program} [ItOk p] {call0:Zwq} (hc0:Zv9 ⟨p,fun _ _=>False⟩ call0) {lf:Nat} (c:Zar):∀{pan:Value->Zaa->Prop} {call:Zwq},Zv9 ⟨p,pan⟩ call->∀{k:AEx->TF->TH->Nat->Bool} {T:TF} {F:Fr} {M:TH} {n:Nat} {Q:AEx->Fr->Zaa->Prop},Zv4 T F->ZvU call0 call lf c k T M n=true->(∀e T' F' M' n',Zv4 T' F'->k e T' M' n'=true->Q e F' (upT M' n'))->AW ⟨p,pan⟩ c Q F (upT M n):=by
 induction c with
 | skip=>intro pan call hc k T F M n Q hF h hk;exact hk _ _ _ _ _ hF h
 | reg l=>intro pan call hc k T F M n Q hF h hk;exact Zv3 hc hF h fun T' F' M' n' hF' h'=>hk _ _ _ _ _ hF' h'
 | drw l=>intro pan call hc k T F M n Q hF h hk;exact ZvX hc hF h fun T' F' M' n' hF' h'=>hk _ _ _ _ _ hF' h'
 | seq a b iha ihb =>
  intro pan call hc k T F M n Q hF h hk
  simp only[ZvU]at h
  simp only[AW]
  refine iha hc hF h fun e T' F' M' n' hF' h'=>?_
  cases e with
  | normal=>exact ihb hc hF' h' hk
  | exit i=>exact hk _ _ _ _ _ hF' h'
  | ret=>exact hk _ _ _ _ _ hF' h'
 | cond c a b iha ihb =>
  intro pan call hc k T F M n Q hF h hk
  simp only[ZvU]at h
  simp only[AW]
  rw[ZvW hF]at h
  split at h
  ·rename_i t e
   rw[e]
   simp only
   cases t
   ·exact ihb hc hF h hk
   ·exact iha hc hF h hk
  ·rename_i e
   rw[e]
   simp only
   cases ha:ZvU call0 call lf a k T M n with
   | true=>rw[ha,cond_true]at h;exact⟨iha hc hF ha hk,ihb hc hF h hk⟩
   | false=>rw[ha]at h;cases h
  ·cases h
 | blk id a iha =>
  intro pan call hc k T F M n Q hF h hk
  simp only[ZvU]at h
  simp only[AW]
  refine iha hc hF h fun e T' F' M' n' hF' h'=>?_
  cases e with
  | normal=>exact hk _ _ _ _ _ hF' h'
  | ret=>exact hk _ _ _ _ _ hF' h'
  | exit j =>
   simp only[cond_eq_ite,ZwR,decide_eq_true_eq]at h' ⊢
   by_cases hj:j=id
   ·rw[if_pos hj]at h' ⊢;exact hk _ _ _ _ _ hF' h'
   ·rw[if_neg hj]at h' ⊢;exact hk _ _ _ _ _ hF' h'
 | loop a iha =>
  intro pan call hc k T F M n Q hF h hk
  simp only[ZvU]at h
  simp only[AW]
  refine⟨fun m F H=>∃T' M' n',Zv4 T' F/\upT M' n'=H/\Zwm (ZvU call0 call lf a) k m T' M' n'=true,⟨lf,F,_,.refl _ _,T,M,n,hF,rfl,h⟩,?_⟩
  rintro m F H ⟨T',M',n',hF',rfl,h'⟩
  cases m with
  | zero=>simp[Zwm]at h'
  | succ m =>
   simp only[Zwm]at h'
   refine iha hc hF' h' fun e T'' F'' M'' n'' hF'' h''=>?_
   cases e with
   | normal=>exact⟨m,F'',_,Nat.lt_succ_self _,.refl _ _,T'',M'',n'',hF'',rfl,h''⟩
   | exit i=>exact hk _ _ _ _ _ hF'' h''
   | ret=>exact hk _ _ _ _ _ hF'' h''
 | exit id=>intro pan call hc k T F M n Q hF h hk;exact hk _ _ _ _ _ hF h
 | ret=>intro pan call hc k T F M n Q hF h hk;exact hk _ _ _ _ _ hF h
 | rf gx ps al b iha ihb =>
  intro pan call hc k T F M n Q hF h hk
  simp only[ZvU]at h
  rw[ZvW hF]at h
  split at h
  ·rename_i f caps hge
   split at h
   ·rename_i ks xs hit
    cases ha:allB (fun id=>bif Nat.blt id n then isCells (M.get none id) else false) ks with
    | false=>rw[ha]at h;cases h
    | true =>
    rw[ha,cond_true]at h
    cases hb:allB (fun x:List AV=>Nat.beq x.length ps.length) xs with
    | false=>rw[hb]at h;cases h
    | true =>
    rw[hb,cond_true]at h
    obtain⟨M0,h1,h2⟩:=Zzl h
    have hks:∀id∈ks,id<n/\isCells (M.get none id)=true:=fun id hid=>by
     have:=ZwV ha id hid
     cases hl:Nat.blt id n with
     | true=>rw[hl,cond_true]at this;exact⟨Eq.mp Nat.blt_eq hl,this⟩
     | false=>rw[hl]at this;cases this
    refine AW_rf hge ks xs (upT M0 n) (upT M0 n) (fun j G=>∃M' n',upT M' n'=G/\iterN (ZvU call0 call0 lf al) (ZvU call0 call0 lf b) k ps T (xs.drop j) M' n'=true) (fun G=>∃M' n',upT M' n'=G/\k .ret T M' n'=true) (ItOk.ok hit) (fun x hx=>zaS (ZwV hb x hx)) (fun id hid=>?_) (fun i o ho=>?_) (zae _) (GStep.refl _ _) ⟨M0,n,rfl,h1⟩ (fun j x G hx _ hI=>?_) (fun G _ hI=>?_) (fun G _ hI=>?_)
    ·obtain⟨q1,q2⟩:=hks id hid
     refine⟨?_,by rw[ZvS q1,h2,if_pos hid]⟩
     rw[ZvS q1]
     unfold isCells at q2
     split at q2
     ·rename_i cs E e;exact⟨cs,E,e⟩
     ·cases q2
    ·by_cases hi:i<n
     ·rw[ZvS hi,h2]at ho
      rw[ZvS hi]
      split at ho
      ·cases ho
      ·exact ho
     ·rw[(upT M0 n).wf i (by show n<=i;omega)]at ho;cases ho
    ·obtain⟨M',n',e,h'⟩:=hI
     subst e
     obtain⟨hj,rfl⟩:=zal.1 hx
     rw[zai hj]at h'
     simp only[iterN]at h'
     obtain⟨T',h3,h4⟩:=Zze hF h'
     refine iha hc0 h3 h4 fun e T1 F1 M1 n1 hF1 h5=>?_
     cases e with
     | normal =>
      refine ihb hc0 hF1 h5 fun e T2 F2 M2 n2 hF2 h6=>?_
      cases e with
      | normal=>exact⟨_,GStep.refl _ _,M2,n2,rfl,h6⟩
      | ret=>exact⟨_,GStep.refl _ _,M2,n2,rfl,h6⟩
      | exit i=>cases h6
     | _=>cases h5
    ·obtain⟨M',n',rfl,h'⟩:=hI
     rw[zaw]at h'
     exact hk _ _ _ _ _ hF h'
    ·obtain⟨M',n',rfl,h'⟩:=hI
     exact hk _ _ _ _ _ hF h'
   ·cases h
  ·cases h
 | bad=>intro pan call hc k T F M n Q hF h hk;simp[ZvU]at h
theorem ZyY {P:Program} [ItOk P] {eqT:EqT} (hE:∀t ks,eqT t=some ks->Ziv P t ks) {X:Zwq->FuncId->List AV->(AV->TH->Nat->Bool)->TH->Nat->Option Bool}
  (hX:∀call,Zv9 P call->∀f args k M n,X call f args k M n=some true->Zay P f args (upT M n) fun r H'=>∃M' n',upT M' n'=H'/\k r M' n'=true)
  {Tb:FuncId->Option (Zar×List Zcq×Nat)} (hT:∀f x,Tb f=some x->cFn P eqT f=some x) (lf:Nat):∀m,Zv9 P (ZzC X Tb lf m)
 | 0=>fun f args k M n h=>by simp[ZzC]at h
 | m+1=>fun f args k M n h=>by
  simp only[ZzC,fVs_eq]at h
  split at h
  ·rename_i b hx
   subst h
   exact hX _ (ZyY hE hX hT lf m) _ _ _ _ _ hx
  split at h
  ·rename_i code rs N e
   cases hl:Nat.ble args.length N with
   | true =>
    rw[hl,cond_true]at h
    obtain⟨T,h1,h2⟩:=Zww (F:=[]) (fun _=>rfl) (fun _ _=>rfl) h
    have hF:Zv4 T (Za2 0 args):=fun t=>by rw[h2,if_neg (by omega)]
    refine ZdU hE (hT _ _ e) (zaa hl) (runC2_ok (ZyY hE hX hT lf m) code (ZyY hE hX hT lf m) hF h1 fun e T' F' M' n' hF' h'=>?_)
    have fin:(match resT T' (upT M' n') rs with|some r=>fV r fun r=>k r M' n'|none=>false)=true->(match ZcU F' (upT M' n') rs with|some r=>∃r2 H2,Zb6 r (upT M' n') r2 H2/\∃M'' n'',upT M'' n''=H2/\k r2 M'' n''=true|none=>False):=by
     intro hh
     rw[resT_eq hF']at hh
     split at hh
     ·rename_i r hr
      rw[ZwT]at hh
      exact⟨r,_,Zb6.keep (fun _ _ h=>h) (zae _),M',n',rfl,hh⟩
     ·cases hh
    cases e with
    | normal=>exact fin h'
    | ret=>exact fin h'
    | exit i=>cases h'
   | false=>rw[hl]at h;cases h
  ·cases h
end
theorem Zwr:upT .e 0=Zaa.emp:=Zaa.ext (by funext i;rfl) rfl
def eqE:TypeId->Option (List SK):=fun t=>if t=28 then some [.int .i64,.str] else none
def eqT:EqT:=⟨eqE,fun _=>false⟩
theorem ZfM (b:Bool) (d:Nat) (w:World) (a:Int):(Instr.checkKey b (d+1) 3 (.int .i64 a)).run Tryz.prog w=.ok () w:=by
 unfold Instr.checkKey
 simp[run_underlying Tryz.underlying3]
theorem ba_dec (a b:ByteArray):(a == b)=decide (a=b):=by rw[zaZ,Zmh];simp
theorem ba_tl (a b:ByteArray):(a.toList=b.toList)=(a=b):=propext ⟨fun h=>by rw[ByteArray.toList_eq,ByteArray.toList_eq]at h;exact za3 (zbQ.1 h),fun h=>by rw[h]⟩
theorem chk_str (b:Bool) (d:Nat) (w:World) (a:ByteArray):(Instr.checkKey b (d+1) 9 (.string a)).run Tryz.prog w=.ok () w:=by
 unfold Instr.checkKey
 simp[run_underlying Tryz.underlying9]
set_option maxHeartbeats 1000000 in
set_option maxRecDepth 100000 in
theorem eq_call (d:Nat) (w:World) (a0 b0:ByteArray) (a1 b1:Int):(Op.equalIn (d+2) 28 (.agg #[.int .i64 a1,.string a0]) (.agg #[.int .i64 b1,.string b0])).run Tryz.prog w=.ok ((a1 == b1)&&(a0 == b0)) w:=by
 rw[run_equalIn_struct w (d+1) _ _ _ (by kernel_rfl) (by kernel_rfl)]
 by_cases h0:a0=b0<;>by_cases h1:a1=b1<;>simp[go_sem,h0,h1,ba_dec,ba_tl]
set_option maxHeartbeats 1000000 in
set_option maxRecDepth 100000 in
theorem chk_call (b:Bool) (d:Nat) (w:World) (a0:ByteArray) (a1:Int):(Instr.checkKey b (d+2) 28 (.agg #[.int .i64 a1,.string a0])).run Tryz.prog w=.ok () w:=by
 unfold Instr.checkKey
 simp[run_underlying Tryz.underlying28,go_sem,ZfM,chk_str]
theorem hE:∀t ks,eqT t=some ks->Ziv Tryz.prog t ks:=by
 intro t ks h
 have h:eqE t=some ks:=h
 unfold eqE at h
 split at h
 ·rename_i e
  subst e
  injection h with h
  subst h
  intro xs ys h1 h2 h3 h4 w
  obtain⟨x0,x1,rfl⟩:∃a b,xs=[a,b]:=by
   match xs,h1 with
   | [a,b],_=>exact⟨a,b,rfl⟩
  obtain⟨y0,y1,rfl⟩:∃a b,ys=[a,b]:=by
   match ys,h2 with
   | [a,b],_=>exact⟨a,b,rfl⟩
  obtain⟨a0,rfl⟩:∃s,x1=.string s:=by
   have:=h3 1 .str x1 rfl rfl
   cases x1<;>simp[SK.is]at this
   exact⟨_,rfl⟩
  obtain⟨b0,rfl⟩:∃s,y1=.string s:=by
   have:=h4 1 .str y1 rfl rfl
   cases y1<;>simp[SK.is]at this
   exact⟨_,rfl⟩
  obtain⟨a1,rfl⟩:∃s,x0=.int .i64 s:=by
   have:=h3 0 (.int .i64) x0 rfl rfl
   cases x0<;>simp[SK.is]at this
   subst this
   exact⟨_,rfl⟩
  obtain⟨b1,rfl⟩:∃s,y0=.int .i64 s:=by
   have:=h4 0 (.int .i64) y0 rfl rfl
   cases y0<;>simp[SK.is]at this
   subst this
   exact⟨_,rfl⟩
  refine⟨?_,fun b=>chk_call b 9998 w a0 a1⟩
  refine(eq_call 9998 w a0 b0 a1 b1).trans ?_
  simp[ZgE,vEq]
 ·cases h
def za0:AV:=.agg [.sc (.int .u8 0),.sc (.int .u8 0),.sc (.int .u8 0),.sc (.int .u8 0),.sc (.int .u8 0),.sc (.int .u8 0),.sc (.int .u8 0),.sc (.int .u8 0),.sc (.int .u8 0),.sc (.int .u8 0),.sc (.int .u8 0),.sc (.int .u8 0),.sc (.int .u8 0),.sc (.int .u8 0),.sc (.int .u8 0),.sc (.int .u8 0),.sc (.int .u8 0),.sc (.int .u8 0),.sc (.int .u8 0),.sc (.int .u8 0),.sc (.int .u8 0),.sc (.int .u8 0),.sc (.int .u8 0),.sc (.int .u8 0)]
def za1:AV:=.agg [.sc (.int .u8 0),.sc (.int .u8 0),.sc (.int .u8 0),.sc (.int .u8 0),.sc (.int .u8 0),.sc (.int .u8 0),.sc (.int .u8 0),.sc (.int .u8 0),.sc (.int .u8 0),.sc (.int .u8 0),.sc (.int .u8 0),.sc (.int .u8 0),.sc (.int .u8 0),.sc (.int .u8 0),.sc (.int .u8 0),.sc (.int .u8 0),.sc (.int .u8 0),.sc (.int .u8 0),.sc (.int .u8 0),.sc (.int .u8 0),.sc (.int .u8 0),.sc (.int .u8 0),.sc (.int .u8 0),.sc (.int .u8 0),.sc (.int .u8 0),.sc (.int .u8 0),.sc (.int .u8 0),.sc (.int .u8 0),.sc (.int .u8 0),.sc (.int .u8 0),.sc (.int .u8 0),.sc (.int .u8 0),.sc (.int .u8 0),.sc (.int .u8 0),.sc (.int .u8 0),.sc (.int .u8 0),.sc (.int .u8 0),.sc (.int .u8 0),.sc (.int .u8 0),.sc (.int .u8 0),.sc (.int .u8 0),.sc (.int .u8 0),.sc (.int .u8 0),.sc (.int .u8 0),.sc (.int .u8 0),.sc (.int .u8 0),.sc (.int .u8 0),.sc (.int .u8 0),.sc (.int .u8 0),.sc (.int .u8 0),.sc (.int .u8 0),.sc (.int .u8 0),.sc (.int .u8 0),.sc (.int .u8 0),.sc (.int .u8 0),.sc (.int .u8 0),.sc (.int .u8 0),.sc (.int .u8 0),.sc (.int .u8 0),.sc (.int .u8 0),.sc (.int .u8 0),.sc (.int .u8 0),.sc (.int .u8 0),.sc (.int .u8 0),.sc (.int .u8 0)]
def za2:AV:=.agg [.sc (.int .u8 0),.sc (.int .u8 0),.sc (.int .u8 0),.sc (.int .u8 0),.sc (.int .u8 0),.sc (.int .u8 0),.sc (.int .u8 0),.sc (.int .u8 0),.sc (.int .u8 0)]
def YZ:=an7 za0.eq_1<|an7 za1.eq_1<|za2.eq_1
def Zxe:Zar:=rs 0 [.K 4]<|ri 11 [.M 0,.O (.len true (.t 12)),.B .gtr 13 500,.h 14,.M 1,.O (.len true (.t 16)),.B .gtr 17 500,.z] 19 (rr 19 [.c 6 [],.s 4])<|rs 20 [.M 0,.c 7 [21],.s 5]<|rs 23 [.M 5,.c 8 [24],.s 23,.e 23 0,.e 23 1,.m 6 26,.s 7]<|rs 28 [.M 1,.c 8 [29],.s 28,.e 28 0,.e 28 1,.m 8 31,.s 9]<|rs 33 [.M 1,.c 9 [34],.s 33,.e 33 0,.e 33 1,.m 10 36,.s 11]<|rr 37 [.M 5,.M 0,.c 10 [39],.b .eql 38 40,.y 41,.M 6,.M 0,.b .eql 43 44,.z,.y 46,.M 7,.z,.y 49,.M 8,.M 10,.b .eql 51 52,.z,.y 54,.M 9,.M 11,.O (.bnb false (.t 56) (.t 57)),.z,.y 59,.M 9,.u 61,.h 62,.M 8,.c 7 [64],.M 1,.b .eql 65 66,.z,.z,.y 69,.c 6 [],.z,.s 4]
theorem kf0 (f:FuncId) (c:Zar) (r:List Zcq) (n:Nat) (h:cFn Tryz.prog eqT f=some (c,r,n):=by kernel_rfl):cFn Tryz.prog eqT f=some (c,r,n):=h
def cf3:=kf0 3 Zxe [.tmp 4] 73
def Zna:Zar:=rs 0 [.K 0]<|rs 5 [.C 11 [.c (.sc (.string ⟨#[108,111,97,100,32,97,44,98,61,51]⟩))],.s 5,.e 5 0,.e 5 1,.o 1 (.box 28 (.c (.agg [.sc (.int .i64 0),.sc (.string ⟨#[]⟩)]))),.Z 2 1 7,.s 2]<|rs 9 [.C 11 [.c (.sc (.string ⟨#[97,115,107,32,42,32,48,61,120,44,121,47,49]⟩))],.s 9,.e 9 0,.e 9 1,.o 3 (.box 28 (.c (.agg [.sc (.int .i64 0),.sc (.string ⟨#[]⟩)]))),.Z 2 3 11,.s 4]<|rr 12 [.L 2 1,.O (.bld [.sc (.int .i64 0),.sc (.string ⟨#[]⟩)] [(0,(1,ik 2)),(1,(1,.c (.sc (.string ⟨#[1,1,97,1,98,6]⟩))))]),.O (.eqf [.int .i64,.str] false (.t 13) (.t 14)),.y 15,.i .eql 2 0,.z,.y 19,.F 0 3,.B .eql 22 5,.z,.y 24,.F 1 3,.O (.len true (.t 27)),.B .eql 28 12,.z,.y 30,.i .eql 4 0,.z,.s 0]
def cf6:=kf0 6 Zna [.tmp 0] 35
def c7_1:Zar:=rl 0 11 12 (.t 10) 26<|.blk 1<|rs 12 [.M 11,.s 4]<|rs 13 [.M 0,.M 4,.O (.ixs (.t 14) (.t 15)),.O (.bin .shr (.t 16) (.c (.sc (.int .u64 4)))),.O (.ixs (.c (.sc (.string ⟨#[48,49,50,51,52,53,54,55,56,57,97,98,99,100,101,102]⟩))) (.t 17)),.c 18 [3,18]]<|ry 19 [.M 0,.M 4,.O (.ixs (.t 20) (.t 21)),.O (.bin .and (.t 22) (.c (.sc (.int .u8 15)))),.O (.ixs (.c (.sc (.string ⟨#[48,49,50,51,52,53,54,55,56,57,97,98,99,100,101,102]⟩))) (.t 23)),.c 18 [3,24]]
def ZzR:Zar:=rs 1 [.O (.mv (.c (.sc (.string ⟨#[]⟩))))]<|ri 4 [.M 0,.c 17 [5]] 6 (rr 6 [.M 0,.s 2])<|rs 2 [.O (.box 54 (.c (.agg [.sc (.pointer none),.sl .full []])))]<|rs 7 [.C 18 [.t 3,.c (.sc (.int .u8 37))]]<|.seq (rs 8 [.M 0,.O (.len true (.t 9)),.J 0]<|c7_1)<|rr 26 [.c 19 [3],.s 2]
def cf7:=kf0 7 ZzR [.tmp 2] 28
def c8_1:Zar:=rv 0 20 [.M 5,.M 0,.O (.len true (.t 22)),.b .lss 21 23] 24<|.seq (.blk 1<|rt 30 [.m 27 0,.m 28 5,.o 29 (.ixs (.t 27) (.t 28)),.M 0,.i .add 5 1,.O (.ixs (.t 31) (.t 33)),.o 30 (.call (jf 20) [.c (.sc (.string ⟨#[48,49,50,51,52,53,54,55,56,57,97,98,99,100,101,102]⟩)),.t 29]),.C 20 [.c (.sc (.string ⟨#[48,49,50,51,52,53,54,55,56,57,97,98,99,100,101,102]⟩)),.t 34],.m 6 30,.s 7]<|ri 35 [.i .lss 6 0,.h 37,.i .lss 7 0,.z] 41 (rr 0 [.o 2 (.mv (.c (.sc (.string ⟨#[]⟩)))),.K 3])<|ry 41 [.M 4,.M 6,.O (.bin .shl (.t 43) (.c (.sc (.int .u64 4)))),.M 7,.b .or 44 45,.O (.cnv .u8 (.t 46)),.A 5 1 1 42 47,.s 4])<|ry 24 [.i .add 5 2,.s 5]
def Ztx:Zar:=rs 0 [.o 2 (.mv (.c (.sc (.string ⟨#[]⟩)))),.K 3]<|ri 8 [.M 0,.c 17 [9]] 10 (rr 10 [.M 0,.s 2,.T 3])<|ri 11 [.M 0,.O (.len true (.t 12)),.B .rem 13 2,.B .eql 14 0,.h 15,.M 0,.O (.ixs (.t 17) (ik 0)),.O (.bin .neq (.t 18) (.c (.sc (.int .u8 37)))),.z] 20 (rr 0 [.o 2 (.mv (.c (.sc (.string ⟨#[]⟩)))),.K 3])<|rs 0 [.D 4]<|.seq (rs 4 [.J 1]<|c8_1)<|rs 49 [.M 4,.O (.sob (.t 50)),.s 8]<|ri 51 [.M 8,.c 7 [52],.M 0,.b .neq 53 54] 55 (rr 0 [.o 2 (.mv (.c (.sc (.string ⟨#[]⟩)))),.K 3])<|rr 55 [.M 8,.s 2,.T 3]
def cf8:=kf0 8 Ztx [.tmp 2,.tmp 3] 57
def c9_1:Zar:=rv 0 16 [.i .add 5 1,.M 0,.O (.len true (.t 19)),.b .lss 18 20] 21<|.seq (.blk 1<|ri 23 [.M 0,.M 5,.O (.ixs (.t 24) (.t 25)),.c 22 [26],.O (.bin .gtr (.t 27) (.c (.sc (.int .u8 15)))),.h 28,.M 0,.i .add 5 1,.O (.ixs (.t 30) (.t 32)),.c 22 [33],.O (.bin .gtr (.t 34) (.c (.sc (.int .u8 15)))),.z] 36 (rr 0 [.o 2 (.mv (.c (.sc (.string ⟨#[]⟩)))),.K 3])<|rd 42 [.m 37 4,.m 38 0,.m 39 5,.o 40 (.ixs (.t 38) (.t 39)),.M 0,.i .add 5 1,.O (.ixs (.t 43) (.t 45)),.o 41 (.call (jf 22) [.t 40]),.o 42 (.bin .mul (.t 41) (.c (.sc (.int .u8 16)))),.c 22 [46],.b .add 42 47,.A 5 1 1 37 48,.s 4])<|ry 21 [.i .add 5 2,.s 5]
def Zq4:Zar:=rs 0 [.o 2 (.mv (.c (.sc (.string ⟨#[]⟩)))),.K 3]<|ri 5 [.M 0,.c 21 [6]] 7 (rr 7 [.M 0,.s 2,.T 3])<|ri 8 [.M 0,.O (.len true (.t 9)),.B .eql 10 0,.h 11,.M 0,.O (.ixs (.t 13) (ik 0)),.O (.bin .neq (.t 14) (.c (.sc (.int .u8 37)))),.z] 16 (rr 0 [.o 2 (.mv (.c (.sc (.string ⟨#[]⟩)))),.K 3])<|rs 0 [.D 4]<|.seq (rs 4 [.J 1]<|c9_1)<|ri 50 [.M 4,.O (.sob (.t 51)),.c 10 [52],.M 0,.b .neq 53 54] 55 (rr 0 [.o 2 (.mv (.c (.sc (.string ⟨#[]⟩)))),.K 3])<|rr 55 [.M 4,.O (.sob (.t 56)),.s 2,.T 3]
def cf9:=kf0 9 Zq4 [.tmp 2,.tmp 3] 58
def c10_1:Zar:=rv 0 8 [.M 4,.M 0,.O (.len true (.t 10)),.b .lss 9 11] 12<|.seq (.blk 1<|rd 20 [.m 15 3,.m 16 0,.m 17 4,.o 18 (.ixs (.t 16) (.t 17)),.o 19 (.bin .quo (.t 18) (.c (.sc (.int .u8 16)))),.M 0,.M 4,.O (.ixs (.t 21) (.t 22)),.O (.bin .rem (.t 23) (.c (.sc (.int .u8 16)))),.o 20 (.call (jf 23) [.t 19]),.c 23 [24],.O (.bsl 1 [.t 20,.t 25]),.a 5 1 1 15 26,.s 3])<|ry 12 [.i .add 4 1,.s 4]
def ZkB:Zar:=rs 1 [.O (.mv (.c (.sc (.string ⟨#[]⟩))))]<|ri 4 [.M 0,.c 21 [5]] 6 (rr 6 [.M 0,.s 2])<|rs 7 [.O (.bsl 1 [.c (.sc (.int .u8 37))]),.s 3]<|.seq (rs 3 [.J 0]<|c10_1)<|rr 27 [.M 3,.O (.sob (.t 28)),.s 2]
def cf10:=kf0 10 ZkB [.tmp 2] 30
def ZlE:Zar:=rs 1 [.O (.box 28 (.c (.agg [.sc (.int .i64 0),.sc (.string ⟨#[]⟩)]))),.J 0]<|rs 9 [.M 0,.C 24 [.t 10,.c (.sc (.string ⟨#[32]⟩))],.s 4]<|ri 11 [.M 4,.O (.ixa 1 (.t 12) (ik 0)),.l 1 13,.O (.bin .eql (.t 14) (.c (.sc (.string ⟨#[114,97,119]⟩))))] 15 (.seq (rs 16 [.M 4,.O (.slc 1 (.t 17) (some (ik 1)) none none),.c 25 [18],.s 16,.e 16 0,.e 16 1,.o 5 (.box 28 (.c (.agg [.sc (.int .i64 0),.sc (.string ⟨#[]⟩)]))),.Z 2 5 20,.s 6]<|rs 21 [.M 6]<|.cond (.t 22) (rr 22 [.L 2 5,.Z 2 2 23,.j 3 0])<|.skip)<|rr 2 [.o 24 (.bld [.sc (.int .i64 0),.sc (.string ⟨#[]⟩)] []),.Z 2 2 24,.J 16])<|.seq (.drw [ip (im 26 4),ip (io 27 (.ixa 1 (.t 26) (ik 0))),ip (io 28 (.ld 1 false (.t 27))),(io 25 (.call (jf 26) []),[io 28 (.ld 1 false (.t 27))]),ip (io 29 (.lkp (.one .str) (.sc (.int .i64 0)) false (.t 25) (.t 28))),ip (im 7 29)])<|rt 32 [.m 31 7,.M 4,.O (.slc 1 (.t 33) (some (ik 1)) none none),.o 32 (.call (jf 27) [.t 31]),.O (.call (.t 32) [.t 34]),.s 30,.e 30 0,.e 30 1,.m 8 36,.s 9]<|ri 37 [.M 9,.u 38,.h 39,.i .eql 7 0,.z] 43 (rr 2 [.o 44 (.bld [.sc (.int .i64 0),.sc (.string ⟨#[]⟩)] []),.Z 2 2 44,.J 16])<|rr 44 [.M 7,.M 8,.O (.bld [.sc (.int .i64 0),.sc (.string ⟨#[]⟩)] [(0,(1,.t 45)),(1,(1,.t 46))]),.Z 2 2 47,.j 3 0]
def cf11:=kf0 11 ZlE [(.cell 2 true 2),.tmp 3] 48
def c17_1:Zar:=rl 0 6 7 (.t 5) 14<|.blk 1<|rs 7 [.M 6,.s 3]<|rs 8 [.M 0,.M 3,.O (.ixs (.t 9) (.t 10)),.c 41 [11],.u 12]<|.cond (.t 13) (rr 0 [.K 2])<|.skip
def ZqR:Zar:=rs 0 [.K 2]<|.seq (rs 3 [.M 0,.O (.len true (.t 4)),.J 0]<|c17_1)<|rr 14 [.M 0,.O (.bin .neq (.t 15) (.c (.sc (.string ⟨#[]⟩)))),.s 2]
def cf17:=kf0 17 ZqR [.tmp 2] 17
def Zo4:Zar:=rs 3 [.O (.mv (.c (.sc .nilIface)))]<|rs 4 [.M 0,.c 42 [5]]<|rs 6 [.M 0,.M 0,.k 8,.F 1 9,.M 1,.A 5 1 1 11 12,.k 7,.f 1 15,.Z 1 16 14]<|rr 3 [.O (.mv (.c (.sc .nilIface)))]
def cf18:=kf0 18 Zo4 [.tmp 4] 17
def c21_1:Zar:=rv 0 4 [.M 3,.M 0,.O (.len true (.t 6)),.b .lss 5 7] 8<|.seq (.blk 1<|rs 10 [.M 0,.M 3,.O (.ixs (.t 11) (.t 12)),.s 4]<|rs 13 [.M 4,.O (.bin .geq (.t 14) (.c (.sc (.int .u8 97)))),.y 15,.M 4,.O (.bin .leq (.t 17) (.c (.sc (.int .u8 122)))),.z,.h 19,.M 4,.O (.bin .geq (.t 21) (.c (.sc (.int .u8 48)))),.y 22,.M 4,.O (.bin .leq (.t 24) (.c (.sc (.int .u8 57)))),.z,.z,.h 27,.M 4,.O (.bin .eql (.t 29) (.c (.sc (.int .u8 95)))),.z,.u 31]<|.cond (.t 32) (rr 0 [.K 2])<|.skip)<|ry 8 [.i .add 3 1,.s 3]
def Zeb:Zar:=rs 0 [.K 2]<|.seq (rs 2 [.J 0]<|c21_1)<|rr 32 [.M 0,.O (.len true (.t 33)),.B .gtr 34 0,.s 2]
def cf21:=kf0 21 Zeb [.tmp 2] 36
def c22_1:Zar:=rv 0 3 [.M 3,.O (.bin .lss (.t 4) (.c (.sc (.int .u8 16))))] 5<|.seq (.blk 1<|rs 7 [.M 3,.c 23 [8],.M 0,.b .eql 9 10]<|.cond (.t 11) (rr 11 [.M 3,.s 2])<|.skip)<|ry 5 [.M 3,.O (.bin .add (.t 6) (.c (.sc (.int .u8 1)))),.s 3]
def Zg5:Zar:=rs 1 [.O (.mv (.c (.sc (.int .u8 0))))]<|.seq (rs 2 [.O (.mv (.c (.sc (.int .u8 0))))]<|c22_1)<|rr 1 [.O (.mv (.c (.sc (.int .u8 16))))]
def cf22:=kf0 22 Zg5 [.tmp 2] 13
def Zga:Zar:=rs 1 [.O (.mv (.c (.sc (.int .u8 0))))]<|ri 2 [.M 0,.O (.bin .lss (.t 3) (.c (.sc (.int .u8 10))))] 4 (rr 4 [.M 0,.O (.bin .add (.c (.sc (.int .u8 48))) (.t 5)),.s 2])<|rr 6 [.M 0,.O (.bin .add (.c (.sc (.int .u8 97))) (.t 7)),.O (.bin .sub (.t 8) (.c (.sc (.int .u8 10)))),.s 2]
def cf23:=kf0 23 Zga [.tmp 2] 10
def ZuT:Zar:=rs 0 [.D 4]<|rr 4 [.M 0,.M 1,.C 44 [.t 5,.t 6,ik 0,ik (-1)],.s 4]
def cf24:=kf0 24 ZuT [.tmp 4] 8
def Zlu:Zar:=rs 0 [.o 2 (.box 28 (.c (.agg [.sc (.int .i64 0),.sc (.string ⟨#[]⟩)]))),.K 3]<|ri 7 [.R 0,.B .neq 9 2] 10 (rr 10 [.O (.bld [.sc (.int .i64 0),.sc (.string ⟨#[]⟩)] []),.Z 2 2 11,.K 3])<|rs 12 [.M 0,.O (.ixa 1 (.t 13) (ik 0)),.l 1 14,.c 45 [15],.s 12,.e 12 0,.e 12 1,.m 4 17,.s 5]<|rs 19 [.M 0,.O (.ixa 1 (.t 20) (ik 1)),.l 1 21,.c 8 [22],.s 19,.e 19 0,.e 19 1,.m 6 24,.s 7]<|rr 25 [.M 4,.M 6,.O (.bld [.sc (.int .i64 0),.sc (.string ⟨#[]⟩)] [(0,(1,.t 26)),(1,(1,.t 27))]),.M 5,.y 29,.M 7,.z,.Z 2 2 28,.s 3]
def cf25:=kf0 25 Zlu [(.cell 2 true 2),.tmp 3] 33
def c26_0:Zar:=rs 0 [.o 0 (.mv (.c (.sc (.map none))))]<|rr 0 [.O (.mkm (.one .str)),.w (.mup (.one .str) (.t 1) (.c (.sc (.string ⟨#[99,114,101,97,116,101]⟩))) (ik 1)),.w (.mup (.one .str) (.t 1) (.c (.sc (.string ⟨#[108,111,97,100]⟩))) (ik 2)),.w (.mup (.one .str) (.t 1) (.c (.sc (.string ⟨#[109,101,114,103,101]⟩))) (ik 3)),.w (.mup (.one .str) (.t 1) (.c (.sc (.string ⟨#[114,101,98,117,105,108,100]⟩))) (ik 4)),.w (.mup (.one .str) (.t 1) (.c (.sc (.string ⟨#[97,115,107]⟩))) (ik 5)),.w (.mup (.one .str) (.t 1) (.c (.sc (.string ⟨#[115,116,97,116,115]⟩))) (ik 6)),.w (.mup (.one .str) (.t 1) (.c (.sc (.string ⟨#[99,108,111,115,101]⟩))) (ik 7)),.M 1,.s 0]
def cf26:=kf0 26 c26_0 [.tmp 0] 3
def Zdp:Zar:=rs 1 [.O (.mv (.c (.sc .nilFunc)))]<|.seq (rs 0 [.s 3]<|.blk 0<|rs 4 [.B .eql 3 1,.s 4]<|.cond (.t 4) (rr 1 [.O (.mv (jf 46))])<|.seq (rs 6 [.B .eql 3 2,.s 6]<|.cond (.t 6) .skip<|ry 7 [.B .eql 3 3,.s 6])<|.cond (.t 6) (rr 1 [.O (.mv (jf 47))])<|rs 9 [.B .eql 3 5,.s 9]<|.cond (.t 9) (rr 1 [.O (.mv (jf 48))])<|.skip)<|rr 1 [.O (.mv (jf 49))]
def cf27:=kf0 27 Zdp [.tmp 2] 11
def c33_0:Zar:=rs 1 [.O (.mv (.c (.sc (.string ⟨#[]⟩))))]<|rr 2 [.M 0,.c 58 [3],.s 2]
def cf33:=kf0 33 c33_0 [.tmp 2] 5
def Zvl:Zar:=rs 3 [.O (.mv (.c (.sc (.string ⟨#[]⟩))))]<|rr 4 [.M 0,.M 1,.c 59 [5,6],.s 4]
def cf35:=kf0 35 Zvl [.tmp 4] 8
def Ztz:Zar:=rs 1 [.O (.mv (.c (.sc (.string ⟨#[]⟩))))]<|rr 2 [.M 0,.C 35 [.t 3,ik 10],.s 2]
def cf38:=kf0 38 Ztz [.tmp 2] 5
def ZsN:Zar:=rs 0 [.K 2]<|rr 2 [.M 0,.O (.bin .leq (.c (.sc (.int .u8 97))) (.t 3)),.y 4,.M 0,.O (.bin .leq (.t 6) (.c (.sc (.int .u8 122)))),.z,.h 8,.M 0,.O (.bin .leq (.c (.sc (.int .u8 48))) (.t 10)),.y 11,.M 0,.O (.bin .leq (.t 13) (.c (.sc (.int .u8 57)))),.z,.z,.h 16,.M 0,.O (.bin .eql (.t 18) (.c (.sc (.int .u8 95)))),.z,.s 2]
def cf41:=kf0 41 ZsN [.tmp 2] 21
def c44_1:Zar:=rv 0 33 [.M 10,.M 3,.b .lss 34 35] 36<|.blk 1<|rs 36 [.M 0,.M 1,.c 66 [37,38],.s 11]<|ri 39 [.i .lss 11 0] 41 (.exit 0)<|rs 41 [.M 9,.M 10,.M 0,.M 11,.M 2,.b .add 45 46,.O (.slS (.t 44) none (some (.t 47))),.x 1 42 43,.Z 1 49 48]<|rs 49 [.M 0,.M 11,.M 1,.O (.len true (.t 52)),.b .add 51 53,.O (.slS (.t 50) (some (.t 54)) none),.s 0]<|ry 55 [.i .add 10 1,.s 10]
def ZHo:Zar:=rs 0 [.D 8]<|ri 11 [.i .eql 3 0] 13 (rr 0 [.D 8])<|ri 13 [.M 1,.O (.bin .eql (.t 14) (.c (.sc (.string ⟨#[]⟩))))] 15 (rr 15 [.M 0,.M 3,.c 64 [16,17],.s 8])<|ri 18 [.i .lss 3 0] 20 (ry 20 [.M 0,.M 1,.c 65 [21,22],.B .add 23 1,.s 3])<|rs 24 [.M 3,.M 0,.O (.len true (.t 26)),.B .add 27 1,.O (.mm false (.t 25) (.t 28)),.s 3]<|rs 29 [.M 3,.O (.mks 9 1 16 [.sc (.string ⟨#[]⟩)] (.t 30) (.t 30)),.s 9]<|rs 31 [.i .sub 3 1,.s 3]<|rs 9 [.J 0]<|.seq c44_1<|rs 57 [.M 9,.M 10,.M 0,.x 1 58 59,.Z 1 61 60]<|rr 61 [.M 9,.i .add 10 1,.O (.slc 1 (.t 62) none (some (.t 64)) none),.s 8]
def cf44:=kf0 44 ZHo [.tmp 8] 66
def Zq5:Zar:=rs 0 [.j 2 0,.K 3]<|rs 6 [.M 0,.C 67 [.t 7,ik 10,ik 64],.s 6,.e 6 0,.e 6 1,.m 4 9,.s 5]<|rr 10 [.M 4,.M 5,.O (.eqn 3 false (.t 12) (.c (.sc .nilIface))),.y 13,.M 4,.c 38 [15],.M 0,.b .eql 16 17,.z,.m 2 11,.s 3]
def cf45:=kf0 45 Zq5 [.tmp 2,.tmp 3] 20
def c46_1:Zar:=rl 0 11 12 (.t 10) 18<|.blk 1<|rs 12 [.Y 1 9 11,.s 6]<|rs 14 [.M 6,.c 68 [4,15],.u 16]<|.cond (.t 17) (rr 0 [.o 2 (.mv (.c (.sc (.string ⟨#[]⟩)))),.K 3])<|.skip
def ZrM:Zar:=rs 0 [.o 2 (.mv (.c (.sc (.string ⟨#[]⟩)))),.K 3]<|rs 3 [.O (.box 76 (.c (.agg [.sl .full [],.sl .full []])))]<|.seq (rs 8 [.R 0,.J 0]<|c46_1)<|rs 19 [.L 2 4,.c 69 [20],.s 19,.e 19 0,.e 19 1,.m 7 22,.s 8]<|rr 23 [.M 7,.i .eql 8 0,.y 26,.L 2 4,.c 71 [28],.M 0,.c 70 [29,30],.z,.m 2 24,.s 3]
def cf46:=kf0 46 ZrM [.tmp 2,.tmp 3] 33
def c47_2:Zar:=rl 2 45 46 (.t 44) 53<|.blk 3<|rs 46 [.Y 1 43 45,.s 13]<|.drw [ip (io 49 (.ld 1 false (.t 4))),ip (im 50 13),(io 51 (.call (jf 75) [.t 50]),[io 49 (.ld 1 false (.t 4))]),ip (io 52 (.bin .add (.t 49) (.t 51))),ip (iz (.st 1 (.t 4) (.t 52)))]
def c47_1:Zar:=rl 0 22 23 (.t 21) 70<|.blk 1<|rs 23 [.Y 1 20 22,.s 6]<|rs 26 [.M 6,.C 73 [.t 27,.c (.sc (.string ⟨#[61]⟩))],.s 26,.e 26 0,.e 26 1,.e 26 2,.m 7 29,.m 8 30,.s 9]<|rs 32 [.M 7,.c 74 [33],.s 32,.e 32 0,.e 32 1,.m 10 35,.s 11]<|ri 36 [.M 9,.u 37,.h 38,.M 11,.u 40,.z] 42 (rr 0 [.w (.st 1 (.t 2) (.c (.sc (.string ⟨#[]⟩)))),.w (.st 1 (.t 3) (ib false))])<|.seq (rs 42 [.R 10,.J 0]<|c47_2)<|ri 53 [.M 8,.O (.bin .eql (.t 54) (.c (.sc (.string ⟨#[]⟩))))] 55 (.exit 1)<|rs 55 [.M 8,.C 76 [.t 56,.c (.sc (.string ⟨#[44]⟩))]]<|.blk 4<|.rf (.t 57) [58] (.reg [im 14 58]) (.blk 5 (.seq (.reg [im 60 14,io 61 (.call (jf 45) [.t 60]),im 59 61,io 62 (.ext (.t 59) 0),io 63 (.ext (.t 59) 1),im 15 62,im 16 63]) (.seq (.seq (.reg [im 64 16,io 65 (.un .not (.t 64))]) (.cond (.t 65) (.seq (.reg [iz (.st 1 (.t 2) (.c (.sc (.string ⟨#[]⟩)))),iz (.st 1 (.t 3) (ib false))]) .ret) .skip)) (.drw [ip (io 66 (.ld 1 false (.t 4))),ip (im 67 15),(io 68 (.call (jf 77) [.t 67]),[io 66 (.ld 1 false (.t 4))]),ip (io 69 (.bin .add (.t 66) (.t 68))),ip (iz (.st 1 (.t 4) (.t 69)))]))))
def c47_0:Zar:=rs 1 [.O (.box 9 (.c (.sc (.string ⟨#[]⟩)))),.O (.box 4 (ib false))]<|rs 16 [.R 0,.c 72 [18],.o 4 (.box 9 (.c (.sc (.string ⟨#[]⟩)))),.Z 1 4 19]<|.seq (rs 19 [.R 0,.J 0]<|c47_1)<|rr 70 [.l 1 4,.Z 1 2 71,.w (.st 1 (.t 3) (ib true))]
def cf47:=kf0 47 c47_0 [(.cell 1 false 2),(.cell 1 false 3)] 72
def c48_1:Zar:=rl 0 16 17 (.t 15) 50<|.blk 1<|rs 17 [.Y 1 14 16,.s 6]<|rs 20 [.M 6,.C 73 [.t 21,.c (.sc (.string ⟨#[47]⟩))],.s 20,.e 20 0,.e 20 1,.e 20 2,.m 7 23,.m 8 24,.s 9]<|rs 26 [.M 7,.c 78 [27],.s 26,.e 26 0,.e 26 1,.m 10 29,.s 11]<|ri 30 [.M 11,.u 31] 32 (rr 0 [.o 2 (.mv (.c (.sc (.string ⟨#[]⟩)))),.K 3])<|rs 33 [.M 8,.c 79 [34],.s 33,.e 33 0,.e 33 1,.m 12 36,.s 13]<|ri 37 [.M 9,.M 13,.O (.bnb true (.t 38) (.t 39))] 40 (rr 0 [.o 2 (.mv (.c (.sc (.string ⟨#[]⟩)))),.K 3])<|ri 40 [.M 9] 41 (ry 41 [.i .add 12 1,.s 12])<|ry 43 [.M 4,.M 10,.M 12,.c 72 [46],.b .add 45 47,.b .add 44 48,.s 4]
def ZeF:Zar:=rs 0 [.o 2 (.mv (.c (.sc (.string ⟨#[]⟩)))),.K 3]<|rs 3 [.O (.mv (.c (.sc (.string ⟨#[]⟩))))]<|.seq (rs 13 [.R 0,.J 0]<|c48_1)<|rr 50 [.M 4,.s 2,.T 3]
def cf48:=kf0 48 ZeF [.tmp 2,.tmp 3] 52
def ZmE:Zar:=rs 0 [.o 2 (.mv (.c (.sc (.string ⟨#[]⟩)))),.K 3]<|rr 3 [.R 0,.B .eql 5 0,.o 2 (.mv (.c (.sc (.string ⟨#[]⟩)))),.s 3]
def cf49:=kf0 49 ZmE [.tmp 2,.tmp 3] 7
def ZtC:Zar:=rs 1 [.O (.mv (.c (.sc (.string ⟨#[]⟩))))]<|rr 2 [.M 0,.C 59 [.t 3,ik 10],.s 2]
def cf58:=kf0 58 ZtC [.tmp 2] 5
def Zqj:Zar:=rs 3 [.O (.mv (.c (.sc (.string ⟨#[]⟩))))]<|ri 9 [.i .eql 1 10] 11 (ri 11 [.M 0,.O (.bin .leq (ik 0) (.t 12)),.y 13,.i .lss 0 100,.z] 17 (rr 17 [.M 0,.c 95 [18],.s 4])<|rs 4 [.O (.box 139 (.c za0))]<|rs 19 [.M 0,.O (.cnv .u64 (.t 20)),.s 6]<|ri 21 [.i .lss 0 0] 23 (ry 23 [.M 6,.O (.un .neg (.t 24)),.s 6])<|rs 25 [.M 6,.c 96 [26],.s 7]<|rs 27 [.M 7,.O (.bin .add (ik 1) (.t 28)),.O (.sla 24 1 (.t 5) (some (ik 1)) (some (.t 29)) none),.M 6,.c 97 [30,31]]<|ri 32 [.i .lss 0 0] 34 (rs 34 [.O (.ixA 24 1 (.t 5) (ik 0)),.w (.st 1 (.t 35) (.c (.sc (.int .u8 45))))]<|rr 35 [.M 7,.O (.bin .add (ik 1) (.t 36)),.O (.sla 24 1 (.t 5) none (some (.t 37)) none),.O (.sob (.t 38)),.s 4])<|rr 39 [.M 7,.O (.bin .add (ik 1) (.t 40)),.O (.sla 24 1 (.t 5) (some (ik 1)) (some (.t 41)) none),.O (.sob (.t 42)),.s 4])<|rs 44 [.M 0,.O (.cnv .u64 (.t 45)),.M 1,.i .lss 0 0,.C 98 [jn,.t 46,.t 47,.t 49,ib false],.s 44,.e 44 0,.e 44 1,.m 8 51,.s 9]<|rr 52 [.M 9,.s 4]
def cf59:=kf0 59 Zqj [.tmp 4] 54
def c64_1:Zar:=rv 0 21 [.M 7,.i .sub 1 1,.b .lss 22 24] 25<|.seq (.blk 1<|rs 28 [.M 0,.c 101 [29],.s 28,.e 28 0,.e 28 1,.m 8 31,.s 9]<|rs 32 [.M 6,.M 7,.M 0,.M 9,.O (.slS (.t 35) none (some (.t 36))),.x 1 33 34,.Z 1 38 37]<|ry 38 [.M 0,.M 9,.O (.slS (.t 39) (some (.t 40)) none),.s 0])<|ry 25 [.i .add 7 1,.s 7]
def ZoS:Zar:=rs 0 [.D 4]<|rs 9 [.M 0,.c 100 [10],.s 5]<|ri 11 [.i .lss 1 0,.h 13,.M 1,.M 5,.b .gtr 15 16,.z] 18 (ry 18 [.M 5,.s 1])<|rs 19 [.M 1,.O (.mks 9 1 16 [.sc (.string ⟨#[]⟩)] (.t 20) (.t 20)),.s 6]<|.seq (rs 6 [.J 0]<|c64_1)<|ri 41 [.i .gtr 1 0] 43 (ry 43 [.M 6,.i .sub 1 1,.M 0,.x 1 44 46,.Z 1 48 47])<|rr 48 [.M 6,.s 4]
def cf64:=kf0 64 ZoS [.tmp 4] 50
def Zks:Zar:=rs 5 [.J 0,.O (.mv (.c (.sc .nilIface)))]<|rs 9 [.M 0,.M 1,.M 2,.c 104 [10,11,12],.s 9,.e 9 0,.e 9 1,.m 8 14,.s 7]<|ri 15 [.M 7,.O (.eqn 3 true (.t 16) (.c (.sc .nilIface)))] 17 (rr 17 [.M 8,.M 0,.M 1,.M 2,.M 7,.C 105 [.c (.sc (.string ⟨#[80,97,114,115,101,73,110,116]⟩)),.t 19,.t 20,.t 21,.t 22],.m 6 18,.s 7])<|rr 23 [.M 8,.s 6,.o 7 (.mv (.c (.sc .nilIface)))]
def cf67:=kf0 67 Zks [.tmp 6,.tmp 7] 25
def ZiL:Zar:=rs 0 [.K 4]<|ri 6 [.M 1,.O (.bin .eql (.t 7) (.c (.sc (.string ⟨#[]⟩))))] 8 (rr 0 [.K 4])<|rs 8 [.M 1,.O (.slS (.t 9) (some (ik 1)) none),.s 5]<|.seq (rs 10 [.M 1,.O (.ixs (.t 11) (ik 0))]<|.blk 0<|rs 13 [.O (.bin .eql (.t 12) (.c (.sc (.int .u8 64)))),.s 13]<|.cond (.t 13) (rs 14 [.M 0,.M 0,.k 16,.F 0 17,.M 5,.O (.bld [.sc (.string ⟨#[]⟩),.sl .full []] [(0,(1,.t 20))]),.A 100 2 40 19 21,.k 15,.f 0 24,.Z 1 25 23]<|rr 0 [.T 4])<|rs 26 [.O (.bin .eql (.t 12) (.c (.sc (.int .u8 43)))),.s 26]<|.cond (.t 26) (rs 27 [.M 0,.M 0,.k 29,.F 1 30,.M 5,.A 9 1 16 32 33,.k 28,.f 1 36,.Z 1 37 35]<|rr 0 [.T 4])<|.skip)<|ri 37 [.M 0,.k 38,.N 0 39,.B .eql 42 0] 43 (rr 0 [.K 4])<|rt 43 [.M 0,.k 44,.F 0 45,.M 0,.k 48,.N 0 49,.B .sub 52 1,.x 2 47 53,.s 6]<|.seq (.blk 1<|rs 55 [.M 1,.O (.ixs (.t 56) (ik 0)),.O (.bin .eql (.t 57) (.c (.sc (.int .u8 94)))),.s 55]<|.cond (.t 55) (rs 58 [.M 6,.M 6,.k 60,.F 1 61,.M 5,.O (.bld [.sc (.string ⟨#[]⟩),.sl .full [],.sl .full []] [(0,(1,.t 64))]),.S 3 65,.C 106 [.t 63,ik 0,.t 66],.k 59,.f 1 68,.Z 1 69 67]<|rr 0 [.T 4])<|rs 70 [.M 1,.O (.ixs (.t 71) (ik 0)),.O (.bin .neq (.t 72) (.c (.sc (.int .u8 46)))),.h 73,.M 6,.k 75,.N 1 76,.B .eql 79 0,.z,.s 70]<|.cond (.t 70) (rr 0 [.K 4])<|rs 82 [.M 6,.k 83,.N 1 84,.B .eql 87 1,.s 82]<|.cond (.t 82) (rr 88 [.M 6,.k 89,.F 1 90,.O (.ixa 3 (.t 92) (ik 0)),.M 5,.C 107 [.t 93,.t 94,jn],.s 4])<|.skip)<|rt 95 [.M 6,.k 96,.F 1 97,.O (.ixa 3 (.t 99) (ik 0)),.M 5,.M 6,.k 102,.F 1 103,.O (.ixa 3 (.t 105) (ik 1)),.F 1 106,.c 107 [100,101,108],.s 4]<|.ret
def cf68:=kf0 68 ZiL [.tmp 4] 110
def c69_1:Zar:=rl 0 24 25 (.t 23) 36<|.blk 1<|rs 25 [.X 2 22 24,.o 7 (.box 100 (.c (.agg [.sc (.string ⟨#[]⟩),.sl .full []]))),.Z 2 7 27]<|rs 28 [.L 2 7,.c 109 [29],.s 28,.e 28 0,.e 28 1,.m 8 31,.s 9]<|ry 32 [.M 5,.M 8,.b .add 33 34,.s 5]
def c69_2:Zar:=rl 2 46 47 (.t 45) 54<|.blk 3<|rs 47 [.Y 1 44 46,.s 11]<|ry 49 [.M 5,.M 11,.c 75 [51],.b .add 50 52,.s 5]
def c69_0:Zar:=rs 1 [.v 1 76 0,.O (.mv (.c (.sc (.string ⟨#[]⟩)))),.J 0]<|.seq (rs 11 [.L 2 1,.c 108 [12],.s 4]<|rs 13 [.i .neq 4 0]<|.cond (.t 15) (rr 15 [.M 4,.o 2 (.mv (.c (.sc (.string ⟨#[]⟩)))),.s 3])<|.skip)<|rs 16 [.N 0 1,.c 72 [19],.s 5]<|.seq (rs 20 [.N 0 1,.J 0]<|c69_1)<|rs 36 [.M 5,.N 1 1,.c 72 [40],.b .add 37 41,.s 5]<|.seq (rs 42 [.N 1 1,.J 0]<|c69_2)<|rr 54 [.M 5,.s 2,.j 3 0]
def cf69:=kf0 69 c69_0 [.tmp 2,.tmp 3] 56
def c70_1:Zar:=rl 0 13 14 (.t 12) 25<|.blk 1<|rs 14 [.M 13,.s 5]<|rt 15 [.M 0,.M 5,.Y 1 16 17,.M 1,.M 5,.Y 1 20 21,.b .neq 19 23]<|.cond (.t 24) (rr 0 [.K 4])<|.skip
def ZnP:Zar:=rs 0 [.K 4]<|ri 5 [.R 0,.R 1,.b .neq 7 9] 10 (rr 0 [.K 4])<|.seq (rs 10 [.R 0,.J 0]<|c70_1)<|rr 0 [.T 4]
def cf70:=kf0 70 ZnP [.tmp 4] 26
def c71_2:Zar:=rv 2 25 [.i .geq 6 0] 27<|.seq (.blk 3<|rd 29 [.M 3,.F 1 5,.M 6,.X 3 32 33,.F 1 5,.i .add 6 1,.i .add 6 2,.N 1 5,.O (.mm false (.t 41) (.t 44)),.O (.slc 3 (.t 37) (some (.t 39)) (some (.t 45)) none),.c 110 [35,46],.a 9 1 16 30 47,.s 3])<|ry 27 [.i .sub 6 1,.s 6]
def c71_1:Zar:=rl 0 12 13 (.t 11) 49<|.blk 1<|rs 13 [.X 2 10 12,.o 5 (.box 100 (.c (.agg [.sc (.string ⟨#[]⟩),.sl .full []]))),.Z 2 5 15]<|rs 15 [.M 3,.F 0 5,.O (.bin .add (.c (.sc (.string ⟨#[64]⟩))) (.t 18)),.A 9 1 16 16 19,.s 3]<|rs 21 [.N 1 5,.B .sub 24 1,.s 6]<|c71_2
def c71_3:Zar:=rl 4 53 54 (.t 52) 62<|.blk 5<|rs 54 [.Y 1 51 53,.s 8]<|ry 56 [.M 3,.M 8,.O (.bin .add (.c (.sc (.string ⟨#[43]⟩))) (.t 58)),.A 9 1 16 57 59,.s 3]
def ZHh:Zar:=rs 1 [.v 1 76 0,.O (.mv jn)]<|rs 0 [.D 3]<|.seq (rs 8 [.N 0 1,.J 0]<|c71_1)<|.seq (rs 49 [.N 1 1,.J 0]<|c71_3)<|rr 62 [.M 3,.s 2]
def cf71:=kf0 71 ZHh [.tmp 2] 64
def ZhM:Zar:=rs 1 [.O (.mv (.c (.sc (.string ⟨#[]⟩))))]<|rr 2 [.M 0,.O (.mm true (.t 3) (ik 0)),.O (.cnv .u64 (.t 4)),.c 111 [5],.s 2]
def cf72:=kf0 72 ZhM [.tmp 2] 7
def c73_0:Zar:=rs 0 [.o 4 (.mv (.c (.sc (.string ⟨#[]⟩)))),.o 5 (.mv (.c (.sc (.string ⟨#[]⟩)))),.K 6]<|rr 6 [.M 0,.M 1,.c 112 [7,8],.e 9 0,.e 9 1,.e 9 2,.m 4 10,.m 5 11,.s 6]
def cf73:=kf0 73 c73_0 [.tmp 4,.tmp 5,.tmp 6] 13
def Znz:Zar:=rs 1 [.O (.box 39 jn),.O (.box 4 (ib false))]<|ri 7 [.M 0,.O (.bin .eql (.t 8) (.c (.sc (.string ⟨#[]⟩))))] 9 (rr 0 [.w (.st 1 (.t 2) jn),.w (.st 1 (.t 3) (ib true))])<|rs 3 [.O (.box 39 jn)]<|.seq (rs 9 [.M 0,.C 76 [.t 10,.c (.sc (.string ⟨#[44]⟩))]]<|.blk 0<|.rf (.t 11) [12] (.reg [im 5 12]) (.blk 1 (.seq (.reg [im 14 5,io 15 (.call (jf 8) [.t 14]),im 13 15,io 16 (.ext (.t 13) 0),io 17 (.ext (.t 13) 1),im 6 16,im 7 17]) (.seq (.seq (.reg [im 18 7,io 19 (.un .not (.t 18))]) (.cond (.t 19) (.seq (.reg [iz (.st 1 (.t 2) jn),iz (.st 1 (.t 3) (ib false))]) .ret) .skip)) (.reg [io 20 (.ld 1 false (.t 4)),im 21 6,io 22 (.bsl 1 [.t 21]),io 23 (.app 9 1 16 (.t 20) (.t 22)),iz (.st 1 (.t 4) (.t 23))])))))<|rr 23 [.l 1 4,.Z 1 2 24,.w (.st 1 (.t 3) (ib true))]
def cf74:=kf0 74 Znz [(.cell 1 false 2),(.cell 1 false 3)] 25
def c75_0:Zar:=rs 1 [.O (.mv (.c (.sc (.string ⟨#[]⟩))))]<|rr 2 [.M 0,.O (.len true (.t 3)),.c 72 [4],.M 0,.b .add 5 6,.s 2]
def cf75:=kf0 75 c75_0 [.tmp 2] 8
def Zuo:Zar:=rs 3 [.O (.mv (.c (.sc .nilFunc)))]<|rr 4 [.M 0,.M 1,.C 113 [.t 5,.t 6,ik 0],.s 4]
def cf76:=kf0 76 Zuo [.tmp 4] 8
def ZdC:Zar:=rs 1 [.O (.mv (.c (.sc (.string ⟨#[]⟩))))]<|rr 2 [.M 0,.c 114 [3],.s 2]
def cf77:=kf0 77 ZdC [.tmp 2] 5
def ZtG:Zar:=rs 0 [.o 2 (.mv (.c (.sc (.string ⟨#[]⟩)))),.K 3]<|ri 17 [.M 0,.O (.bin .eql (.t 18) (.c (.sc (.string ⟨#[42]⟩))))] 19 (rr 19 [.C 72 [ik 0],.s 2,.T 3])<|ri 20 [.M 0,.O (.bin .eql (.t 21) (.c (.sc (.string ⟨#[]⟩))))] 22 (rr 0 [.o 2 (.mv (.c (.sc (.string ⟨#[]⟩)))),.K 3])<|rs 23 [.M 0,.O (.slS (.t 24) none (some (ik 1))),.c 79 [25],.s 23,.e 23 0,.e 23 1,.m 4 27,.s 5]<|rs 28 [.M 0,.O (.slS (.t 29) (some (ik 1)) none),.s 6]<|ri 30 [.M 5,.u 31,.h 32,.M 6,.O (.bin .eql (.t 34) (.c (.sc (.string ⟨#[]⟩)))),.z] 36 (rr 0 [.o 2 (.mv (.c (.sc (.string ⟨#[]⟩)))),.K 3])<|ri 36 [.M 6,.O (.ixs (.t 37) (ik 0)),.O (.bin .eql (.t 38) (.c (.sc (.int .u8 61))))] 39 (rs 40 [.M 6,.O (.slS (.t 41) (some (ik 1)) none),.c 74 [42],.s 40,.e 40 0,.e 40 1,.m 7 44,.s 8]<|rs 46 [.M 7,.c 115 [47],.s 46,.e 46 0,.e 46 1,.m 9 49,.s 10]<|rr 50 [.C 72 [ik 2],.M 4,.c 72 [52],.b .add 51 53,.M 9,.b .add 54 55,.M 8,.y 57,.i .eql 10 0,.z,.m 2 56,.s 3])<|rs 62 [.M 6,.O (.slS (.t 63) (some (ik 1)) none),.C 73 [.t 64,.c (.sc (.string ⟨#[126]⟩))],.s 62,.e 62 0,.e 62 1,.e 62 2,.m 11 66,.m 12 67,.s 13]<|rs 69 [.M 11,.c 8 [70],.s 69,.e 69 0,.e 69 1,.m 14 72,.s 15]<|rs 74 [.M 12,.c 8 [75],.s 74,.e 74 0,.e 74 1,.m 16 77,.s 17]<|rt 88 [.m 80 4,.m 83 14,.m 86 16,.M 6,.O (.ixs (.t 89) (ik 0)),.O (.bin .eql (.t 90) (.c (.sc (.int .u8 126)))),.o 79 (.call (jf 72) [ik 1]),.o 81 (.call (jf 72) [.t 80]),.o 82 (.bin .add (.t 79) (.t 81)),.o 84 (.call (jf 75) [.t 83]),.o 85 (.bin .add (.t 82) (.t 84)),.o 87 (.call (jf 75) [.t 86]),.o 88 (.bin .add (.t 85) (.t 87)),.y 91,.M 13,.z,.y 94,.M 15,.z,.y 97,.M 17,.z,.m 2 88,.s 3]<|.ret
def cf78:=kf0 78 ZtG [.tmp 2,.tmp 3] 101
def ZtM:Zar:=rs 0 [.j 2 0,.K 3]<|ri 3 [.M 0,.O (.len true (.t 4)),.B .neq 5 1,.h 6,.M 0,.O (.ixs (.t 8) (ik 0)),.O (.bin .lss (.t 9) (.c (.sc (.int .u8 48)))),.z,.h 11,.M 0,.O (.ixs (.t 13) (ik 0)),.O (.bin .gtr (.t 14) (.c (.sc (.int .u8 57)))),.z] 16 (rr 0 [.j 2 0,.K 3])<|rr 16 [.M 0,.O (.ixs (.t 17) (ik 0)),.O (.bin .sub (.t 18) (.c (.sc (.int .u8 48)))),.O (.cnv .i64 (.t 19)),.s 2,.T 3]
def cf79:=kf0 79 ZtM [.tmp 2,.tmp 3] 21
def Zvp:Zar:=rs 1 [.O (.mv (.c (.sc (.string ⟨#[]⟩))))]<|ri 2 [.i .lss 0 10] 4 (rr 4 [.M 0,.i .add 0 1,.O (.slS (.c (.sc (.string ⟨#[48,49,50,51,52,53,54,55,56,57,97,98,99,100,101,102,103,104,105,106,107,108,109,110,111,112,113,114,115,116,117,118,119,120,121,122]⟩))) (some (.t 5)) (some (.t 7))),.s 2])<|rr 8 [.i .mul 0 2,.i .mul 0 2,.B .add 12 2,.O (.slS (.c (.sc (.string ⟨#[48,48,48,49,48,50,48,51,48,52,48,53,48,54,48,55,48,56,48,57,49,48,49,49,49,50,49,51,49,52,49,53,49,54,49,55,49,56,49,57,50,48,50,49,50,50,50,51,50,52,50,53,50,54,50,55,50,56,50,57,51,48,51,49,51,50,51,51,51,52,51,53,51,54,51,55,51,56,51,57,52,48,52,49,52,50,52,51,52,52,52,53,52,54,52,55,52,56,52,57,53,48,53,49,53,50,53,51,53,52,53,53,53,54,53,55,53,56,53,57,54,48,54,49,54,50,54,51,54,52,54,53,54,54,54,55,54,56,54,57,55,48,55,49,55,50,55,51,55,52,55,53,55,54,55,55,55,56,55,57,56,48,56,49,56,50,56,51,56,52,56,53,56,54,56,55,56,56,56,57,57,48,57,49,57,50,57,51,57,52,57,53,57,54,57,55,57,56,57,57]⟩))) (some (.t 10)) (some (.t 13))),.s 2]
def cf95:=kf0 95 Zvp [.tmp 2] 15
def ZiC:Zar:=rs 1 [.J 0]<|rs 3 [.M 0,.c 129 [4],.c 128 [5],.s 3]<|rr 6 [.M 3,.M 0,.M 3,.O (.ixA 20 1 (.c (.sc (.pointer (some ⟨1,0,none⟩)))) (.t 9)),.l 1 10,.b .geq 8 11,.c 130 [12],.b .add 7 13,.s 2]
def cf96:=kf0 96 ZiC [.tmp 2] 15
def c97_1:Zar:=rv 0 18 [.i .geq 4 8] 20<|.blk 1<|rs 20 [.M 1,.O (.bin .rem (.t 21) (.c (.sc (.int .u64 100000000)))),.O (.cnv .u32 (.t 22)),.s 5]<|rs 23 [.M 1,.O (.bin .quo (.t 24) (.c (.sc (.int .u64 100000000)))),.s 1]<|rs 25 [.M 5,.O (.bin .quo (.t 26) (.c (.sc (.int .u32 10000)))),.M 5,.O (.bin .rem (.t 28) (.c (.sc (.int .u32 10000)))),.m 6 27,.s 7]<|rs 29 [.M 7,.O (.bin .quo (.t 30) (.c (.sc (.int .u32 100)))),.O (.bin .mul (.t 31) (.c (.sc (.int .u32 2)))),.M 7,.O (.bin .rem (.t 33) (.c (.sc (.int .u32 100)))),.O (.bin .mul (.t 34) (.c (.sc (.int .u32 2)))),.m 8 32,.s 9]<|rs 35 [.M 6,.O (.bin .quo (.t 36) (.c (.sc (.int .u32 100)))),.O (.bin .mul (.t 37) (.c (.sc (.int .u32 2)))),.M 6,.O (.bin .rem (.t 39) (.c (.sc (.int .u32 100)))),.O (.bin .mul (.t 40) (.c (.sc (.int .u32 2)))),.m 10 38,.s 11]<|rt 41 [.M 0,.i .sub 4 1,.M 0,.i .sub 4 2,.M 9,.O (.bin .add (.t 48) (.c (.sc (.int .u32 1)))),.O (.ixs (.c (.sc (.string ⟨#[48,48,48,49,48,50,48,51,48,52,48,53,48,54,48,55,48,56,48,57,49,48,49,49,49,50,49,51,49,52,49,53,49,54,49,55,49,56,49,57,50,48,50,49,50,50,50,51,50,52,50,53,50,54,50,55,50,56,50,57,51,48,51,49,51,50,51,51,51,52,51,53,51,54,51,55,51,56,51,57,52,48,52,49,52,50,52,51,52,52,52,53,52,54,52,55,52,56,52,57,53,48,53,49,53,50,53,51,53,52,53,53,53,54,53,55,53,56,53,57,54,48,54,49,54,50,54,51,54,52,54,53,54,54,54,55,54,56,54,57,55,48,55,49,55,50,55,51,55,52,55,53,55,54,55,55,55,56,55,57,56,48,56,49,56,50,56,51,56,52,56,53,56,54,56,55,56,56,56,57,57,48,57,49,57,50,57,51,57,52,57,53,57,54,57,55,57,56,57,57]⟩))) (.t 49)),.M 9,.O (.ixs (.c (.sc (.string ⟨#[48,48,48,49,48,50,48,51,48,52,48,53,48,54,48,55,48,56,48,57,49,48,49,49,49,50,49,51,49,52,49,53,49,54,49,55,49,56,49,57,50,48,50,49,50,50,50,51,50,52,50,53,50,54,50,55,50,56,50,57,51,48,51,49,51,50,51,51,51,52,51,53,51,54,51,55,51,56,51,57,52,48,52,49,52,50,52,51,52,52,52,53,52,54,52,55,52,56,52,57,53,48,53,49,53,50,53,51,53,52,53,53,53,54,53,55,53,56,53,57,54,48,54,49,54,50,54,51,54,52,54,53,54,54,54,55,54,56,54,57,55,48,55,49,55,50,55,51,55,52,55,53,55,54,55,55,55,56,55,57,56,48,56,49,56,50,56,51,56,52,56,53,56,54,56,55,56,56,56,57,57,48,57,49,57,50,57,51,57,52,57,53,57,54,57,55,57,56,57,57]⟩))) (.t 51)),.x 1 42 44,.Z 1 53 50,.x 1 45 47,.Z 1 54 52]<|rt 54 [.M 0,.i .sub 4 3,.M 0,.i .sub 4 4,.M 8,.O (.bin .add (.t 61) (.c (.sc (.int .u32 1)))),.O (.ixs (.c (.sc (.string ⟨#[48,48,48,49,48,50,48,51,48,52,48,53,48,54,48,55,48,56,48,57,49,48,49,49,49,50,49,51,49,52,49,53,49,54,49,55,49,56,49,57,50,48,50,49,50,50,50,51,50,52,50,53,50,54,50,55,50,56,50,57,51,48,51,49,51,50,51,51,51,52,51,53,51,54,51,55,51,56,51,57,52,48,52,49,52,50,52,51,52,52,52,53,52,54,52,55,52,56,52,57,53,48,53,49,53,50,53,51,53,52,53,53,53,54,53,55,53,56,53,57,54,48,54,49,54,50,54,51,54,52,54,53,54,54,54,55,54,56,54,57,55,48,55,49,55,50,55,51,55,52,55,53,55,54,55,55,55,56,55,57,56,48,56,49,56,50,56,51,56,52,56,53,56,54,56,55,56,56,56,57,57,48,57,49,57,50,57,51,57,52,57,53,57,54,57,55,57,56,57,57]⟩))) (.t 62)),.M 8,.O (.ixs (.c (.sc (.string ⟨#[48,48,48,49,48,50,48,51,48,52,48,53,48,54,48,55,48,56,48,57,49,48,49,49,49,50,49,51,49,52,49,53,49,54,49,55,49,56,49,57,50,48,50,49,50,50,50,51,50,52,50,53,50,54,50,55,50,56,50,57,51,48,51,49,51,50,51,51,51,52,51,53,51,54,51,55,51,56,51,57,52,48,52,49,52,50,52,51,52,52,52,53,52,54,52,55,52,56,52,57,53,48,53,49,53,50,53,51,53,52,53,53,53,54,53,55,53,56,53,57,54,48,54,49,54,50,54,51,54,52,54,53,54,54,54,55,54,56,54,57,55,48,55,49,55,50,55,51,55,52,55,53,55,54,55,55,55,56,55,57,56,48,56,49,56,50,56,51,56,52,56,53,56,54,56,55,56,56,56,57,57,48,57,49,57,50,57,51,57,52,57,53,57,54,57,55,57,56,57,57]⟩))) (.t 64)),.x 1 55 57,.Z 1 66 63,.x 1 58 60,.Z 1 67 65]<|rt 67 [.M 0,.i .sub 4 5,.M 0,.i .sub 4 6,.M 11,.O (.bin .add (.t 74) (.c (.sc (.int .u32 1)))),.O (.ixs (.c (.sc (.string ⟨#[48,48,48,49,48,50,48,51,48,52,48,53,48,54,48,55,48,56,48,57,49,48,49,49,49,50,49,51,49,52,49,53,49,54,49,55,49,56,49,57,50,48,50,49,50,50,50,51,50,52,50,53,50,54,50,55,50,56,50,57,51,48,51,49,51,50,51,51,51,52,51,53,51,54,51,55,51,56,51,57,52,48,52,49,52,50,52,51,52,52,52,53,52,54,52,55,52,56,52,57,53,48,53,49,53,50,53,51,53,52,53,53,53,54,53,55,53,56,53,57,54,48,54,49,54,50,54,51,54,52,54,53,54,54,54,55,54,56,54,57,55,48,55,49,55,50,55,51,55,52,55,53,55,54,55,55,55,56,55,57,56,48,56,49,56,50,56,51,56,52,56,53,56,54,56,55,56,56,56,57,57,48,57,49,57,50,57,51,57,52,57,53,57,54,57,55,57,56,57,57]⟩))) (.t 75)),.M 11,.O (.ixs (.c (.sc (.string ⟨#[48,48,48,49,48,50,48,51,48,52,48,53,48,54,48,55,48,56,48,57,49,48,49,49,49,50,49,51,49,52,49,53,49,54,49,55,49,56,49,57,50,48,50,49,50,50,50,51,50,52,50,53,50,54,50,55,50,56,50,57,51,48,51,49,51,50,51,51,51,52,51,53,51,54,51,55,51,56,51,57,52,48,52,49,52,50,52,51,52,52,52,53,52,54,52,55,52,56,52,57,53,48,53,49,53,50,53,51,53,52,53,53,53,54,53,55,53,56,53,57,54,48,54,49,54,50,54,51,54,52,54,53,54,54,54,55,54,56,54,57,55,48,55,49,55,50,55,51,55,52,55,53,55,54,55,55,55,56,55,57,56,48,56,49,56,50,56,51,56,52,56,53,56,54,56,55,56,56,56,57,57,48,57,49,57,50,57,51,57,52,57,53,57,54,57,55,57,56,57,57]⟩))) (.t 77)),.x 1 68 70,.Z 1 79 76,.x 1 71 73,.Z 1 80 78]<|rt 80 [.M 0,.i .sub 4 7,.M 0,.i .sub 4 8,.M 10,.O (.bin .add (.t 87) (.c (.sc (.int .u32 1)))),.O (.ixs (.c (.sc (.string ⟨#[48,48,48,49,48,50,48,51,48,52,48,53,48,54,48,55,48,56,48,57,49,48,49,49,49,50,49,51,49,52,49,53,49,54,49,55,49,56,49,57,50,48,50,49,50,50,50,51,50,52,50,53,50,54,50,55,50,56,50,57,51,48,51,49,51,50,51,51,51,52,51,53,51,54,51,55,51,56,51,57,52,48,52,49,52,50,52,51,52,52,52,53,52,54,52,55,52,56,52,57,53,48,53,49,53,50,53,51,53,52,53,53,53,54,53,55,53,56,53,57,54,48,54,49,54,50,54,51,54,52,54,53,54,54,54,55,54,56,54,57,55,48,55,49,55,50,55,51,55,52,55,53,55,54,55,55,55,56,55,57,56,48,56,49,56,50,56,51,56,52,56,53,56,54,56,55,56,56,56,57,57,48,57,49,57,50,57,51,57,52,57,53,57,54,57,55,57,56,57,57]⟩))) (.t 88)),.M 10,.O (.ixs (.c (.sc (.string ⟨#[48,48,48,49,48,50,48,51,48,52,48,53,48,54,48,55,48,56,48,57,49,48,49,49,49,50,49,51,49,52,49,53,49,54,49,55,49,56,49,57,50,48,50,49,50,50,50,51,50,52,50,53,50,54,50,55,50,56,50,57,51,48,51,49,51,50,51,51,51,52,51,53,51,54,51,55,51,56,51,57,52,48,52,49,52,50,52,51,52,52,52,53,52,54,52,55,52,56,52,57,53,48,53,49,53,50,53,51,53,52,53,53,53,54,53,55,53,56,53,57,54,48,54,49,54,50,54,51,54,52,54,53,54,54,54,55,54,56,54,57,55,48,55,49,55,50,55,51,55,52,55,53,55,54,55,55,55,56,55,57,56,48,56,49,56,50,56,51,56,52,56,53,56,54,56,55,56,56,56,57,57,48,57,49,57,50,57,51,57,52,57,53,57,54,57,55,57,56,57,57]⟩))) (.t 90)),.x 1 81 83,.Z 1 92 89,.x 1 84 86,.Z 1 93 91]<|ry 93 [.i .sub 4 8,.s 4]
def ZvO:Zar:=rs 16 [.R 0,.s 4]<|.seq c97_1<|rs 95 [.M 1,.O (.cnv .u32 (.t 96)),.s 12]<|ri 97 [.i .geq 4 4] 99 (rs 99 [.M 12,.O (.bin .rem (.t 100) (.c (.sc (.int .u32 10000)))),.s 13]<|rs 101 [.M 12,.O (.bin .quo (.t 102) (.c (.sc (.int .u32 10000)))),.s 12]<|rs 103 [.M 13,.O (.bin .quo (.t 104) (.c (.sc (.int .u32 100)))),.O (.bin .mul (.t 105) (.c (.sc (.int .u32 2)))),.M 13,.O (.bin .rem (.t 107) (.c (.sc (.int .u32 100)))),.O (.bin .mul (.t 108) (.c (.sc (.int .u32 2)))),.m 14 106,.s 15]<|rt 109 [.M 0,.i .sub 4 1,.M 0,.i .sub 4 2,.M 15,.O (.bin .add (.t 116) (.c (.sc (.int .u32 1)))),.O (.ixs (.c (.sc (.string ⟨#[48,48,48,49,48,50,48,51,48,52,48,53,48,54,48,55,48,56,48,57,49,48,49,49,49,50,49,51,49,52,49,53,49,54,49,55,49,56,49,57,50,48,50,49,50,50,50,51,50,52,50,53,50,54,50,55,50,56,50,57,51,48,51,49,51,50,51,51,51,52,51,53,51,54,51,55,51,56,51,57,52,48,52,49,52,50,52,51,52,52,52,53,52,54,52,55,52,56,52,57,53,48,53,49,53,50,53,51,53,52,53,53,53,54,53,55,53,56,53,57,54,48,54,49,54,50,54,51,54,52,54,53,54,54,54,55,54,56,54,57,55,48,55,49,55,50,55,51,55,52,55,53,55,54,55,55,55,56,55,57,56,48,56,49,56,50,56,51,56,52,56,53,56,54,56,55,56,56,56,57,57,48,57,49,57,50,57,51,57,52,57,53,57,54,57,55,57,56,57,57]⟩))) (.t 117)),.M 15,.O (.ixs (.c (.sc (.string ⟨#[48,48,48,49,48,50,48,51,48,52,48,53,48,54,48,55,48,56,48,57,49,48,49,49,49,50,49,51,49,52,49,53,49,54,49,55,49,56,49,57,50,48,50,49,50,50,50,51,50,52,50,53,50,54,50,55,50,56,50,57,51,48,51,49,51,50,51,51,51,52,51,53,51,54,51,55,51,56,51,57,52,48,52,49,52,50,52,51,52,52,52,53,52,54,52,55,52,56,52,57,53,48,53,49,53,50,53,51,53,52,53,53,53,54,53,55,53,56,53,57,54,48,54,49,54,50,54,51,54,52,54,53,54,54,54,55,54,56,54,57,55,48,55,49,55,50,55,51,55,52,55,53,55,54,55,55,55,56,55,57,56,48,56,49,56,50,56,51,56,52,56,53,56,54,56,55,56,56,56,57,57,48,57,49,57,50,57,51,57,52,57,53,57,54,57,55,57,56,57,57]⟩))) (.t 119)),.x 1 110 112,.Z 1 121 118,.x 1 113 115,.Z 1 122 120]<|rt 122 [.M 0,.i .sub 4 3,.M 0,.i .sub 4 4,.M 14,.O (.bin .add (.t 129) (.c (.sc (.int .u32 1)))),.O (.ixs (.c (.sc (.string ⟨#[48,48,48,49,48,50,48,51,48,52,48,53,48,54,48,55,48,56,48,57,49,48,49,49,49,50,49,51,49,52,49,53,49,54,49,55,49,56,49,57,50,48,50,49,50,50,50,51,50,52,50,53,50,54,50,55,50,56,50,57,51,48,51,49,51,50,51,51,51,52,51,53,51,54,51,55,51,56,51,57,52,48,52,49,52,50,52,51,52,52,52,53,52,54,52,55,52,56,52,57,53,48,53,49,53,50,53,51,53,52,53,53,53,54,53,55,53,56,53,57,54,48,54,49,54,50,54,51,54,52,54,53,54,54,54,55,54,56,54,57,55,48,55,49,55,50,55,51,55,52,55,53,55,54,55,55,55,56,55,57,56,48,56,49,56,50,56,51,56,52,56,53,56,54,56,55,56,56,56,57,57,48,57,49,57,50,57,51,57,52,57,53,57,54,57,55,57,56,57,57]⟩))) (.t 130)),.M 14,.O (.ixs (.c (.sc (.string ⟨#[48,48,48,49,48,50,48,51,48,52,48,53,48,54,48,55,48,56,48,57,49,48,49,49,49,50,49,51,49,52,49,53,49,54,49,55,49,56,49,57,50,48,50,49,50,50,50,51,50,52,50,53,50,54,50,55,50,56,50,57,51,48,51,49,51,50,51,51,51,52,51,53,51,54,51,55,51,56,51,57,52,48,52,49,52,50,52,51,52,52,52,53,52,54,52,55,52,56,52,57,53,48,53,49,53,50,53,51,53,52,53,53,53,54,53,55,53,56,53,57,54,48,54,49,54,50,54,51,54,52,54,53,54,54,54,55,54,56,54,57,55,48,55,49,55,50,55,51,55,52,55,53,55,54,55,55,55,56,55,57,56,48,56,49,56,50,56,51,56,52,56,53,56,54,56,55,56,56,56,57,57,48,57,49,57,50,57,51,57,52,57,53,57,54,57,55,57,56,57,57]⟩))) (.t 132)),.x 1 123 125,.Z 1 134 131,.x 1 126 128,.Z 1 135 133]<|ry 135 [.i .sub 4 4,.s 4])<|ri 137 [.i .geq 4 2] 139 (rs 139 [.M 12,.O (.bin .rem (.t 140) (.c (.sc (.int .u32 100)))),.O (.bin .mul (.t 141) (.c (.sc (.int .u32 2)))),.s 16]<|rs 142 [.M 12,.O (.bin .quo (.t 143) (.c (.sc (.int .u32 100)))),.s 12]<|rt 144 [.M 0,.i .sub 4 1,.M 0,.i .sub 4 2,.M 16,.O (.bin .add (.t 151) (.c (.sc (.int .u32 1)))),.O (.ixs (.c (.sc (.string ⟨#[48,48,48,49,48,50,48,51,48,52,48,53,48,54,48,55,48,56,48,57,49,48,49,49,49,50,49,51,49,52,49,53,49,54,49,55,49,56,49,57,50,48,50,49,50,50,50,51,50,52,50,53,50,54,50,55,50,56,50,57,51,48,51,49,51,50,51,51,51,52,51,53,51,54,51,55,51,56,51,57,52,48,52,49,52,50,52,51,52,52,52,53,52,54,52,55,52,56,52,57,53,48,53,49,53,50,53,51,53,52,53,53,53,54,53,55,53,56,53,57,54,48,54,49,54,50,54,51,54,52,54,53,54,54,54,55,54,56,54,57,55,48,55,49,55,50,55,51,55,52,55,53,55,54,55,55,55,56,55,57,56,48,56,49,56,50,56,51,56,52,56,53,56,54,56,55,56,56,56,57,57,48,57,49,57,50,57,51,57,52,57,53,57,54,57,55,57,56,57,57]⟩))) (.t 152)),.M 16,.O (.ixs (.c (.sc (.string ⟨#[48,48,48,49,48,50,48,51,48,52,48,53,48,54,48,55,48,56,48,57,49,48,49,49,49,50,49,51,49,52,49,53,49,54,49,55,49,56,49,57,50,48,50,49,50,50,50,51,50,52,50,53,50,54,50,55,50,56,50,57,51,48,51,49,51,50,51,51,51,52,51,53,51,54,51,55,51,56,51,57,52,48,52,49,52,50,52,51,52,52,52,53,52,54,52,55,52,56,52,57,53,48,53,49,53,50,53,51,53,52,53,53,53,54,53,55,53,56,53,57,54,48,54,49,54,50,54,51,54,52,54,53,54,54,54,55,54,56,54,57,55,48,55,49,55,50,55,51,55,52,55,53,55,54,55,55,55,56,55,57,56,48,56,49,56,50,56,51,56,52,56,53,56,54,56,55,56,56,56,57,57,48,57,49,57,50,57,51,57,52,57,53,57,54,57,55,57,56,57,57]⟩))) (.t 154)),.x 1 145 147,.Z 1 156 153,.x 1 148 150,.Z 1 157 155]<|ry 157 [.i .sub 4 2,.s 4])<|rs 159 [.i .gtr 4 0]<|.cond (.t 161) (ry 161 [.M 0,.M 12,.O (.bin .add (.c (.sc (.int .u32 48))) (.t 163)),.O (.cnv .u8 (.t 164)),.O (.ixa 1 (.t 162) (ik 0)),.Z 1 166 165])<|.skip
def cf97:=kf0 97 ZvO [] 167
def c98_1:Zar:=rv 0 43 [.M 1,.M 15,.b .geq 44 45] 46<|.blk 1<|rs 46 [.i .sub 13 1,.s 13]<|rs 48 [.M 13,.M 1,.M 16,.b .and 50 51,.O (.ixs (.c (.sc (.string ⟨#[48,49,50,51,52,53,54,55,56,57,97,98,99,100,101,102,103,104,105,106,107,108,109,110,111,112,113,114,115,116,117,118,119,120,121,122]⟩))) (.t 52)),.O (.ixA 65 1 (.t 12) (.t 49)),.Z 1 54 53]<|ry 54 [.M 1,.M 14,.b .shr 55 56,.s 1]
def c98_2:Zar:=rv 2 65 [.M 1,.M 17,.b .geq 66 67] 68<|.blk 3<|rs 68 [.i .sub 13 1,.s 13]<|rs 70 [.M 1,.M 17,.b .quo 71 72,.s 18]<|rs 73 [.M 13,.M 1,.M 18,.M 17,.b .mul 76 77,.b .sub 75 78,.O (.ixs (.c (.sc (.string ⟨#[48,49,50,51,52,53,54,55,56,57,97,98,99,100,101,102,103,104,105,106,107,108,109,110,111,112,113,114,115,116,117,118,119,120,121,122]⟩))) (.t 79)),.O (.ixA 65 1 (.t 12) (.t 74)),.Z 1 81 80]<|ry 81 [.M 18,.s 1]
def c98_0:Zar:=rs 10 [.D 10,.O (.mv (.c (.sc (.string ⟨#[]⟩))))]<|ri 18 [.i .lss 2 2,.h 20,.i .eql 2 10,.z,.h 24,.i .gtr 2 36,.z] 28 (ry 28 [.O .bad,.w .bad])<|rs 11 [.O (.box 168 (.c za1))]<|rs 12 [.J 65]<|ri 29 [.M 3] 30 (ry 30 [.M 1,.O (.un .neg (.t 31)),.s 1])<|.seq (rs 32 [.M 2,.c 131 [33]]<|.cond (.t 34) (rs 34 [.M 2,.O (.cnv .u64 (.t 35)),.c 132 [36],.O (.cnv .u64 (.t 37)),.s 14]<|rs 38 [.M 2,.O (.cnv .u64 (.t 39)),.s 15]<|rs 40 [.M 2,.O (.cnv .u64 (.t 41)),.O (.bin .sub (.t 42) (.c (.sc (.int .u64 1)))),.s 16]<|.seq c98_1<|rs 57 [.i .sub 13 1,.s 13]<|ry 59 [.M 13,.M 1,.O (.ixs (.c (.sc (.string ⟨#[48,49,50,51,52,53,54,55,56,57,97,98,99,100,101,102,103,104,105,106,107,108,109,110,111,112,113,114,115,116,117,118,119,120,121,122]⟩))) (.t 61)),.O (.ixA 65 1 (.t 12) (.t 60)),.Z 1 63 62])<|rs 63 [.M 2,.O (.cnv .u64 (.t 64)),.s 17]<|.seq c98_2<|rs 82 [.i .sub 13 1,.s 13]<|ry 84 [.M 13,.M 1,.O (.ixs (.c (.sc (.string ⟨#[48,49,50,51,52,53,54,55,56,57,97,98,99,100,101,102,103,104,105,106,107,108,109,110,111,112,113,114,115,116,117,118,119,120,121,122]⟩))) (.t 86)),.O (.ixA 65 1 (.t 12) (.t 85)),.Z 1 88 87])<|ri 88 [.M 3] 89 (rs 89 [.i .sub 13 1,.s 13]<|ry 91 [.M 13,.O (.ixA 65 1 (.t 12) (.t 92)),.w (.st 1 (.t 93) (.c (.sc (.int .u8 45))))])<|ri 93 [.M 4] 94 (rr 94 [.M 0,.M 13,.O (.sla 65 1 (.t 12) (some (.t 96)) none none),.a 5 1 1 95 97,.s 10])<|rr 98 [.M 13,.O (.sla 65 1 (.t 12) (some (.t 99)) none none),.O (.sob (.t 100)),.s 11]
def cf98:=kf0 98 c98_0 [.tmp 10,.tmp 11] 102
def c100_1:Zar:=.blk 0<|.loop<|rs 4 [.O (.nxt true (.t 4)),.e 5 0]<|.seq (.cond (.t 6) .skip<|.exit 0)<|.blk 1<|ry 6 [.i .add 2 1,.s 2]
def Zck:Zar:=rs 1 [.J 0]<|.seq (rs 2 [.M 0,.O .bad]<|c100_1)<|rr 8 [.M 2,.s 2]
def ZkE:=kf0 100 Zck [.tmp 2] 10
def ZmV:Zar:=rs 1 [.O (.mv (.c (.sc (.int .i32 0)))),.J 0]<|.seq (rs 3 [.M 0,.O (.bin .neq (.t 4) (.c (.sc (.string ⟨#[]⟩)))),.y 5,.M 0,.O (.ixs (.t 7) (ik 0)),.O (.bin .lss (.t 8) (.c (.sc (.int .u8 128)))),.z]<|.cond (.t 10) (rr 10 [.M 0,.O (.ixs (.t 11) (ik 0)),.O (.cnv .i32 (.t 12)),.s 2,.j 3 1])<|ry 14 [.M 0,.c 134 [15],.s 14,.e 14 0,.e 14 1,.m 2 17,.s 3])<|.ret
def cf101:=kf0 101 ZmV [.tmp 2,.tmp 3] 19
def Zt4:Zar:=rs 5 [.J 0,.O (.mv (.c (.sc .nilIface)))]<|ri 11 [.M 0,.O (.bin .eql (.t 12) (.c (.sc (.string ⟨#[]⟩))))] 13 (rr 13 [.O .bad,.j 6 0,.s 7])<|rs 0 [.K 8]<|.seq (rs 14 [.M 0,.O (.ixs (.t 15) (ik 0))]<|.blk 0<|rs 17 [.O (.bin .eql (.t 16) (.c (.sc (.int .u8 43)))),.s 17]<|.cond (.t 17) (ry 18 [.M 0,.O (.slS (.t 19) (some (ik 1)) none),.s 0])<|rs 21 [.O (.bin .eql (.t 16) (.c (.sc (.int .u8 45)))),.s 21]<|.cond (.t 21) (rs 22 [.M 0,.O (.slS (.t 23) (some (ik 1)) none),.s 0]<|ry 0 [.T 8])<|.skip)<|rs 8 [.O (.mv (.c (.sc (.int .u64 0))))]<|rs 25 [.M 0,.M 1,.M 2,.c 138 [26,27,28],.s 25,.e 25 0,.e 25 1,.m 9 30,.s 7]<|ri 31 [.M 7,.O (.eqn 3 true (.t 32) (.c (.sc .nilIface))),.y 33,.M 7,.O .bad,.O .bad,.z] 38 (rr 38 [.M 7,.j 6 0,.s 7])<|ri 39 [.i .eql 2 0] 41 (ry 1 [.J 64])<|rs 41 [.i .sub 2 1,.O (.cnv .u64 (.t 43)),.O (.bin .shl (.c (.sc (.int .u64 1))) (.t 44)),.s 10]<|ri 45 [.M 8,.u 46,.y 47,.M 9,.M 10,.b .geq 49 50,.z] 52 (rr 52 [.M 10,.O (.bin .sub (.t 53) (.c (.sc (.int .u64 1)))),.O (.cnv .i64 (.t 54)),.O .bad,.m 6 55,.s 7])<|ri 56 [.M 8,.y 57,.M 9,.M 10,.b .gtr 59 60,.z] 62 (rr 62 [.M 10,.O (.cnv .i64 (.t 63)),.O (.un .neg (.t 64)),.O .bad,.m 6 65,.s 7])<|rs 66 [.M 9,.O (.cnv .i64 (.t 67)),.s 11]<|ri 68 [.M 8] 69 (ry 69 [.M 11,.O (.un .neg (.t 70)),.s 11])<|rr 71 [.M 11,.s 6,.o 7 (.mv (.c (.sc .nilIface)))]
def cf104:=kf0 104 Zt4 [.tmp 6,.tmp 7] 73
def ZtP:Zar:=rs 9 [.O (.mv (.c (.sc .nilIface)))]<|.seq (rs 10 [.M 4]<|.blk 0<|rs 12 [.O .bad,.O .bad,.s 12]<|.cond (.t 12) (rr 14 [.M 0,.M 1,.c 139 [15,16],.O .bad,.s 10])<|rs 19 [.O .bad,.O .bad,.s 19]<|.cond (.t 19) (rr 21 [.M 0,.M 1,.c 140 [22,23],.O .bad,.s 10])<|rs 26 [.O .bad,.O .bad,.s 26]<|.cond (.t 26) (rr 28 [.M 0,.M 1,.M 2,.c 141 [29,30,31],.O .bad,.s 10])<|rs 34 [.O .bad,.O .bad,.s 34]<|.cond (.t 34) (rr 36 [.M 0,.M 1,.M 3,.c 142 [37,38,39],.O .bad,.s 10])<|.skip)<|rr 41 [.M 4,.s 10]
def cf105:=kf0 105 ZtP [.tmp 10] 43
def Zic:Zar:=rs 0 [.D 6]<|rs 9 [.M 0,.M 1,.O (.slc 3 (.t 10) (some (.t 11)) none none)]<|rs 12 [.R 2,.s 7]<|ri 14 [.i .eql 7 0] 16 (rr 16 [.M 0,.s 6])<|rs 17 [.R 0,.s 8]<|ri 19 [.M 1,.M 8,.b .eql 20 21] 22 (rr 22 [.M 0,.M 2,.a 102 3 64 23 24,.s 6])<|ri 25 [.M 8,.M 7,.b .add 26 27,.M 0,.O (.cap (.t 29)),.b .gtr 28 30] 31 (rs 31 [.M 0,.M 1,.O (.slc 3 (.t 32) none (some (.t 33)) none),.M 8,.M 7,.b .add 35 36,.M 1,.b .sub 37 38,.O .bad,.s 9]<|rs 40 [.M 9,.M 1,.O (.slc 3 (.t 41) (some (.t 42)) none none),.M 2,.O (.cpy 3 (.t 43) (.t 44))]<|rt 45 [.M 9,.M 1,.M 7,.b .add 47 48,.O (.slc 3 (.t 46) (some (.t 49)) none none),.M 0,.M 1,.O (.slc 3 (.t 51) (some (.t 52)) none none),.O (.cpy 3 (.t 50) (.t 53))]<|rr 54 [.M 9,.s 6])<|rs 55 [.M 0,.M 8,.M 7,.b .add 57 58,.O (.slc 3 (.t 56) none (some (.t 59)) none),.s 0]<|ri 60 [.M 2,.M 0,.M 1,.M 7,.b .add 63 64,.O (.slc 3 (.t 62) (some (.t 65)) none none),.O (.ovl (.t 61) (.t 66)),.u 67] 68 (rt 68 [.M 0,.M 1,.M 7,.b .add 70 71,.O (.slc 3 (.t 69) (some (.t 72)) none none),.M 0,.M 1,.O (.slc 3 (.t 74) (some (.t 75)) none none),.O (.cpy 3 (.t 73) (.t 76))]<|rs 77 [.M 0,.M 1,.O (.slc 3 (.t 78) (some (.t 79)) none none),.M 2,.O (.cpy 3 (.t 80) (.t 81))]<|rr 82 [.M 0,.s 6])<|rs 83 [.M 0,.M 8,.O (.slc 3 (.t 84) (some (.t 85)) none none),.M 2,.O (.cpy 3 (.t 86) (.t 87))]<|rs 88 [.M 0,.M 1,.O (.slc 3 (.t 89) (some (.t 90)) none none),.M 7,.c 144 [91,92]]<|rr 93 [.M 0,.s 6]
def cf106:=kf0 106 Zic [.tmp 6] 95
def Zcf:Zar:=rs 0 [.K 6]<|rs 13 [.M 1,.C 73 [.t 14,.c (.sc (.string ⟨#[62]⟩))],.s 13,.e 13 0,.e 13 1,.e 13 2,.m 7 16,.m 8 17,.s 9]<|rs 19 [.M 7,.c 8 [20],.s 19,.e 19 0,.e 19 1,.m 10 22,.s 11]<|ri 23 [.M 11,.u 24] 25 (rr 0 [.K 6])<|rs 25 [.M 0,.M 0,.k 27,.F 1 28,.M 10,.A 9 1 16 30 31,.k 26,.f 1 34,.Z 1 35 33]<|ri 35 [.M 9,.u 36] 37 (rr 0 [.T 6])<|rs 38 [.M 8,.c 8 [39],.s 38,.e 38 0,.e 38 1,.m 12 41,.s 11]<|.seq (.drw [ip (im 43 0),ip (im 44 0),ip (io 45 (.nck (.t 44))),ip (io 46 (.fla 2 (.t 45))),ip (io 47 (.ld 1 false (.t 46))),ip (im 48 2),ip (im 49 12),(io 50 (.call (jf 145) [.t 48,.t 49]),[io 47 (.ld 1 false (.t 46))]),ip (io 51 (.bsl 1 [.t 50])),ip (io 52 (.app 3 1 8 (.t 47) (.t 51))),ip (io 53 (.nck (.t 43))),ip (io 54 (.fla 2 (.t 53))),ip (iz (.st 1 (.t 54) (.t 52)))])<|rr 54 [.M 11,.y 55,.M 2,.M 12,.c 146 [57,58],.z,.s 6]
def cf107:=kf0 107 Zcf [.tmp 6] 61
def c108_1:Zar:=rl 0 21 22 (.t 20) 35<|.blk 1<|rs 22 [.X 2 19 21,.o 5 (.box 100 (.c (.agg [.sc (.string ⟨#[]⟩),.sl .full []]))),.Z 2 5 24]<|.seq (rs 24 [.L 2 5,.c 147 [25],.s 6]<|rs 26 [.i .neq 6 0]<|.cond (.t 28) (rr 28 [.M 6,.s 2])<|.skip)<|rs 29 [.M 3,.F 0 5,.c 148 [30,32],.u 33]<|.cond (.t 34) (rr 1 [.J 11])<|.skip
def Zeq:Zar:=rs 1 [.v 1 76 0,.J 0]<|ri 6 [.N 0 1,.B .lss 9 1,.h 10,.N 0 1,.B .gtr 14 16,.z] 16 (rr 1 [.J 5])<|rs 16 [.O (.mkm (.one .str)),.s 3]<|.seq (rs 17 [.N 0 1,.J 0]<|c108_1)<|rr 35 [.F 1 1,.c 149 [37],.s 2]
def cf108:=kf0 108 Zeq [.tmp 2] 39
def c109_1:Zar:=rv 0 25 [.i .geq 6 0] 27<|.seq (.blk 1<|.seq (.drw [ip (io 31 (.fla 1 (.t 1))),ip (io 32 (.ld 1 false (.t 31))),ip (im 33 6),ip (io 34 (.ixa 3 (.t 32) (.t 33))),ip (io 35 (.ld 3 true (.t 34))),ip (io 36 (.ld 2 true (.t 1))),ip (im 37 6),(io 38 (.call (jf 151) [.t 36,.t 37]),[io 32 (.ld 1 false (.t 31)),io 35 (.ld 3 true (.t 34))]),ip (io 39 (.call (jf 150) [.t 35,.t 38])),ip (im 30 39),ip (io 40 (.ext (.t 30) 0)),ip (io 41 (.ext (.t 30) 1)),ip (im 7 40),ip (im 8 41)])<|ry 41 [.M 5,.M 7,.b .add 42 43,.s 5])<|ry 27 [.i .sub 6 1,.s 6]
def ZfJ:Zar:=rs 1 [.v 1 100 0,.O (.mv (.c (.sc (.string ⟨#[]⟩)))),.J 0]<|.seq (rs 8 [.L 2 1,.c 147 [9],.s 4]<|rs 10 [.i .neq 4 0]<|.cond (.t 12) (rr 12 [.M 4,.o 2 (.mv (.c (.sc (.string ⟨#[]⟩)))),.s 3])<|.skip)<|.seq (.drw [ip (io 14 (.fla 0 (.t 1))),ip (io 15 (.ld 1 false (.t 14))),ip (io 17 (.fla 1 (.t 1))),ip (io 18 (.ld 1 false (.t 17))),ip (io 19 (.len false (.t 18))),(io 16 (.call (jf 75) [.t 15]),[io 18 (.ld 1 false (.t 17))]),ip (io 20 (.call (jf 72) [.t 19])),ip (io 21 (.bin .add (.t 16) (.t 20))),ip (im 5 21)])<|.seq (rs 21 [.N 1 1,.B .sub 24 1,.s 6]<|c109_1)<|rr 44 [.M 5,.s 2,.j 3 0]
def cf109:=kf0 109 ZfJ [.tmp 2,.tmp 3] 46
def c110_2:Zar:=rl 2 28 29 (.t 27) 45<|.blk 3<|rs 29 [.X 3 26 28,.o 10 (.box 102 (.c (.agg [.sc (.string ⟨#[]⟩),.sl .full [],.sl .full []]))),.Z 3 10 31]<|rd 31 [.M 8,.F 1 10,.F 2 2,.M 6,.Y 1 36 37,.Y 1 34 39,.c 7 [41],.O (.bin .add (.c (.sc (.string ⟨#[62]⟩))) (.t 42)),.b .add 32 43,.s 8]
def c110_1:Zar:=rl 0 18 19 (.t 17) 50<|.blk 1<|rs 19 [.M 18,.Y 1 16 18,.m 6 20,.s 7]<|rs 22 [.M 7,.c 7 [23],.O (.bin .add (.c (.sc (.string ⟨#[46]⟩))) (.t 24)),.s 8]<|.seq (rs 25 [.R 1,.J 0]<|c110_2)<|ry 45 [.M 5,.M 8,.A 9 1 16 46 47,.s 5]
def Zpi:Zar:=rs 0 [.v 2 102 0,.D 4]<|rs 10 [.F 0 2,.O (.bin .add (.c (.sc (.string ⟨#[94]⟩))) (.t 12)),.S 1 13,.s 5]<|.seq (rs 14 [.N 1 2,.J 0]<|c110_1)<|rr 50 [.M 5,.s 4]
def cf110:=kf0 110 Zpi [.tmp 4] 52
def c111_1:Zar:=rv 0 9 [.i .geq 5 0] 11<|.seq (.blk 1<|rs 13 [.M 5,.M 0,.O (.cnv .u8 (.t 15)),.O (.ixA 9 1 (.t 4) (.t 14)),.Z 1 17 16]<|ry 17 [.M 0,.O (.bin .shr (.t 18) (.c (.sc (.int .u64 8)))),.s 0])<|ry 11 [.i .sub 5 1,.s 5]
def Zfr:Zar:=rs 1 [.O (.mv (.c (.sc (.string ⟨#[]⟩))))]<|rs 5 [.M 0,.c 152 [6],.s 3]<|rs 3 [.O (.box 185 (.c za2))]<|.seq (rs 7 [.i .sub 3 1,.s 5]<|c111_1)<|.seq (rs 19 [.i .lss 3 9]<|.cond (.t 21) (.drw [ip (io 22 (.ixA 9 1 (.t 4) (ik 0))),ip (io 23 (.ld 1 false (.t 22))),ip (im 24 3),(io 25 (.call (jf 153) [.t 24]),[io 23 (.ld 1 false (.t 22))]),ip (io 26 (.bin .or (.t 23) (.t 25))),ip (io 27 (.ixA 9 1 (.t 4) (ik 0))),ip (iz (.st 1 (.t 27) (.t 26)))])<|ry 27 [.M 3,.c 153 [28],.O (.ixA 9 1 (.t 4) (ik 0)),.Z 1 30 29])<|rr 30 [.M 3,.O (.sla 9 1 (.t 4) none (some (.t 31)) none),.O (.sob (.t 32)),.s 2]
def cf111:=kf0 111 Zfr [.tmp 2] 34
def Zpf:Zar:=rs 0 [.o 4 (.mv (.c (.sc (.string ⟨#[]⟩)))),.o 5 (.mv (.c (.sc (.string ⟨#[]⟩)))),.K 6]<|.seq (rs 7 [.M 0,.M 1,.c 103 [8,9],.s 7]<|rs 10 [.i .geq 7 0]<|.cond (.t 12) (rt 12 [.M 0,.M 7,.O (.slS (.t 13) none (some (.t 14))),.M 0,.M 7,.M 1,.O (.len true (.t 18)),.b .add 17 19,.O (.slS (.t 16) (some (.t 20)) none),.m 4 15,.s 5,.T 6]<|.ret)<|.skip)<|rr 21 [.M 0,.s 4,.o 5 (.mv (.c (.sc (.string ⟨#[]⟩)))),.K 6]
def cf112:=kf0 112 Zpf [.tmp 4,.tmp 5,.tmp 6] 23
def ZpX:Zar:=rs 5 [.v 3 9 0,.v 4 9 1,.v 5 3 2,.O (.mv (.c (.sc .nilFunc)))]<|rr 6 [.O (.mkf 154 [] [.t 4,.t 3,.t 5]),.s 6]
def cf113:=kf0 113 ZpX [.tmp 6] 8
def ZpQ:Zar:=rs 1 [.O (.mv (.c (.sc (.string ⟨#[]⟩))))]<|rr 2 [.M 0,.c 155 [3],.c 111 [4],.s 2]
def cf114:=kf0 114 ZpQ [.tmp 2] 6
def c115_1:Zar:=rl 0 20 21 (.t 19) 37<|.blk 1<|rs 21 [.Y 1 18 20,.s 8]<|rs 23 [.M 6,.M 8,.c 157 [24,25],.s 9]<|rt 29 [.m 27 5,.m 28 9,.M 8,.M 9,.O (.slS (.t 30) (some (.t 31)) none),.o 29 (.call (jf 72) [.t 28]),.c 75 [32],.b .add 29 33,.b .add 27 34,.s 5]<|ry 35 [.M 8,.s 6]
def Zno:Zar:=rs 1 [.O (.mv (.c (.sc (.string ⟨#[]⟩)))),.J 0]<|.seq (rs 9 [.M 0,.c 156 [10],.s 4]<|rs 11 [.i .neq 4 0]<|.cond (.t 13) (rr 13 [.M 4,.o 2 (.mv (.c (.sc (.string ⟨#[]⟩)))),.s 3])<|.skip)<|rs 14 [.R 0,.c 72 [16],.s 5,.o 6 (.mv (.c (.sc (.string ⟨#[]⟩))))]<|.seq (rs 17 [.R 0,.J 0]<|c115_1)<|rr 37 [.M 5,.s 2,.j 3 0]
def cf115:=kf0 115 Zno [.tmp 2,.tmp 3] 39
def ZrW:Zar:=rs 1 [.J 0]<|rr 2 [.i .mul 0 78913,.O (.bin .shr (.t 4) (.c (.sc (.int .u64 18)))),.s 2]
def cf128:=kf0 128 ZrW [.tmp 2] 6
def ZHf:Zar:=rs 1 [.J 0]<|ri 2 [.M 0,.O (.bin .geq (.t 3) (.c (.sc (.int .u64 4294967296))))] 4 (rs 4 [.M 0,.O (.bin .shr (.t 5) (.c (.sc (.int .u64 32)))),.s 0]<|ry 1 [.J 32])<|ri 6 [.M 0,.O (.bin .geq (.t 7) (.c (.sc (.int .u64 65536))))] 8 (rs 8 [.M 0,.O (.bin .shr (.t 9) (.c (.sc (.int .u64 16)))),.s 0]<|ry 10 [.i .add 2 16,.s 2])<|ri 12 [.M 0,.O (.bin .geq (.t 13) (.c (.sc (.int .u64 256))))] 14 (rs 14 [.M 0,.O (.bin .shr (.t 15) (.c (.sc (.int .u64 8)))),.s 0]<|ry 16 [.i .add 2 8,.s 2])<|rr 18 [.M 2,.M 0,.O (.cnv .u8 (.t 20)),.O (.ixs (.c (.sc (.string ⟨#[0,1,2,2,3,3,3,3,4,4,4,4,4,4,4,4,5,5,5,5,5,5,5,5,5,5,5,5,5,5,5,5,6,6,6,6,6,6,6,6,6,6,6,6,6,6,6,6,6,6,6,6,6,6,6,6,6,6,6,6,6,6,6,6,7,7,7,7,7,7,7,7,7,7,7,7,7,7,7,7,7,7,7,7,7,7,7,7,7,7,7,7,7,7,7,7,7,7,7,7,7,7,7,7,7,7,7,7,7,7,7,7,7,7,7,7,7,7,7,7,7,7,7,7,7,7,7,7,8,8,8,8,8,8,8,8,8,8,8,8,8,8,8,8,8,8,8,8,8,8,8,8,8,8,8,8,8,8,8,8,8,8,8,8,8,8,8,8,8,8,8,8,8,8,8,8,8,8,8,8,8,8,8,8,8,8,8,8,8,8,8,8,8,8,8,8,8,8,8,8,8,8,8,8,8,8,8,8,8,8,8,8,8,8,8,8,8,8,8,8,8,8,8,8,8,8,8,8,8,8,8,8,8,8,8,8,8,8,8,8,8,8,8,8,8,8,8,8,8,8,8,8,8,8,8,8]⟩))) (.t 21)),.O (.cnv .i64 (.t 22)),.b .add 19 23,.s 2]
def cf129:=kf0 129 ZHf [.tmp 2] 25
def Zgs:Zar:=rs 1 [.J 0]<|ri 0 [.s 3] 3 (rr 1 [.J 1])<|rr 1 [.J 0]
def cf130:=kf0 130 Zgs [.tmp 2] 4
def Zds:Zar:=rs 0 [.K 2]<|rr 2 [.M 0,.i .sub 0 1,.b .and 3 5,.B .eql 6 0,.s 2]
def cf131:=kf0 131 Zds [.tmp 2] 8
def ZmU:Zar:=rs 1 [.J 0]<|.seq (.cond (ib false) (rr 2 [.M 0,.O (.cnv .u32 (.t 3)),.c 162 [4],.s 2])<|.skip)<|rr 5 [.M 0,.c 163 [6],.s 2]
def cf132:=kf0 132 ZmU [.tmp 2] 8
def Zed:Zar:=rs 1 [.O (.mv (.c (.sc (.int .i32 0)))),.J 0]<|rs 12 [.M 0,.O (.len true (.t 13)),.s 4]<|ri 14 [.i .lss 4 1] 16 (rr 1 [.O (.mv (.c (.sc (.int .i32 65533)))),.J 0])<|rs 16 [.M 0,.O (.ixs (.t 17) (ik 0)),.s 5]<|rs 18 [.M 5,.O (.ixA 256 1 (.c (.sc (.pointer (some ⟨2,0,none⟩)))) (.t 19)),.l 1 20,.s 6]<|ri 21 [.M 6,.O (.bin .geq (.t 22) (.c (.sc (.int .u8 240))))] 23 (rs 23 [.M 6,.O (.cnv .i32 (.t 24)),.O (.bin .shl (.t 25) (.c (.sc (.int .u64 31)))),.O (.bin .shr (.t 26) (.c (.sc (.int .u64 31)))),.s 7]<|rr 27 [.M 0,.O (.ixs (.t 28) (ik 0)),.O (.cnv .i32 (.t 29)),.M 7,.b .andNot 30 31,.M 7,.O (.bin .and (.c (.sc (.int .i32 65533))) (.t 33)),.b .or 32 34,.s 2,.j 3 1])<|rs 35 [.M 6,.O (.bin .and (.t 36) (.c (.sc (.int .u8 7)))),.O (.cnv .i64 (.t 37)),.s 8]<|rs 38 [.M 6,.O (.bin .shr (.t 39) (.c (.sc (.int .u64 4)))),.O (.ixA 16 2 (.c (.sc (.pointer (some ⟨3,0,none⟩)))) (.t 40)),.L 2 41,.o 9 (.box 196 (.c (.agg [.sc (.int .u8 0),.sc (.int .u8 0)]))),.Z 2 9 42]<|ri 42 [.M 4,.M 8,.b .lss 43 44] 45 (rr 1 [.O (.mv (.c (.sc (.int .i32 65533)))),.J 1])<|rs 45 [.M 0,.O (.ixs (.t 46) (ik 1)),.s 10]<|ri 47 [.M 10,.F 0 9,.b .lss 48 50,.h 51,.F 1 9,.M 10,.b .lss 54 55,.z] 57 (rr 1 [.O (.mv (.c (.sc (.int .i32 65533)))),.J 1])<|ri 57 [.i .leq 8 2] 59 (rr 59 [.M 5,.O (.bin .and (.t 60) (.c (.sc (.int .u8 31)))),.O (.cnv .i32 (.t 61)),.O (.bin .shl (.t 62) (.c (.sc (.int .u64 6)))),.M 10,.O (.bin .and (.t 64) (.c (.sc (.int .u8 63)))),.O (.cnv .i32 (.t 65)),.b .or 63 66,.s 2,.j 3 2])<|rs 67 [.M 0,.O (.ixs (.t 68) (ik 2)),.s 11]<|ri 69 [.M 11,.O (.bin .lss (.t 70) (.c (.sc (.int .u8 128)))),.h 71,.M 11,.O (.bin .lss (.c (.sc (.int .u8 191))) (.t 73)),.z] 75 (rr 1 [.O (.mv (.c (.sc (.int .i32 65533)))),.J 1])<|ri 75 [.i .leq 8 3] 77 (rr 77 [.M 5,.O (.bin .and (.t 78) (.c (.sc (.int .u8 15)))),.O (.cnv .i32 (.t 79)),.O (.bin .shl (.t 80) (.c (.sc (.int .u64 12)))),.M 10,.O (.bin .and (.t 82) (.c (.sc (.int .u8 63)))),.O (.cnv .i32 (.t 83)),.O (.bin .shl (.t 84) (.c (.sc (.int .u64 6)))),.b .or 81 85,.M 11,.O (.bin .and (.t 87) (.c (.sc (.int .u8 63)))),.O (.cnv .i32 (.t 88)),.b .or 86 89,.s 2,.j 3 3])<|rs 90 [.M 0,.O (.ixs (.t 91) (ik 3)),.s 12]<|ri 92 [.M 12,.O (.bin .lss (.t 93) (.c (.sc (.int .u8 128)))),.h 94,.M 12,.O (.bin .lss (.c (.sc (.int .u8 191))) (.t 96)),.z] 98 (rr 1 [.O (.mv (.c (.sc (.int .i32 65533)))),.J 1])<|rr 98 [.M 5,.O (.bin .and (.t 99) (.c (.sc (.int .u8 7)))),.O (.cnv .i32 (.t 100)),.O (.bin .shl (.t 101) (.c (.sc (.int .u64 18)))),.M 10,.O (.bin .and (.t 103) (.c (.sc (.int .u8 63)))),.O (.cnv .i32 (.t 104)),.O (.bin .shl (.t 105) (.c (.sc (.int .u64 12)))),.b .or 102 106,.M 11,.O (.bin .and (.t 108) (.c (.sc (.int .u8 63)))),.O (.cnv .i32 (.t 109)),.O (.bin .shl (.t 110) (.c (.sc (.int .u64 6)))),.b .or 107 111,.M 12,.O (.bin .and (.t 113) (.c (.sc (.int .u8 63)))),.O (.cnv .i32 (.t 114)),.b .or 112 115,.s 2,.j 3 4]
def cf134:=kf0 134 Zed [.tmp 2,.tmp 3] 117
def c138_1:Zar:=rl 3 101 102 (.t 100) 163<|.blk 4<|rs 102 [.Y 1 99 101,.s 15]<|rs 15 [.O (.mv (.c (.sc (.int .u8 0))))]<|.seq (.blk 5<|rs 106 [.M 15,.O (.bin .eql (.t 107) (.c (.sc (.int .u8 95)))),.y 108,.M 8,.z,.s 106]<|.cond (.t 106) (rs 0 [.T 12]<|.exit 4)<|rs 112 [.M 15,.O (.bin .leq (.c (.sc (.int .u8 48))) (.t 113)),.y 114,.M 15,.O (.bin .leq (.t 116) (.c (.sc (.int .u8 57)))),.z,.s 112]<|.cond (.t 112) (ry 118 [.M 15,.O (.bin .sub (.t 119) (.c (.sc (.int .u8 48)))),.s 16])<|rs 121 [.M 15,.c 165 [122],.O (.bin .leq (.c (.sc (.int .u8 97))) (.t 123)),.y 124,.M 15,.c 165 [126],.O (.bin .leq (.t 127) (.c (.sc (.int .u8 122)))),.z,.s 121]<|.cond (.t 121) (ry 129 [.M 15,.c 165 [130],.O (.bin .sub (.t 131) (.c (.sc (.int .u8 97)))),.O (.bin .add (.t 132) (.c (.sc (.int .u8 10)))),.s 16])<|rr 104 [.O .bad,.o 6 (.mv (.c (.sc (.int .u64 0)))),.s 7])<|ri 133 [.M 16,.M 1,.O (.cnv .u8 (.t 135)),.b .geq 134 136] 137 (rr 137 [.O .bad,.o 6 (.mv (.c (.sc (.int .u64 0)))),.s 7])<|ri 138 [.M 13,.M 10,.b .geq 139 140] 141 (rr 141 [.M 11,.O .bad,.m 6 142,.s 7])<|rs 143 [.M 13,.M 1,.O (.cnv .u64 (.t 145)),.b .mul 144 146,.s 13]<|rs 147 [.M 13,.M 16,.O (.cnv .u64 (.t 149)),.b .add 148 150,.s 17]<|ri 151 [.M 17,.M 13,.b .lss 152 153,.h 154,.M 17,.M 11,.b .gtr 156 157,.z] 159 (rr 159 [.M 11,.O .bad,.m 6 160,.s 7])<|ry 161 [.M 17,.s 13]
def ZHm:Zar:=rs 5 [.O (.mv (.c (.sc (.int .u64 0)))),.O (.mv (.c (.sc .nilIface)))]<|ri 17 [.M 0,.O (.bin .eql (.t 18) (.c (.sc (.string ⟨#[]⟩))))] 19 (rr 19 [.O .bad,.o 6 (.mv (.c (.sc (.int .u64 0)))),.s 7])<|rs 20 [.i .eql 1 0,.s 8]<|rs 22 [.M 0,.s 9]<|.seq (.blk 0<|rs 25 [.M 1,.O (.bin .leq (ik 2) (.t 26)),.y 27,.i .leq 1 36,.z,.s 25]<|.cond (.t 25) .skip<|rs 32 [.i .eql 1 0,.s 32]<|.cond (.t 32) (rs 0 [.J 10]<|rs 34 [.M 0,.O (.ixs (.t 35) (ik 0)),.O (.bin .eql (.t 36) (.c (.sc (.int .u8 48))))]<|.cond (.t 37) (.blk 1<|rs 40 [.M 0,.O (.len true (.t 41)),.B .geq 42 3,.y 43,.M 0,.O (.ixs (.t 45) (ik 1)),.c 165 [46],.O (.bin .eql (.t 47) (.c (.sc (.int .u8 98)))),.z,.s 40]<|.cond (.t 40) (rs 0 [.J 2]<|ry 49 [.M 0,.O (.slS (.t 50) (some (ik 2)) none),.s 0])<|rs 52 [.M 0,.O (.len true (.t 53)),.B .geq 54 3,.y 55,.M 0,.O (.ixs (.t 57) (ik 1)),.c 165 [58],.O (.bin .eql (.t 59) (.c (.sc (.int .u8 111)))),.z,.s 52]<|.cond (.t 52) (rs 0 [.J 8]<|ry 61 [.M 0,.O (.slS (.t 62) (some (ik 2)) none),.s 0])<|rs 64 [.M 0,.O (.len true (.t 65)),.B .geq 66 3,.y 67,.M 0,.O (.ixs (.t 69) (ik 1)),.c 165 [70],.O (.bin .eql (.t 71) (.c (.sc (.int .u8 120)))),.z,.s 64]<|.cond (.t 64) (rs 0 [.J 16]<|ry 73 [.M 0,.O (.slS (.t 74) (some (ik 2)) none),.s 0])<|rs 0 [.J 8]<|ry 37 [.M 0,.O (.slS (.t 38) (some (ik 1)) none),.s 0])<|.skip)<|rr 23 [.O .bad,.o 6 (.mv (.c (.sc (.int .u64 0)))),.s 7])<|.seq (rs 75 [.i .eql 2 0]<|.cond (.t 77) (ry 1 [.J 64])<|rs 77 [.i .lss 2 0,.h 79,.i .gtr 2 64,.z]<|.cond (.t 83) (rr 83 [.O .bad,.o 6 (.mv (.c (.sc (.int .u64 0)))),.s 7])<|.skip)<|rs 9 [.O (.mv (.c (.sc (.int .u64 0))))]<|.seq (rs 84 [.M 1]<|.blk 2<|rs 90 [.B .eql 85 10,.s 90]<|.cond (.t 90) (ry 9 [.O (.mv (.c (.sc (.int .u64 1844674407370955162))))])<|rs 92 [.B .eql 85 16,.s 92]<|.cond (.t 92) (ry 9 [.O (.mv (.c (.sc (.int .u64 1152921504606846976))))])<|ry 85 [.M 1,.O (.cnv .u64 (.t 86)),.O (.bin .quo (.c (.sc (.int .u64 18446744073709551615))) (.t 87)),.O (.bin .add (.t 88) (.c (.sc (.int .u64 1)))),.s 10])<|rs 93 [.M 2,.O (.cnv .u64 (.t 94)),.O (.bin .shl (.c (.sc (.int .u64 1))) (.t 95)),.O (.bin .sub (.t 96) (.c (.sc (.int .u64 1)))),.s 11]<|rs 0 [.K 12]<|rs 12 [.O (.mv (.c (.sc (.int .u64 0))))]<|.seq (rs 97 [.M 0,.O .bad,.n 99,.J 0]<|c138_1)<|ri 163 [.M 12,.y 164,.M 9,.c 166 [166],.u 167,.z] 169 (rr 169 [.O .bad,.o 6 (.mv (.c (.sc (.int .u64 0)))),.s 7])<|rr 170 [.M 13,.s 6,.o 7 (.mv (.c (.sc .nilIface)))]
def cf138:=kf0 138 ZHm [.tmp 6,.tmp 7] 172
def Zka:Zar:=rs 3 [.O (.mv (.c (.sc (.pointer none))))]<|.seq (.drw [ip (im 5 0),ip (im 6 1),ip (io 8 (.ld 1 false (.c (.sc (.pointer (some ⟨4,0,none⟩)))))),(io 7 (.call (jf 167) [.t 6]),[io 8 (.ld 1 false (.c (.sc (.pointer (some ⟨4,0,none⟩)))))]),ip (io 9 (.bld [.sc (.string ⟨#[]⟩),.sc (.string ⟨#[]⟩),.sc .nilIface] [(0,(1,.t 5)),(1,(1,.t 7)),(2,(1,.t 8))])),ip (io 10 (.box 201 (.t 9))),ip (im 4 10)])<|.ret
def cf139:=kf0 139 Zka [.tmp 4] 11
def ZfC:Zar:=rs 3 [.O (.mv (.c (.sc (.pointer none))))]<|.seq (.drw [ip (im 5 0),ip (im 6 1),ip (io 8 (.ld 1 false (.c (.sc (.pointer (some ⟨5,0,none⟩)))))),(io 7 (.call (jf 167) [.t 6]),[io 8 (.ld 1 false (.c (.sc (.pointer (some ⟨5,0,none⟩)))))]),ip (io 9 (.bld [.sc (.string ⟨#[]⟩),.sc (.string ⟨#[]⟩),.sc .nilIface] [(0,(1,.t 5)),(1,(1,.t 7)),(2,(1,.t 8))])),ip (io 10 (.box 201 (.t 9))),ip (im 4 10)])<|.ret
def cf140:=kf0 140 ZfC [.tmp 4] 11
def ZdK:Zar:=rs 5 [.O (.mv (.c (.sc (.pointer none))))]<|rr 6 [.M 0,.M 1,.c 167 [8],.M 2,.c 33 [10],.O (.bin .add (.c (.sc (.string ⟨#[105,110,118,97,108,105,100,32,98,97,115,101,32]⟩))) (.t 11)),.c 168 [12],.O (.bld [.sc (.string ⟨#[]⟩),.sc (.string ⟨#[]⟩),.sc .nilIface] [(0,(1,.t 7)),(1,(1,.t 9)),(2,(1,.t 13))]),.O (.box 201 (.t 14)),.s 6]
def cf141:=kf0 141 ZdK [.tmp 6] 16
def ZcY:Zar:=rs 5 [.O (.mv (.c (.sc (.pointer none))))]<|rr 6 [.M 0,.M 1,.c 167 [8],.M 2,.c 33 [10],.O (.bin .add (.c (.sc (.string ⟨#[105,110,118,97,108,105,100,32,98,105,116,32,115,105,122,101,32]⟩))) (.t 11)),.c 168 [12],.O (.bld [.sc (.string ⟨#[]⟩),.sc (.string ⟨#[]⟩),.sc .nilIface] [(0,(1,.t 7)),(1,(1,.t 9)),(2,(1,.t 13))]),.O (.box 201 (.t 14)),.s 6]
def cf142:=kf0 142 ZcY [.tmp 6] 16
def ZeX:Zar:=ry 3 [.M 0,.R 0,.M 1,.b .sub 6 7,.c 169 [4,8]]
def cf144:=kf0 144 ZeX [] 10
def c145_1:Zar:=rl 0 8 9 (.t 7) 18<|.blk 1<|rs 9 [.M 8,.s 5]<|rs 10 [.M 1,.M 0,.M 5,.Y 1 12 13,.b .eql 11 15]<|.cond (.t 16) (rr 16 [.M 5,.s 4])<|.skip
def ZpP:Zar:=rs 3 [.J 0]<|.seq (rs 5 [.R 0,.J 0]<|c145_1)<|rr 3 [.J (-1)]
def cf145:=kf0 145 ZpP [.tmp 4] 19
def Zou:Zar:=rs 0 [.K 4]<|rr 4 [.M 0,.M 1,.c 145 [5,6],.B .geq 7 0,.s 4]
def cf146:=kf0 146 Zou [.tmp 4] 9
def c147_1:Zar:=rl 0 28 29 (.t 27) 51<|.blk 1<|rs 29 [.M 28,.X 3 26 28,.o 6 (.box 102 (.c (.agg [.sc (.string ⟨#[]⟩),.sl .full [],.sl .full []]))),.m 5 30,.Z 3 6 32]<|.seq (.seq (.drw [ip (io 33 (.ld 3 true (.t 6))),ip (io 34 (.ld 2 true (.t 1))),ip (im 35 5),(io 36 (.call (jf 151) [.t 34,.t 35]),[io 33 (.ld 3 true (.t 6))]),ip (io 37 (.call (jf 171) [.t 33,.t 36])),ip (im 7 37)])<|rs 37 [.i .neq 7 0]<|.cond (.t 39) (rr 39 [.M 7,.s 2])<|.skip)<|rs 40 [.M 4,.F 0 6,.O (.lkp (.one .str) (.sc (.int .i64 0)) false (.t 41) (.t 43)),.B .add 44 1,.w (.mup (.one .str) (.t 41) (.t 43) (.t 45))]<|rs 45 [.M 4,.F 0 6,.O (.lkp (.one .str) (.sc (.int .i64 0)) false (.t 46) (.t 48)),.B .gtr 49 1]<|.cond (.t 50) (rr 1 [.J 11])<|.skip
def ZqT:Zar:=rs 1 [.v 1 100 0,.J 0]<|.seq (rs 7 [.F 0 1,.c 170 [9],.s 3]<|rs 10 [.i .neq 3 0]<|.cond (.t 12) (rr 12 [.M 3,.s 2])<|.skip)<|ri 13 [.N 1 1,.B .lss 16 1,.h 17,.N 1 1,.B .gtr 21 4,.z] 23 (rr 1 [.J 5])<|rs 23 [.O (.mkm (.one .str)),.s 4]<|.seq (rs 24 [.N 1 1,.J 0]<|c147_1)<|rr 1 [.J 0]
def cf147:=kf0 147 ZqT [.tmp 2] 52
def ZcC:Zar:=rs 0 [.K 4]<|rs 4 [.M 0,.M 1,.O (.lkp (.one .str) (.sc (.int .i64 0)) false (.t 5) (.t 6)),.B .add 7 1,.w (.mup (.one .str) (.t 5) (.t 6) (.t 8))]<|rr 8 [.M 0,.M 1,.O (.lkp (.one .str) (.sc (.int .i64 0)) false (.t 9) (.t 10)),.B .eql 11 1,.s 4]
def cf148:=kf0 148 ZcC [.tmp 4] 13
def c149_1:Zar:=rl 0 18 19 (.t 17) 31<|.blk 1<|rs 19 [.Y 1 16 18,.s 5]<|.seq (rs 21 [.M 5,.c 170 [22],.s 6]<|rs 23 [.i .neq 6 0]<|.cond (.t 25) (rr 25 [.M 6,.s 2])<|.skip)<|rs 26 [.M 3,.M 5,.c 148 [27,28],.u 29]<|.cond (.t 30) (rr 1 [.J 11])<|.skip
def Zu7:Zar:=rs 1 [.J 0]<|ri 6 [.R 0,.B .lss 8 1,.h 9,.R 0,.B .gtr 12 3,.z] 14 (rr 1 [.J 5])<|rs 14 [.O (.mkm (.one .str)),.s 3]<|.seq (rs 15 [.R 0,.J 0]<|c149_1)<|rr 1 [.J 0]
def cf149:=kf0 149 Zu7 [.tmp 2] 32
def c150_1:Zar:=rl 0 32 33 (.t 31) 40<|.blk 1<|rs 33 [.Y 1 30 32,.s 11]<|ry 35 [.M 9,.M 11,.c 72 [37],.b .add 36 38,.s 9]
def Zcx:Zar:=rs 3 [.v 2 102 0,.O (.mv (.c (.sc (.string ⟨#[]⟩)))),.J 0]<|.seq (rs 11 [.L 3 2,.M 1,.c 171 [12,13],.s 6]<|rs 14 [.i .neq 6 0]<|.cond (.t 16) (rr 16 [.M 6,.o 4 (.mv (.c (.sc (.string ⟨#[]⟩)))),.s 5])<|.skip)<|rs 18 [.F 1 2,.c 115 [20],.s 18,.e 18 0,.e 18 1,.m 7 22,.s 8]<|rs 23 [.F 0 2,.c 75 [25],.M 7,.b .add 26 27,.s 9]<|.seq (rs 28 [.N 2 2,.J 0]<|c150_1)<|rr 40 [.M 9,.s 4,.j 5 0]
def cf150:=kf0 150 Zcx [.tmp 4,.tmp 5] 42
def Zfk:Zar:=rs 3 [.v 2 100 0,.J 0]<|ri 4 [.i .add 1 1,.N 1 2,.b .lss 6 9] 10 (rr 10 [.F 1 2,.i .add 1 1,.x 3 12 14,.N 1 15,.s 4])<|rr 3 [.J 0]
def cf151:=kf0 151 Zfk [.tmp 4] 19
def c152_1:Zar:=rv 0 3 [.i .lss 3 9] 5<|.seq (.blk 1<|rs 7 [.M 0,.M 3,.O (.bin .mul (ik 7) (.t 9)),.b .shr 8 10,.O (.bin .eql (.t 11) (.c (.sc (.int .u64 0))))]<|.cond (.t 12) (rr 12 [.M 3,.s 2])<|.skip)<|ry 5 [.i .add 3 1,.s 3]
def ZhO:Zar:=rs 1 [.J 0]<|.seq (rs 2 [.J 1]<|c152_1)<|rr 1 [.J 9]
def cf152:=kf0 152 ZhO [.tmp 2] 14
def ZuD:Zar:=rs 1 [.O (.mv (.c (.sc (.int .u8 0))))]<|rr 2 [.M 0,.O (.bin .sub (ik 9) (.t 3)),.O (.bin .shl (.c (.sc (.int .u8 255))) (.t 4)),.s 2]
def cf153:=kf0 153 ZuD [.tmp 2] 6
def c154_1:Zar:=rv 0 11 [.l 1 2,.O (.len true (.t 12)),.B .gtr 13 0] 14<|.blk 1<|rs 15 [.l 1 2,.c 101 [16],.s 15,.e 15 0,.e 15 1,.m 5 18,.s 6]<|ri 19 [.M 0,.l 1 2,.M 6,.O (.slS (.t 21) none (some (.t 22))),.O (.call (.t 20) [.t 23]),.u 24] 25 .ret<|ry 25 [.l 1 2,.M 6,.O (.slS (.t 26) (some (.t 27)) none),.Z 1 2 28]
def c154_2:Zar:=.blk 2<|.loop<|.blk 3<|rs 28 [.l 1 2,.l 1 1,.c 66 [29,30],.s 7]<|ri 31 [.i .lss 7 0] 33 (.exit 2)<|rs 33 [.l 1 2,.M 7,.l 1 3,.b .add 35 36,.O (.slS (.t 34) none (some (.t 37))),.s 8]<|ri 38 [.M 0,.M 8,.O (.call (.t 39) [.t 40]),.u 41] 42 .ret<|ry 42 [.l 1 2,.M 7,.l 1 1,.O (.len true (.t 45)),.b .add 44 46,.O (.slS (.t 43) (some (.t 47)) none),.Z 1 2 48]
def ZHi:Zar:=ri 8 [.l 1 1,.O (.len true (.t 9)),.B .eql 10 0] 11 (.seq c154_1<|.ret)<|.seq c154_2<|ry 48 [.M 0,.l 1 2,.O (.call (.t 49) [.t 50])]
def cf154:=kf0 154 ZHi [] 52
def Zrw:Zar:=rs 1 [.O (.mv (.c (.sc (.int .u64 0))))]<|ri 2 [.i .lss 0 0] 4 (rr 4 [.M 0,.O (.un .xor (.t 5)),.O (.cnv .u64 (.t 6)),.O (.bin .shl (.t 7) (.c (.sc (.int .u64 1)))),.O (.bin .or (.t 8) (.c (.sc (.int .u64 1)))),.s 2])<|rr 9 [.M 0,.O (.cnv .u64 (.t 10)),.O (.bin .shl (.t 11) (.c (.sc (.int .u64 1)))),.s 2]
def cf155:=kf0 155 Zrw [.tmp 2] 13
def c156_1:Zar:=rl 0 8 9 (.t 7) 29<|.blk 1<|rs 9 [.M 8,.Y 1 6 8,.m 3 10,.s 4]<|.seq (rs 12 [.M 4,.c 172 [13],.s 5]<|rs 14 [.i .neq 5 0]<|.cond (.t 16) (rr 16 [.M 5,.s 2])<|.skip)<|rs 17 [.i .gtr 3 0,.y 19,.M 0,.i .sub 3 1,.Y 1 21 23,.M 4,.b .geq 25 26,.z]<|.cond (.t 28) (rr 1 [.J 4])<|.skip
def Zr2:Zar:=rs 1 [.J 0]<|.seq (rs 5 [.R 0,.J 0]<|c156_1)<|rr 1 [.J 0]
def cf156:=kf0 156 Zr2 [.tmp 2] 30
def c157_1:Zar:=.blk 0<|.loop<|.seq (rt 5 [.M 5,.M 0,.O (.len true (.t 7)),.b .lss 6 8,.y 9,.M 5,.M 1,.O (.len true (.t 12)),.b .lss 11 13,.z,.y 15,.M 0,.M 5,.O (.ixs (.t 17) (.t 18)),.M 1,.M 5,.O (.ixs (.t 20) (.t 21)),.b .eql 19 22,.z]<|.cond (.t 24) .skip<|.exit 0)<|.blk 1<|ry 24 [.i .add 5 1,.s 5]
def ZdN:Zar:=rs 3 [.J 0]<|rs 4 [.J 0]<|.seq c157_1<|rr 26 [.M 5,.s 4]
def cf157:=kf0 157 ZdN [.tmp 4] 28
def ZHn:Zar:=rs 1 [.J 0]<|ri 2 [.M 0,.O (.bin .eql (.t 3) (.c (.sc (.int .u32 0))))] 4 (rr 1 [.J 32])<|rr 4 [.M 0,.M 0,.O (.un .neg (.t 6)),.b .and 5 7,.O (.bin .mul (.t 8) (.c (.sc (.int .u32 125613361)))),.O (.bin .shr (.t 9) (.c (.sc (.int .u64 27)))),.O (.ixA 32 1 (.c (.sc (.pointer (some ⟨6,0,none⟩)))) (.t 10)),.l 1 11,.O (.cnv .i64 (.t 12)),.s 2]
def cf162:=kf0 162 ZHn [.tmp 2] 14
def ZvQ:Zar:=rs 1 [.J 0]<|ri 2 [.M 0,.O (.bin .eql (.t 3) (.c (.sc (.int .u64 0))))] 4 (rr 1 [.J 64])<|rr 4 [.M 0,.M 0,.O (.un .neg (.t 6)),.b .and 5 7,.O (.bin .mul (.t 8) (.c (.sc (.int .u64 285870213051353865)))),.O (.bin .shr (.t 9) (.c (.sc (.int .u64 58)))),.O (.ixA 64 1 (.c (.sc (.pointer (some ⟨7,0,none⟩)))) (.t 10)),.l 1 11,.O (.cnv .i64 (.t 12)),.s 2]
def cf163:=kf0 163 ZvQ [.tmp 2] 14
def Zeo:Zar:=rs 1 [.O (.mv (.c (.sc (.int .u8 0))))]<|rr 2 [.M 0,.O (.bin .or (.t 3) (.c (.sc (.int .u8 32)))),.s 2]
def cf165:=kf0 165 Zeo [.tmp 2] 5
def c166_1:Zar:=rv 0 50 [.M 4,.M 0,.O (.len true (.t 52)),.b .lss 51 53] 54<|.seq (.blk 1<|ri 56 [.M 0,.M 4,.O (.ixs (.t 57) (.t 58)),.O (.bin .leq (.c (.sc (.int .u8 48))) (.t 59)),.y 60,.M 0,.M 4,.O (.ixs (.t 62) (.t 63)),.O (.bin .leq (.t 64) (.c (.sc (.int .u8 57)))),.z,.h 66,.M 5,.y 68,.M 0,.M 4,.O (.ixs (.t 70) (.t 71)),.c 165 [72],.O (.bin .leq (.c (.sc (.int .u8 97))) (.t 73)),.z,.y 75,.M 0,.M 4,.O (.ixs (.t 77) (.t 78)),.c 165 [79],.O (.bin .leq (.t 80) (.c (.sc (.int .u8 102)))),.z,.z] 83 (rs 2 [.O (.mv (.c (.sc (.int .i32 48))))]<|.exit 1)<|ri 83 [.M 0,.M 4,.O (.ixs (.t 84) (.t 85)),.O (.bin .eql (.t 86) (.c (.sc (.int .u8 95))))] 87 (ri 87 [.M 3,.O (.bin .neq (.t 88) (.c (.sc (.int .i32 48))))] 89 (rr 0 [.K 2])<|rs 2 [.O (.mv (.c (.sc (.int .i32 95))))]<|.exit 1)<|ri 89 [.M 3,.O (.bin .eql (.t 90) (.c (.sc (.int .i32 95))))] 91 (rr 0 [.K 2])<|ry 2 [.O (.mv (.c (.sc (.int .i32 33))))])<|ry 54 [.i .add 4 1,.s 4]
def Zk7:Zar:=rs 0 [.K 2]<|rs 2 [.O (.mv (.c (.sc (.int .i32 94))))]<|rs 3 [.J 0]<|ri 5 [.M 0,.O (.len true (.t 6)),.B .geq 7 1,.y 8,.M 0,.O (.ixs (.t 10) (ik 0)),.O (.bin .eql (.t 11) (.c (.sc (.int .u8 45)))),.h 12,.M 0,.O (.ixs (.t 14) (ik 0)),.O (.bin .eql (.t 15) (.c (.sc (.int .u8 43)))),.z,.z] 18 (ry 18 [.M 0,.O (.slS (.t 19) (some (ik 1)) none),.s 0])<|rs 0 [.K 5]<|ri 20 [.M 0,.O (.len true (.t 21)),.B .geq 22 2,.y 23,.M 0,.O (.ixs (.t 25) (ik 0)),.O (.bin .eql (.t 26) (.c (.sc (.int .u8 48)))),.z,.y 28,.M 0,.O (.ixs (.t 30) (ik 1)),.c 165 [31],.O (.bin .eql (.t 32) (.c (.sc (.int .u8 98)))),.h 33,.M 0,.O (.ixs (.t 35) (ik 1)),.c 165 [36],.O (.bin .eql (.t 37) (.c (.sc (.int .u8 111)))),.z,.h 39,.M 0,.O (.ixs (.t 41) (ik 1)),.c 165 [42],.O (.bin .eql (.t 43) (.c (.sc (.int .u8 120)))),.z,.z] 46 (rs 3 [.J 2]<|rs 2 [.O (.mv (.c (.sc (.int .i32 48))))]<|ry 46 [.M 0,.O (.ixs (.t 47) (ik 1)),.c 165 [48],.O (.bin .eql (.t 49) (.c (.sc (.int .u8 120)))),.s 5])<|.seq c166_1<|rr 91 [.M 3,.O (.bin .neq (.t 92) (.c (.sc (.int .i32 95)))),.s 2]
def cf166:=kf0 166 Zk7 [.tmp 2] 94
def ZgH:Zar:=rs 1 [.O (.mv (.c (.sc (.string ⟨#[]⟩))))]<|ri 3 [.M 0,.O (.len true (.t 4)),.B .eql 5 0] 6 (rr 1 [.O (.mv (.c (.sc (.string ⟨#[]⟩))))])<|rs 6 [.M 0,.O (.len true (.t 7)),.O (.mks 5 1 1 [.sc (.int .u8 0)] (.t 8) (.t 8)),.s 3]<|rs 9 [.M 3,.M 0,.O (.cpy 1 (.t 10) (.t 11))]<|rr 12 [.M 3,.O (.ixa 1 (.t 13) (ik 0)),.R 3,.O .bad,.s 2]
def cf167:=kf0 167 ZgH [.tmp 2] 18
def ZlK:Zar:=rs 1 [.O (.mv (.c (.sc .nilIface)))]<|rr 5 [.m 3 0,.o 4 (.bld [.sc (.string ⟨#[]⟩)] [(0,(1,.t 3))]),.v 5 210 4,.O .bad,.s 2]
def cf168:=kf0 168 ZlK [.tmp 2] 7
def ZHj:Zar:=rs 3 [.M 0,.M 1,.O (.slc 3 (.t 4) none (some (.t 5)) none),.c 174 [6]]<|rs 7 [.M 0,.M 1,.O (.slc 3 (.t 8) (some (.t 9)) none none),.c 174 [10]]<|ry 11 [.M 0,.c 174 [12]]
def cf169:=kf0 169 ZHj [] 14
def c170_1:Zar:=rl 0 14 15 (.t 13) 35<|.blk 1<|rs 15 [.M 14,.s 3]<|rs 16 [.M 0,.M 3,.O (.ixs (.t 17) (.t 18)),.s 4]<|.blk 2<|.seq (rs 20 [.M 4,.O (.bin .leq (.c (.sc (.int .u8 97))) (.t 21)),.y 22,.M 4,.O (.bin .leq (.t 24) (.c (.sc (.int .u8 122)))),.z,.s 20]<|.cond (.t 20) .skip<|rs 26 [.M 4,.O (.bin .leq (.c (.sc (.int .u8 48))) (.t 27)),.y 28,.M 4,.O (.bin .leq (.t 30) (.c (.sc (.int .u8 57)))),.z,.s 20]<|.cond (.t 20) .skip<|ry 32 [.M 4,.O (.bin .eql (.t 33) (.c (.sc (.int .u8 95)))),.s 20])<|.cond (.t 20) .skip<|rr 1 [.J 2]
def Zln:Zar:=rs 1 [.J 0]<|ri 4 [.M 0,.O (.bin .eql (.t 5) (.c (.sc (.string ⟨#[]⟩)))),.h 6,.M 0,.O (.len true (.t 8)),.B .gtr 9 12,.z] 11 (rr 1 [.J 2])<|.seq (rs 11 [.M 0,.O (.len true (.t 12)),.J 0]<|c170_1)<|rr 1 [.J 0]
def cf170:=kf0 170 Zln [.tmp 2] 36
def ZF9:Zar:=rs 3 [.v 2 102 0,.J 0]<|.seq (rs 6 [.F 0 2,.c 170 [8],.s 5]<|rs 9 [.i .neq 5 0]<|.cond (.t 11) (rr 11 [.M 5,.s 4])<|.skip)<|ri 12 [.N 1 2,.B .lss 15 1,.h 16,.N 1 2,.B .gtr 20 200,.z] 22 (rr 3 [.J 5])<|.seq (rs 22 [.F 1 2,.c 156 [24],.s 6]<|rs 25 [.i .neq 6 0]<|.cond (.t 27) (rr 27 [.M 6,.s 4])<|.skip)<|ri 28 [.F 2 2,.N 1 2,.M 1,.c 175 [30,33,34],.u 35] 36 (rr 3 [.J 14])<|rr 3 [.J 0]
def ZGl:=kf0 171 ZF9 [.tmp 4] 37
def ZG9:Zar:=rs 1 [.J 0]<|ri 2 [.M 0,.O (.bin .eql (.t 3) (.c (.sc (.string ⟨#[]⟩)))),.h 4,.M 0,.O (.len true (.t 6)),.B .gtr 7 16,.z] 9 (rr 1 [.J 2])<|rr 1 [.J 0]
def cf172:=kf0 172 ZG9 [.tmp 2] 10
def c174_1:Zar:=rv 0 6 [.M 2,.M 3,.b .lss 7 8] 9<|.seq (.blk 1<|rd 13 [.M 0,.M 2,.M 0,.M 3,.M 0,.M 3,.X 3 18 19,.M 0,.M 2,.X 3 22 23,.x 3 14 15,.Z 3 26 21,.x 3 16 17,.Z 3 27 25])<|ry 9 [.i .add 2 1,.i .sub 3 1,.m 2 11,.s 3]
def ZHk:Zar:=rs 3 [.R 0,.B .sub 5 1,.j 2 0,.s 3]<|c174_1
def cf174:=kf0 174 ZHk [] 28
def c175_1:Zar:=rl 0 22 23 (.t 21) 35<|.blk 1<|rs 23 [.Y 1 20 22,.s 9]<|ri 25 [.i .lss 9 0,.h 27,.M 9,.M 2,.b .geq 29 30,.z] 32 (rr 0 [.K 6])<|ry 32 [.M 7,.M 9,.w (.mup (.one (.int .i64)) (.t 33) (.t 34) (ik 1))]
def ZHg:Zar:=rs 0 [.K 6]<|ri 9 [.i .leq 2 0] 11 (rr 11 [.R 0,.B .eql 13 0,.s 6])<|ri 14 [.R 0,.M 1,.b .neq 16 17] 18 (rr 0 [.K 6])<|rs 18 [.O (.mkm (.one (.int .i64))),.s 7]<|.seq (rs 19 [.R 0,.J 0]<|c175_1)<|rr 35 [.M 7,.O (.mln (.t 36)),.M 2,.b .eql 37 38,.s 6]
def cf175:=kf0 175 ZHg [.tmp 6] 40
def Zwl {α:Type}:List (FuncId×α)->FuncId->Option α
 | [],_=>none
 | (k,x) :: l,f=>bif Nat.beq f k then some x else Zwl l f
def TabAll {α:Type} (Pr:FuncId->α->Prop):List (FuncId×α)->Prop
 | []=>True
 | (k,x) :: l=>Pr k x/\TabAll Pr l
theorem Zwh {α:Type} {Pr:FuncId->α->Prop}:∀{l:List (FuncId×α)} {f:FuncId} {x:α},TabAll Pr l->Zwl l f=some x->Pr f x
 | [],f,x,_,h=>by simp[Zwl]at h
 | (k,y) :: l,f,x,ha,h=>by
  simp only[Zwl,ZwR]at h
  by_cases e:f=k
  ·subst e
   simp only[decide_true,cond_true,zac]at h
   subst h
   exact ha.1
  ·simp only[e,decide_false,cond_false]at h
   exact Zwh ha.2 h
def LK:List (FuncId×Zar×List Zcq×Nat):=[(3,Zxe,[(.tmp 4)],73),(6,Zna,[(.tmp 0)],35),(7,ZzR,[(.tmp 2)],28),(8,Ztx,[(.tmp 2),(.tmp 3)],57),(9,Zq4,[(.tmp 2),(.tmp 3)],58),(10,ZkB,[(.tmp 2)],30),(11,ZlE,[(.cell 2 true 2),(.tmp 3)],48),(17,ZqR,[(.tmp 2)],17),(18,Zo4,[(.tmp 4)],17),(21,Zeb,[(.tmp 2)],36),(22,Zg5,[(.tmp 2)],13),(23,Zga,[(.tmp 2)],10),(24,ZuT,[(.tmp 4)],8),(25,Zlu,[(.cell 2 true 2),(.tmp 3)],33),(26,c26_0,[(.tmp 0)],3),(27,Zdp,[(.tmp 2)],11),(33,c33_0,[(.tmp 2)],5),(35,Zvl,[(.tmp 4)],8),(38,Ztz,[(.tmp 2)],5),(41,ZsN,[(.tmp 2)],21),(44,ZHo,[(.tmp 8)],66),(45,Zq5,[(.tmp 2),(.tmp 3)],20),(46,ZrM,[(.tmp 2),(.tmp 3)],33),(47,c47_0,[(.cell 1 false 2),(.cell 1 false 3)],72),(48,ZeF,[(.tmp 2),(.tmp 3)],52),(49,ZmE,[(.tmp 2),(.tmp 3)],7),(58,ZtC,[(.tmp 2)],5),(59,Zqj,[(.tmp 4)],54),(64,ZoS,[(.tmp 4)],50),(67,Zks,[(.tmp 6),(.tmp 7)],25),(68,ZiL,[(.tmp 4)],110),(69,c69_0,[(.tmp 2),(.tmp 3)],56),(70,ZnP,[(.tmp 4)],26),(71,ZHh,[(.tmp 2)],64),(72,ZhM,[(.tmp 2)],7),(73,c73_0,[(.tmp 4),(.tmp 5),(.tmp 6)],13),(74,Znz,[(.cell 1 false 2),(.cell 1 false 3)],25),(75,c75_0,[(.tmp 2)],8),(76,Zuo,[(.tmp 4)],8),(77,ZdC,[(.tmp 2)],5),(78,ZtG,[(.tmp 2),(.tmp 3)],101),(79,ZtM,[(.tmp 2),(.tmp 3)],21),(95,Zvp,[(.tmp 2)],15),(96,ZiC,[(.tmp 2)],15),(97,ZvO,[],167),(98,c98_0,[(.tmp 10),(.tmp 11)],102),(100,Zck,[(.tmp 2)],10),(101,ZmV,[(.tmp 2),(.tmp 3)],19),(104,Zt4,[(.tmp 6),(.tmp 7)],73),(105,ZtP,[(.tmp 10)],43),(106,Zic,[(.tmp 6)],95),(107,Zcf,[(.tmp 6)],61),(108,Zeq,[(.tmp 2)],39),(109,ZfJ,[(.tmp 2),(.tmp 3)],46),(110,Zpi,[(.tmp 4)],52),(111,Zfr,[(.tmp 2)],34),(112,Zpf,[(.tmp 4),(.tmp 5),(.tmp 6)],23),(113,ZpX,[(.tmp 6)],8),(114,ZpQ,[(.tmp 2)],6),(115,Zno,[(.tmp 2),(.tmp 3)],39),(128,ZrW,[(.tmp 2)],6),(129,ZHf,[(.tmp 2)],25),(130,Zgs,[(.tmp 2)],4),(131,Zds,[(.tmp 2)],8),(132,ZmU,[(.tmp 2)],8),(134,Zed,[(.tmp 2),(.tmp 3)],117),(138,ZHm,[(.tmp 6),(.tmp 7)],172),(139,Zka,[(.tmp 4)],11),(140,ZfC,[(.tmp 4)],11),(141,ZdK,[(.tmp 6)],16),(142,ZcY,[(.tmp 6)],16),(144,ZeX,[],10),(145,ZpP,[(.tmp 4)],19),(146,Zou,[(.tmp 4)],9),(147,ZqT,[(.tmp 2)],52),(148,ZcC,[(.tmp 4)],13),(149,Zu7,[(.tmp 2)],32),(150,Zcx,[(.tmp 4),(.tmp 5)],42),(151,Zfk,[(.tmp 4)],19),(152,ZhO,[(.tmp 2)],14),(153,ZuD,[(.tmp 2)],6),(154,ZHi,[],52),(155,Zrw,[(.tmp 2)],13),(156,Zr2,[(.tmp 2)],30),(157,ZdN,[(.tmp 4)],28),(162,ZHn,[(.tmp 2)],14),(163,ZvQ,[(.tmp 2)],14),(165,Zeo,[(.tmp 2)],5),(166,Zk7,[(.tmp 2)],94),(167,ZgH,[(.tmp 2)],18),(168,ZlK,[(.tmp 2)],7),(169,ZHj,[],14),(170,Zln,[(.tmp 2)],36),(171,ZF9,[(.tmp 4)],37),(172,ZG9,[(.tmp 2)],10),(174,ZHk,[],28),(175,ZHg,[(.tmp 6)],40)]
def TK:FuncId->Option (Zar×List Zcq×Nat):=Zwl LK
theorem hTK:∀f x,TK f=some x->cFn Tryz.prog eqT f=some x:=fun f x h=>Zwh (Pr:=fun f x=>cFn Tryz.prog eqT f=some x) (l:=LK) ⟨cf3,cf6,cf7,cf8,cf9,cf10,cf11,cf17,cf18,cf21,cf22,cf23,cf24,cf25,cf26,cf27,cf33,cf35,cf38,cf41,cf44,cf45,cf46,cf47,cf48,cf49,cf58,cf59,cf64,cf67,cf68,cf69,cf70,cf71,cf72,cf73,cf74,cf75,cf76,cf77,cf78,cf79,cf95,cf96,cf97,cf98,ZkE,cf101,cf104,cf105,cf106,cf107,cf108,cf109,cf110,cf111,cf112,cf113,cf114,cf115,cf128,cf129,cf130,cf131,cf132,cf134,cf138,cf139,cf140,cf141,cf142,cf144,cf145,cf146,cf147,cf148,cf149,cf150,cf151,cf152,cf153,cf154,cf155,cf156,cf157,cf162,cf163,cf165,cf166,cf167,cf168,cf169,cf170,ZGl,cf172,cf174,cf175,trivial⟩ h
def c39_1:Zar:=rv 0 12 [.M 3,.O (.bin .gtr (.t 13) (.c (.sc (.int .u64 0))))] 14<|.blk 1<|rs 14 [.M 3,.O (.bin .rem (.t 15) (.c (.sc (.int .u64 10)))),.O (.cnv .u8 (.t 16)),.O (.bin .add (.c (.sc (.int .u8 48))) (.t 17)),.S 1 18,.O (.sob (.t 19)),.M 4,.b .add 20 21,.s 4]<|ry 22 [.M 3,.O (.bin .quo (.t 23) (.c (.sc (.int .u64 10)))),.s 3]
def Zt8:Zar:=rs 1 [.O (.mv (.c (.sc (.string ⟨#[]⟩))))]<|ri 4 [.i .eql 0 0] 6 (rr 1 [.O (.mv (.c (.sc (.string ⟨#[48]⟩))))])<|rs 6 [.M 0,.O (.cnv .u64 (.t 7)),.s 3]<|ri 8 [.i .lss 0 0] 10 (ry 10 [.M 3,.O (.un .neg (.t 11)),.s 3])<|rs 3 [.O (.mv (.c (.sc (.string ⟨#[]⟩))))]<|.seq c39_1<|ri 24 [.i .lss 0 0] 26 (rr 26 [.M 4,.O (.bin .add (.c (.sc (.string ⟨#[45]⟩))) (.t 27)),.s 2])<|rr 28 [.M 4,.s 2]
def cf39:=kf0 39 Zt8 [.tmp 2] 30
def zp0:AV:=.agg [.sc (.string ⟨#[]⟩),.sc (.int .i64 0),.sc (.int .i64 0)]
def YZp:=zp0.eq_1
def c4_0:Zar:=rs 0 [.K 2]<|ri 6 [.M 0,.O (.len true (.t 7)),.B .gtr 8 2000] 9 (rr 9 [.c 6 [],.s 2])<|rs 11 [.M 0,.c 11 [12],.s 11,.e 11 0,.e 11 1,.o 3 (.box 28 (.c (.agg [.sc (.int .i64 0),.sc (.string ⟨#[]⟩)]))),.Z 2 3 14,.s 4]<|rs 16 [.M 0,.c 12 [17],.s 16,.e 16 0,.e 16 1,.o 5 (.box 28 (.c (.agg [.sc (.int .i64 0),.sc (.string ⟨#[]⟩)]))),.Z 2 5 19,.s 6]<|ri 20 [.M 6,.u 21] 22 (rr 22 [.L 2 3,.O (.bld [.sc (.int .i64 0),.sc (.string ⟨#[]⟩)] []),.O (.eqf [.int .i64,.str] false (.t 23) (.t 24)),.y 25,.i .eql 4 16,.z,.y 29,.c 6 [],.z,.s 2])<|rr 32 [.L 2 3,.L 2 5,.O (.eqf [.int .i64,.str] false (.t 33) (.t 34)),.y 35,.i .eql 4 0,.z,.y 39,.c 6 [],.z,.s 2]
def cf4:=kf0 4 c4_0 [.tmp 2] 43
def Zca:Zar:=rs 0 [.o 2 (.box 28 (.c (.agg [.sc (.int .i64 0),.sc (.string ⟨#[]⟩)]))),.K 3]<|rs 13 [.M 0,.C 28 [.t 14,.c (.sc (.int .u8 32))],.s 4]<|ri 15 [.M 4,.O (.ixa 1 (.t 16) (ik 0)),.l 1 17,.O (.bin .eql (.t 18) (.c (.sc (.string ⟨#[114,97,119]⟩))))] 19 (ri 19 [.R 4,.B .neq 21 3] 22 (rr 22 [.O (.bld [.sc (.int .i64 0),.sc (.string ⟨#[]⟩)] []),.Z 2 2 23,.K 3])<|rs 24 [.M 4,.O (.ixa 1 (.t 25) (ik 1)),.l 1 26,.c 29 [27],.s 24,.e 24 0,.e 24 1,.m 5 29,.s 6]<|rs 31 [.M 4,.O (.ixa 1 (.t 32) (ik 2)),.l 1 33,.c 9 [34],.s 31,.e 31 0,.e 31 1,.m 7 36,.s 8]<|ri 37 [.M 6,.u 38,.h 39,.M 8,.u 41,.z] 43 (rr 43 [.O (.bld [.sc (.int .i64 0),.sc (.string ⟨#[]⟩)] []),.Z 2 2 44,.K 3])<|rr 44 [.M 5,.M 7,.O (.bld [.sc (.int .i64 0),.sc (.string ⟨#[]⟩)] [(0,(1,.t 45)),(1,(1,.t 46))]),.Z 2 2 47,.T 3])<|rs 48 [.M 4,.c 30 [49],.s 48,.e 48 0,.e 48 1,.e 48 2,.m 9 51,.m 10 52,.s 11]<|ri 53 [.M 11,.u 54] 55 (rr 55 [.O (.bld [.sc (.int .i64 0),.sc (.string ⟨#[]⟩)] []),.Z 2 2 56,.K 3])<|ri 56 [.i .eql 9 1] 58 (rs 59 [.M 10,.c 31 [60],.s 59,.e 59 0,.e 59 1,.o 12 (.box 76 (.c (.agg [.sl .full [],.sl .full []]))),.Z 2 12 62,.s 13]<|rs 63 [.L 2 12,.c 32 [64],.O (.bin .add (.c (.sc (.string ⟨#[99,114,101,97,116,101]⟩))) (.t 65)),.M 0,.b .neq 66 67]<|.cond (.t 68) (rr 68 [.O (.bld [.sc (.int .i64 0),.sc (.string ⟨#[]⟩)] []),.Z 2 2 69,.K 3])<|.skip)<|rr 69 [.M 9,.M 10,.O (.bld [.sc (.int .i64 0),.sc (.string ⟨#[]⟩)] [(0,(1,.t 70)),(1,(1,.t 71))]),.Z 2 2 72,.T 3]
def cf12:=kf0 12 Zca [(.cell 2 true 2),.tmp 3] 73
def c28_1:Zar:=rv 0 7 [.M 7,.M 0,.O (.len true (.t 9)),.b .lss 8 10] 11<|.seq (.blk 1<|rs 13 [.M 0,.M 7,.O (.ixs (.t 14) (.t 15)),.M 1,.b .eql 16 17]<|.cond (.t 18) (rs 18 [.M 5,.M 0,.M 6,.M 7,.O (.slS (.t 20) (some (.t 21)) (some (.t 22))),.A 9 1 16 19 23,.s 5]<|ry 25 [.i .add 7 1,.s 6])<|.skip)<|ry 11 [.i .add 7 1,.s 7]
def Zl6:Zar:=rs 0 [.D 4]<|rs 0 [.D 5]<|rs 5 [.J 0]<|.seq (rs 6 [.J 0]<|c28_1)<|rr 27 [.M 5,.M 0,.M 6,.O (.slS (.t 29) (some (.t 30)) none),.A 9 1 16 28 31,.s 4]
def cf28:=kf0 28 Zl6 [.tmp 4] 34
def c29_1:Zar:=rv 0 18 [.M 6,.M 0,.O (.len true (.t 20)),.b .lss 19 21] 22<|.seq (.blk 1<|ri 24 [.M 0,.M 6,.O (.ixs (.t 25) (.t 26)),.O (.bin .lss (.t 27) (.c (.sc (.int .u8 48)))),.h 28,.M 0,.M 6,.O (.ixs (.t 30) (.t 31)),.O (.bin .gtr (.t 32) (.c (.sc (.int .u8 57)))),.z] 34 (rr 0 [.j 2 0,.K 3])<|ry 34 [.i .mul 5 10,.M 0,.M 6,.O (.ixs (.t 37) (.t 38)),.O (.bin .sub (.t 39) (.c (.sc (.int .u8 48)))),.O (.cnv .i64 (.t 40)),.b .add 36 41,.s 5])<|ry 22 [.i .add 6 1,.s 6]
def ZoU:Zar:=rs 0 [.j 2 0,.K 3]<|ri 6 [.M 0,.O (.len true (.t 7)),.B .gtr 8 20] 9 (rr 0 [.j 2 0,.K 3])<|rs 3 [.J 0]<|ri 9 [.M 0,.O (.len true (.t 10)),.B .gtr 11 0,.y 12,.M 0,.O (.ixs (.t 14) (ik 0)),.O (.bin .eql (.t 15) (.c (.sc (.int .u8 45)))),.z] 17 (ry 3 [.J 1])<|rs 4 [.J 0]<|.seq (rs 17 [.M 4,.s 6]<|c29_1)<|ri 42 [.i .eql 4 1] 44 (ry 44 [.M 5,.O (.un .neg (.t 45)),.s 5])<|rr 46 [.M 5,.M 5,.c 39 [48],.M 0,.b .eql 49 50,.m 2 47,.s 3]
def cf29:=kf0 29 ZoU [.tmp 2,.tmp 3] 52
def c30_1:Zar:=rl 1 44 45 (.t 43) 58<|.blk 2<|rs 45 [.Y 1 42 44,.s 9]<|rs 48 [.M 9,.c 54 [49],.s 48,.e 48 0,.e 48 1,.m 10 51,.s 11]<|ri 52 [.M 11,.u 53] 54 (rr 0 [.j 2 0,.o 3 (.mv (.c (.sc (.string ⟨#[]⟩)))),.K 4])<|ry 54 [.M 7,.M 10,.b .add 55 56,.s 7]
def c30_2:Zar:=rl 3 66 67 (.t 65) 80<|.blk 4<|rs 67 [.Y 1 64 66,.s 14]<|rs 70 [.M 14,.c 55 [71],.s 70,.e 70 0,.e 70 1,.m 15 73,.s 16]<|ri 74 [.M 16,.u 75] 76 (rr 0 [.j 2 0,.o 3 (.mv (.c (.sc (.string ⟨#[]⟩)))),.K 4])<|ry 76 [.M 12,.M 15,.b .add 77 78,.s 12]
def ZE3:Zar:=rs 0 [.j 2 0,.o 3 (.mv (.c (.sc (.string ⟨#[]⟩)))),.K 4]<|.seq (rs 16 [.M 0,.O (.ixa 1 (.t 17) (ik 0)),.l 1 18]<|.blk 0<|rs 20 [.O (.bin .eql (.t 19) (.c (.sc (.string ⟨#[99,114,101,97,116,101]⟩)))),.s 20]<|.cond (.t 20) (rs 21 [.M 0,.O (.slc 1 (.t 22) (some (ik 1)) none none),.c 50 [23],.o 5 (.box 76 (.c (.agg [.sl .full [],.sl .full []]))),.Z 2 5 24]<|.seq (.drw [ip (io 25 (.ld 2 true (.t 5))),ip (io 27 (.ld 2 true (.t 5))),(io 26 (.call (jf 51) [.t 25]),[io 27 (.ld 2 true (.t 5))]),ip (io 28 (.call (jf 52) [.t 27])),ip (io 29 (.bin .eql (.t 28) (ik 0))),ip (jm 2 1),ip (im 3 26),ip (im 4 29)])<|.ret)<|.seq (rs 30 [.O (.bin .eql (.t 19) (.c (.sc (.string ⟨#[108,111,97,100]⟩)))),.s 30]<|.cond (.t 30) .skip<|ry 31 [.O (.bin .eql (.t 19) (.c (.sc (.string ⟨#[109,101,114,103,101]⟩)))),.s 30])<|.cond (.t 30) (rs 5 [.J 2]<|ri 32 [.M 0,.O (.ixa 1 (.t 33) (ik 0)),.l 1 34,.O (.bin .eql (.t 35) (.c (.sc (.string ⟨#[109,101,114,103,101]⟩))))] 36 (ry 5 [.J 3])<|rs 36 [.R 0,.B .sub 38 1,.c 53 [39],.s 7]<|.seq (rs 40 [.M 0,.O (.slc 1 (.t 41) (some (ik 1)) none none),.n 42,.J 0]<|c30_1)<|rr 58 [.M 6,.M 7,.m 2 59,.s 3,.T 4])<|rs 61 [.O (.bin .eql (.t 19) (.c (.sc (.string ⟨#[97,115,107]⟩)))),.s 61]<|.cond (.t 61) (rs 11 [.O (.mv (.c (.sc (.string ⟨#[]⟩))))]<|.seq (rs 62 [.M 0,.O (.slc 1 (.t 63) (some (ik 1)) none none),.n 64,.J 0]<|c30_2)<|rr 80 [.M 12,.j 2 5,.s 3,.T 4])<|rs 82 [.O (.bin .eql (.t 19) (.c (.sc (.string ⟨#[114,101,98,117,105,108,100]⟩)))),.s 82]<|.cond (.t 82) (rr 83 [.R 0,.B .eql 85 1,.j 2 4,.o 3 (.mv (.c (.sc (.string ⟨#[]⟩)))),.s 4])<|rs 87 [.O (.bin .eql (.t 19) (.c (.sc (.string ⟨#[115,116,97,116,115]⟩)))),.s 87]<|.cond (.t 87) (rr 88 [.R 0,.B .eql 90 1,.j 2 6,.o 3 (.mv (.c (.sc (.string ⟨#[]⟩)))),.s 4])<|rs 92 [.O (.bin .eql (.t 19) (.c (.sc (.string ⟨#[99,108,111,115,101]⟩)))),.s 92]<|.cond (.t 92) (rr 93 [.R 0,.B .eql 95 1,.j 2 7,.o 3 (.mv (.c (.sc (.string ⟨#[]⟩)))),.s 4])<|.skip)<|rr 0 [.j 2 0,.o 3 (.mv (.c (.sc (.string ⟨#[]⟩)))),.K 4]
def cf30:=kf0 30 ZE3 [.tmp 2,.tmp 3,.tmp 4] 97
def ZoW:Zar:=rs 0 [.o 2 (.box 76 (.c (.agg [.sl .full [],.sl .full []]))),.K 3]<|rs 6 [.M 0,.O (.bld [.sc (.string ⟨#[]⟩),.sc (.int .i64 0),.sc (.int .i64 0)] [(0,(1,.t 7))]),.c 56 [8],.s 6,.e 6 0,.e 6 1,.o 4 (.box 94 (.c zp0)),.o 5 (.box 76 (.c (.agg [.sl .full [],.sl .full []]))),.Z 3 4 10,.Z 2 5 11]<|ri 11 [.L 3 4,.c 57 [12],.B .neq 13 0] 14 (rr 14 [.O (.bld [.sl .full [],.sl .full []] []),.Z 2 2 15,.K 3])<|rr 15 [.L 2 5,.Z 2 2 16,.T 3]
def cf31:=kf0 31 ZoW [(.cell 2 true 2),.tmp 3] 17
def c32_3:Zar:=rl 4 46 47 (.t 45) 90<|.blk 5<|rs 47 [.M 46,.s 7]<|rs 48 [.M 3,.O (.bin .add (.t 49) (.c (.sc (.string ⟨#[32,46]⟩)))),.F 1 5,.M 6,.x 3 52 53,.F 1 54,.M 7,.Y 1 56 57,.c 10 [59],.b .add 50 60,.s 3]<|rs 61 [.i .add 6 1,.N 1 5,.b .lss 63 66]<|.cond (.t 67) (rd 67 [.M 3,.O (.bin .add (.t 68) (.c (.sc (.string ⟨#[62]⟩)))),.F 1 5,.i .add 6 1,.x 3 71 73,.F 1 74,.F 1 5,.M 6,.x 3 78 79,.F 2 80,.M 7,.Y 1 82 83,.Y 1 76 85,.c 10 [87],.b .add 69 88,.s 3])<|.skip
def c32_2:Zar:=rv 2 25 [.i .geq 6 0] 27<|.seq (.blk 3<|rs 29 [.M 3,.O (.bin .add (.t 30) (.c (.sc (.string ⟨#[32,94]⟩)))),.F 1 5,.M 6,.x 3 33 34,.F 0 35,.b .add 31 37,.s 3]<|rs 38 [.F 1 5,.M 6,.x 3 40 41,.N 1 42,.J 0]<|c32_3)<|ry 27 [.i .sub 6 1,.s 6]
def c32_1:Zar:=rl 0 13 14 (.t 12) 91<|.blk 1<|rs 14 [.X 2 11 13,.o 5 (.box 100 (.c (.agg [.sc (.string ⟨#[]⟩),.sl .full []]))),.Z 2 5 16]<|rs 16 [.M 3,.O (.bin .add (.t 17) (.c (.sc (.string ⟨#[32,64]⟩)))),.F 0 5,.b .add 18 20,.s 3]<|rs 21 [.N 1 5,.B .sub 24 1,.s 6]<|c32_2
def c32_4:Zar:=rl 6 95 96 (.t 94) 103<|.blk 7<|rs 96 [.Y 1 93 95,.s 9]<|ry 98 [.M 3,.O (.bin .add (.t 99) (.c (.sc (.string ⟨#[32,43]⟩)))),.M 9,.b .add 100 101,.s 3]
def Znk:Zar:=rs 1 [.v 1 76 0,.O (.mv (.c (.sc (.string ⟨#[]⟩))))]<|rs 2 [.O (.mv (.c (.sc (.string ⟨#[]⟩))))]<|.seq (rs 9 [.N 0 1,.J 0]<|c32_1)<|.seq (rs 91 [.N 1 1,.J 0]<|c32_4)<|rr 103 [.M 3,.s 2]
def cf32:=kf0 32 Znk [.tmp 2] 105
def c51_1:Zar:=rl 0 15 16 (.t 14) 23<|.blk 1<|rs 16 [.X 2 13 15,.o 5 (.box 100 (.c (.agg [.sc (.string ⟨#[]⟩),.sl .full []]))),.Z 2 5 18]<|ry 18 [.M 3,.L 2 5,.c 81 [20],.b .add 19 21,.s 3]
def c51_2:Zar:=rl 2 33 34 (.t 32) 41<|.blk 3<|rs 34 [.Y 1 31 33,.s 7]<|ry 36 [.M 3,.M 7,.c 82 [38],.b .add 37 39,.s 3]
def Zgb:Zar:=rs 1 [.v 1 76 0,.O (.mv (.c (.sc (.string ⟨#[]⟩))))]<|rs 7 [.N 0 1,.c 53 [10],.s 3]<|.seq (rs 11 [.N 0 1,.J 0]<|c51_1)<|rs 23 [.M 3,.N 1 1,.c 53 [27],.b .add 24 28,.s 3]<|.seq (rs 29 [.N 1 1,.J 0]<|c51_2)<|rr 41 [.M 3,.s 2]
def cf51:=kf0 51 Zgb [.tmp 2] 43
def c52_2:Zar:=rv 2 32 [.M 5,.M 3,.b .lss 33 34] 35<|.seq (.blk 3<|rt 37 [.F 0 1,.M 5,.x 2 39 40,.F 0 41,.F 0 1,.M 3,.x 2 45 46,.F 0 47,.b .eql 43 49]<|.cond (.t 50) (rr 1 [.J 11])<|.skip)<|ry 35 [.i .add 5 1,.s 5]
def c52_1:Zar:=rl 0 21 22 (.t 20) 51<|.blk 1<|rs 22 [.M 21,.s 3]<|rs 23 [.F 0 1,.M 3,.X 2 25 26,.c 83 [28],.s 4]<|ri 29 [.i .neq 4 0] 31 (rr 31 [.M 4,.s 2])<|rs 4 [.J 0]<|c52_2
def c52_4:Zar:=rv 6 74 [.M 7,.M 6,.b .lss 75 76] 77<|.seq (.blk 7<|rt 79 [.F 1 1,.M 7,.Y 1 81 82,.F 1 1,.M 6,.Y 1 86 87,.b .eql 84 89]<|.cond (.t 90) (rr 1 [.J 11])<|.skip)<|ry 77 [.i .add 7 1,.s 7]
def c52_3:Zar:=rl 4 65 66 (.t 64) 91<|.blk 5<|rs 66 [.M 65,.s 6]<|ri 67 [.F 1 1,.M 6,.Y 1 69 70,.c 84 [72],.u 73] 74 (rr 1 [.J 2])<|rs 6 [.J 0]<|c52_4
def Zjp:Zar:=rs 1 [.v 1 76 0,.J 0]<|ri 7 [.N 0 1,.B .lss 10 1,.h 11,.N 0 1,.B .gtr 15 16,.z] 17 (rr 1 [.J 5])<|.seq (rs 17 [.N 0 1,.J 0]<|c52_1)<|ri 51 [.N 1 1,.B .lss 54 1,.h 55,.N 1 1,.B .gtr 59 3,.z] 61 (rr 1 [.J 5])<|.seq (rs 61 [.N 1 1,.J 0]<|c52_3)<|rr 1 [.J 0]
def cf52:=kf0 52 Zjp [.tmp 2] 92
def Zdx:Zar:=rs 1 [.O (.mv (.c (.sc (.string ⟨#[]⟩))))]<|ri 2 [.i .lss 0 0] 4 (ry 0 [.j 0 0])<|rr 4 [.M 0,.O (.cnv .u64 (.t 5)),.c 85 [6],.s 2]
def cf53:=kf0 53 Zdx [.tmp 2] 8
def c54_1:Zar:=rl 0 30 31 (.t 29) 38<|.blk 1<|rs 31 [.Y 1 28 30,.s 9]<|ry 33 [.M 7,.M 9,.c 82 [35],.b .add 34 36,.s 7]
def c54_2:Zar:=rl 2 49 50 (.t 48) 64<|.blk 3<|rs 50 [.Y 1 47 49,.s 11]<|rs 53 [.M 11,.c 29 [54],.s 53,.e 53 0,.e 53 1,.m 12 56,.s 13]<|ri 57 [.M 13,.u 58] 59 (rr 0 [.o 2 (.mv (.c (.sc (.string ⟨#[]⟩)))),.K 3])<|ry 59 [.M 7,.M 12,.c 87 [61],.b .add 60 62,.s 7]
def Zdn:Zar:=rs 0 [.o 2 (.mv (.c (.sc (.string ⟨#[]⟩)))),.K 3]<|rs 13 [.M 0,.C 28 [.t 14,.c (.sc (.int .u8 61))],.s 4]<|ri 15 [.R 4,.B .neq 17 2] 18 (rr 0 [.o 2 (.mv (.c (.sc (.string ⟨#[]⟩)))),.K 3])<|rs 19 [.M 4,.O (.ixa 1 (.t 20) (ik 0)),.l 1 21,.c 86 [22],.s 19,.e 19 0,.e 19 1,.m 5 24,.s 6]<|ri 25 [.M 6,.u 26] 27 (rr 0 [.o 2 (.mv (.c (.sc (.string ⟨#[]⟩)))),.K 3])<|rs 6 [.O (.mv (.c (.sc (.string ⟨#[]⟩))))]<|.seq (rs 27 [.R 5,.J 0]<|c54_1)<|ri 38 [.M 4,.O (.ixa 1 (.t 39) (ik 1)),.l 1 40,.O (.bin .eql (.t 41) (.c (.sc (.string ⟨#[]⟩))))] 42 (rr 42 [.M 7,.s 2,.T 3])<|.seq (rs 43 [.M 4,.O (.ixa 1 (.t 44) (ik 1)),.l 1 45,.C 28 [.t 46,.c (.sc (.int .u8 44))],.n 47,.J 0]<|c54_2)<|rr 64 [.M 7,.s 2,.T 3]
def cf54:=kf0 54 Zdn [.tmp 2,.tmp 3] 66
def ZkZ:Zar:=rs 0 [.o 2 (.mv (.c (.sc (.string ⟨#[]⟩)))),.K 3]<|rs 13 [.M 0,.C 28 [.t 14,.c (.sc (.int .u8 47))],.s 4]<|rs 4 [.J 0]<|ri 15 [.R 4,.B .eql 17 2] 18 (ry 18 [.M 4,.O (.ixa 1 (.t 19) (ik 1)),.l 1 20,.c 88 [21],.B .add 22 1,.s 5])<|ri 23 [.R 4,.B .gtr 25 2,.h 26,.R 4,.B .eql 29 2,.y 30,.i .eql 5 0,.z,.z] 35 (rr 0 [.o 2 (.mv (.c (.sc (.string ⟨#[]⟩)))),.K 3])<|rs 35 [.M 5,.c 53 [36],.s 6]<|ri 37 [.M 4,.O (.ixa 1 (.t 38) (ik 0)),.l 1 39,.O (.bin .eql (.t 40) (.c (.sc (.string ⟨#[42]⟩))))] 41 (rr 41 [.C 53 [ik 0],.M 6,.b .add 42 43,.s 2,.T 3])<|rs 44 [.M 4,.O (.ixa 1 (.t 45) (ik 0)),.l 1 46,.C 28 [.t 47,.c (.sc (.int .u8 61))],.s 7]<|ri 48 [.R 7,.B .eql 50 2,.y 51,.M 7,.O (.ixa 1 (.t 53) (ik 0)),.l 1 54,.c 88 [55],.B .geq 56 0,.z] 58 (rs 59 [.M 7,.O (.ixa 1 (.t 60) (ik 1)),.l 1 61,.c 86 [62],.s 59,.e 59 0,.e 59 1,.m 8 64,.s 9]<|.seq (.drw [ip (im 67 7),ip (io 68 (.ixa 1 (.t 67) (ik 0))),ip (io 69 (.ld 1 false (.t 68))),ip (im 73 8),ip (im 76 6),ip (im 78 9),(io 66 (.call (jf 53) [ik 2]),[io 69 (.ld 1 false (.t 68))]),ip (io 70 (.call (jf 88) [.t 69])),ip (io 71 (.call (jf 53) [.t 70])),ip (io 72 (.bin .add (.t 66) (.t 71))),ip (io 74 (.call (jf 89) [.t 73])),ip (io 75 (.bin .add (.t 72) (.t 74))),ip (io 77 (.bin .add (.t 75) (.t 76))),ip (im 79 78),ip (ig 79 80 (.mv (.t 8))),ip (ig 79 81 (.call (jf 90) [.t 80])),ip (ig 79 82 (.bin .eql (.t 81) (ik 0))),ip (io 83 (.pick (.t 79) (.t 82) (ib false))),ip (im 2 77),ip (im 3 83)])<|.ret)<|rs 83 [.M 4,.O (.ixa 1 (.t 84) (ik 0)),.l 1 85,.C 28 [.t 86,.c (.sc (.int .u8 126))],.s 7]<|ri 87 [.R 7,.B .neq 89 3,.h 90,.M 7,.O (.ixa 1 (.t 92) (ik 0)),.l 1 93,.c 88 [94],.B .lss 95 0,.z] 97 (rr 0 [.o 2 (.mv (.c (.sc (.string ⟨#[]⟩)))),.K 3])<|rs 98 [.M 7,.O (.ixa 1 (.t 99) (ik 1)),.l 1 100,.c 9 [101],.s 98,.e 98 0,.e 98 1,.m 10 103,.s 11]<|rs 105 [.M 7,.O (.ixa 1 (.t 106) (ik 2)),.l 1 107,.c 9 [108],.s 105,.e 105 0,.e 105 1,.m 12 110,.s 13]<|.seq (.drw [ip (im 113 7),ip (io 114 (.ixa 1 (.t 113) (ik 0))),ip (io 115 (.ld 1 false (.t 114))),ip (im 119 10),ip (im 122 12),ip (im 125 6),ip (im 127 11),(io 112 (.call (jf 53) [ik 1]),[io 115 (.ld 1 false (.t 114))]),ip (io 116 (.call (jf 88) [.t 115])),ip (io 117 (.call (jf 53) [.t 116])),ip (io 118 (.bin .add (.t 112) (.t 117))),ip (io 120 (.call (jf 82) [.t 119])),ip (io 121 (.bin .add (.t 118) (.t 120))),ip (io 123 (.call (jf 82) [.t 122])),ip (io 124 (.bin .add (.t 121) (.t 123))),ip (io 126 (.bin .add (.t 124) (.t 125))),ip (im 128 127),ip (ig 128 129 (.mv (.t 13))),ip (io 130 (.pick (.t 128) (.t 129) (ib false))),ip (im 2 126),ip (im 3 130)])<|.ret
def cf55:=kf0 55 ZkZ [.tmp 2,.tmp 3] 131
def c56_1:Zar:=rv 0 16 [.M 6,.M 5,.b .lss 17 18,.y 19,.F 2 1,.B .eql 22 0,.z] 24<|.seq (.blk 1<|rs 27 [.L 3 1,.c 92 [28],.s 27,.e 27 0,.e 27 1,.o 7 (.box 94 (.c zp0)),.o 8 (.box 100 (.c (.agg [.sc (.string ⟨#[]⟩),.sl .full []]))),.Z 3 7 30,.Z 2 8 31]<|rs 31 [.L 3 7,.Z 3 1 32]<|ry 32 [.F 0 4,.L 2 8,.A 100 2 40 34 35,.f 0 4,.Z 1 38 37])<|ry 24 [.i .add 6 1,.s 6]
def c56_2:Zar:=rv 2 43 [.M 9,.M 5,.b .lss 44 45,.y 46,.F 2 1,.B .eql 49 0,.z] 51<|.seq (.blk 3<|rs 54 [.L 3 1,.C 93 [.t 55,ik 12],.s 54,.e 54 0,.e 54 1,.o 10 (.box 94 (.c zp0)),.Z 3 10 57,.s 11]<|rs 58 [.L 3 10,.Z 3 1 59]<|ry 59 [.F 1 4,.M 11,.A 9 1 16 61 62,.f 1 4,.Z 1 65 64])<|ry 51 [.i .add 9 1,.s 9]
def Zfd:Zar:=rs 1 [.v 1 94 0,.O (.box 94 (.c zp0)),.O (.box 76 (.c (.agg [.sl .full [],.sl .full []])))]<|rs 3 [.O (.box 76 (.c (.agg [.sl .full [],.sl .full []])))]<|rs 12 [.L 3 1,.C 91 [.t 13,ik 16],.s 12,.e 12 0,.e 12 1,.Z 3 1 15,.s 5]<|.seq (rs 5 [.J 0]<|c56_1)<|rs 39 [.L 3 1,.C 91 [.t 40,ik 3],.s 39,.e 39 0,.e 39 1,.Z 3 1 42,.s 5]<|.seq (rs 8 [.J 0]<|c56_2)<|ri 65 [.F 2 1,.B .eql 67 0] 68 (ry 68 [.L 2 4,.c 52 [69],.f 2 1,.Z 1 71 70])<|.seq (.drw [ip (io 72 (.ld 3 true (.t 1))),ip (io 73 (.ld 2 true (.t 4))),(iz (.st 3 (.t 2) (.t 72)),[io 73 (.ld 2 true (.t 4))]),ip (iz (.st 2 (.t 3) (.t 73)))])<|.ret
def cf56:=kf0 56 Zfd [(.cell 3 true 2),(.cell 2 true 3)] 74
def ZkX:Zar:=rs 1 [.v 1 94 0,.J 0]<|rr 2 [.L 3 1,.F 1 1,.F 0 1,.O (.len true (.t 7)),.b .eql 5 8,.C 94 [.t 3,.t 9,ik 3],.O (.fld 2 1 false (.t 10)),.s 2]
def cf57:=kf0 57 ZkX [.tmp 2] 12
def ZuL:Zar:=rs 3 [.J 0]<|rs 7 [.M 1,.c 9 [8],.s 7,.e 7 0,.e 7 1,.m 5 10,.s 6]<|ri 11 [.M 6,.u 12] 13 (rr 3 [.J (-1)])<|rr 13 [.M 0,.M 5,.c 116 [14,15],.s 4]
def cf80:=kf0 80 ZuL [.tmp 4] 17
def c81_1:Zar:=rv 0 16 [.i .geq 4 0] 18<|.seq (.blk 1<|ry 20 [.M 3,.F 1 1,.M 4,.X 3 23 24,.c 117 [26],.b .add 21 27,.s 3])<|ry 18 [.i .sub 4 1,.s 4]
def c81_0:Zar:=rs 1 [.v 1 100 0,.O (.mv (.c (.sc (.string ⟨#[]⟩))))]<|.seq (.drw [ip (io 5 (.fla 0 (.t 1))),ip (io 6 (.ld 1 false (.t 5))),ip (io 8 (.fla 1 (.t 1))),ip (io 9 (.ld 1 false (.t 8))),ip (io 10 (.len false (.t 9))),(io 7 (.call (jf 82) [.t 6]),[io 9 (.ld 1 false (.t 8))]),ip (io 11 (.call (jf 53) [.t 10])),ip (io 12 (.bin .add (.t 7) (.t 11))),ip (im 3 12)])<|.seq (rs 12 [.N 1 1,.B .sub 15 1,.s 4]<|c81_1)<|rr 28 [.M 3,.s 2]
def cf81:=kf0 81 c81_0 [.tmp 2] 30
def Zt0:Zar:=rs 1 [.O (.mv (.c (.sc (.string ⟨#[]⟩))))]<|rr 2 [.M 0,.O (.len true (.t 3)),.c 53 [4],.M 0,.b .add 5 6,.s 2]
def cf82:=kf0 82 Zt0 [.tmp 2] 8
def c83_2:Zar:=rv 2 37 [.M 5,.M 3,.b .lss 38 39] 40<|.seq (.blk 3<|rt 42 [.F 1 1,.M 5,.x 3 44 45,.F 0 46,.F 1 1,.M 3,.x 3 50 51,.F 0 52,.b .eql 48 54]<|.cond (.t 55) (rr 1 [.J 11])<|.skip)<|ry 40 [.i .add 5 1,.s 5]
def c83_1:Zar:=rl 0 23 24 (.t 22) 56<|.blk 1<|rs 24 [.M 23,.s 3]<|.seq (.drw [ip (io 26 (.fla 1 (.t 1))),ip (io 27 (.ld 1 false (.t 26))),ip (im 28 3),ip (io 29 (.ixa 3 (.t 27) (.t 28))),ip (io 30 (.ld 3 true (.t 29))),ip (io 31 (.ld 2 true (.t 1))),ip (im 32 3),(io 33 (.call (jf 119) [.t 31,.t 32]),[io 27 (.ld 1 false (.t 26)),io 30 (.ld 3 true (.t 29))]),ip (io 34 (.call (jf 118) [.t 30,.t 33])),ip (im 4 34)])<|ri 34 [.i .neq 4 0] 36 (rr 36 [.M 4,.s 2])<|rs 4 [.J 0]<|c83_2
def c83_0:Zar:=rs 1 [.v 1 100 0,.J 0]<|ri 5 [.F 0 1,.c 84 [7],.u 8] 9 (rr 1 [.J 2])<|ri 9 [.N 1 1,.B .lss 12 1,.h 13,.N 1 1,.B .gtr 17 4,.z] 19 (rr 1 [.J 5])<|.seq (rs 19 [.N 1 1,.J 0]<|c83_1)<|rr 1 [.J 0]
def cf83:=kf0 83 c83_0 [.tmp 2] 57
def c84_1:Zar:=rv 0 12 [.M 3,.M 0,.O (.len true (.t 14)),.b .lss 13 15] 16<|.seq (.blk 1<|rs 18 [.M 0,.M 3,.O (.ixs (.t 19) (.t 20)),.s 4]<|rs 21 [.M 4,.O (.bin .geq (.t 22) (.c (.sc (.int .u8 97)))),.y 23,.M 4,.O (.bin .leq (.t 25) (.c (.sc (.int .u8 122)))),.z,.h 27,.M 4,.O (.bin .geq (.t 29) (.c (.sc (.int .u8 48)))),.y 30,.M 4,.O (.bin .leq (.t 32) (.c (.sc (.int .u8 57)))),.z,.z,.h 35,.M 4,.O (.bin .eql (.t 37) (.c (.sc (.int .u8 95)))),.z,.u 39]<|.cond (.t 40) (rr 0 [.K 2])<|.skip)<|ry 16 [.i .add 3 1,.s 3]
def c84_0:Zar:=rs 0 [.K 2]<|ri 4 [.M 0,.O (.len true (.t 5)),.B .lss 6 1,.h 7,.M 0,.O (.len true (.t 9)),.B .gtr 10 12,.z] 12 (rr 0 [.K 2])<|.seq (rs 2 [.J 0]<|c84_1)<|rr 0 [.T 2]
def cf84:=kf0 84 c84_0 [.tmp 2] 41
def c85_1:Zar:=rv 0 7 [.M 5,.M 3,.b .lss 8 9] 10<|.seq (.blk 1<|rs 12 [.M 0,.O (.bin .rem (.t 13) (.c (.sc (.int .u64 256)))),.O (.cnv .u8 (.t 14)),.S 1 15,.O (.sob (.t 16)),.M 4,.b .add 17 18,.s 4]<|ry 19 [.M 0,.O (.bin .quo (.t 20) (.c (.sc (.int .u64 256)))),.s 0])<|ry 10 [.i .add 5 1,.s 5]
def c85_0:Zar:=rs 1 [.O (.mv (.c (.sc (.string ⟨#[]⟩))))]<|rs 5 [.M 0,.c 120 [6],.s 3]<|rs 3 [.O (.mv (.c (.sc (.string ⟨#[]⟩))))]<|.seq (rs 4 [.J 1]<|c85_1)<|rr 21 [.M 3,.c 121 [22],.M 0,.O (.cnv .i64 (.t 24)),.b .add 23 25,.O (.cnv .u8 (.t 26)),.S 1 27,.O (.sob (.t 28)),.M 4,.b .add 29 30,.s 2]
def cf85:=kf0 85 c85_0 [.tmp 2] 32
def c86_1:Zar:=rl 0 14 15 (.t 13) 29<|.blk 1<|rs 15 [.Y 1 12 14,.s 6]<|rs 18 [.M 6,.c 9 [19],.s 18,.e 18 0,.e 18 1,.m 7 21,.s 8]<|ri 22 [.M 8,.u 23] 24 (rr 0 [.D 2,.K 3])<|ry 24 [.M 4,.M 7,.A 9 1 16 25 26,.s 4]
def Zrg:Zar:=rs 0 [.D 2,.K 3]<|ri 8 [.M 0,.O (.bin .eql (.t 9) (.c (.sc (.string ⟨#[]⟩))))] 10 (rr 0 [.D 2,.T 3])<|rs 0 [.D 4]<|.seq (rs 10 [.M 0,.C 28 [.t 11,.c (.sc (.int .u8 44))],.n 12,.J 0]<|c86_1)<|rr 29 [.M 4,.s 2,.T 3]
def cf86:=kf0 86 Zrg [.tmp 2,.tmp 3] 31
def c87_0:Zar:=rs 1 [.O (.mv (.c (.sc (.string ⟨#[]⟩))))]<|rr 2 [.M 0,.c 122 [3],.c 85 [4],.s 2]
def cf87:=kf0 87 c87_0 [.tmp 2] 6
def ZdA:Zar:=rs 1 [.J 0]<|ri 2 [.M 0,.O (.len true (.t 3)),.B .neq 4 1,.h 5,.M 0,.O (.ixs (.t 7) (ik 0)),.O (.bin .lss (.t 8) (.c (.sc (.int .u8 48)))),.z,.h 10,.M 0,.O (.ixs (.t 12) (ik 0)),.O (.bin .gtr (.t 13) (.c (.sc (.int .u8 57)))),.z] 15 (rr 1 [.J (-1)])<|rr 15 [.M 0,.O (.ixs (.t 16) (ik 0)),.O (.bin .sub (.t 17) (.c (.sc (.int .u8 48)))),.O (.cnv .i64 (.t 18)),.s 2]
def cf88:=kf0 88 ZdA [.tmp 2] 20
def c89_1:Zar:=rv 0 9 [.M 5,.R 0,.b .lss 10 12] 13<|.seq (.blk 1<|rs 15 [.M 4,.M 0,.M 5,.Y 1 17 18,.c 123 [16,20],.s 6]<|.seq (.drw [ip (im 22 3),ip (im 23 6),ip (im 26 0),ip (im 27 5),ip (io 28 (.ixa 1 (.t 26) (.t 27))),ip (io 29 (.ld 1 false (.t 28))),ip (im 30 6),ip (io 31 (.slS (.t 29) (some (.t 30)) none)),(io 24 (.call (jf 53) [.t 23]),[io 29 (.ld 1 false (.t 28))]),ip (io 25 (.bin .add (.t 22) (.t 24))),ip (io 32 (.call (jf 82) [.t 31])),ip (io 33 (.bin .add (.t 25) (.t 32))),ip (im 3 33)])<|ry 33 [.M 0,.M 5,.Y 1 34 35,.s 4])<|ry 13 [.i .add 5 1,.s 5]
def c89_0:Zar:=rs 1 [.O (.mv (.c (.sc (.string ⟨#[]⟩))))]<|rs 6 [.R 0,.c 53 [8],.s 3]<|rs 3 [.O (.mv (.c (.sc (.string ⟨#[]⟩))))]<|.seq (rs 4 [.J 0]<|c89_1)<|rr 37 [.M 3,.s 2]
def cf89:=kf0 89 c89_0 [.tmp 2] 39
def c90_1:Zar:=rv 0 3 [.M 3,.R 0,.b .lss 4 6] 7<|.seq (.blk 1<|ri 9 [.M 0,.M 3,.Y 1 10 11,.c 124 [13],.u 14] 15 (rr 1 [.J 2])<|rt 15 [.i .gtr 3 0,.y 17,.M 0,.M 3,.Y 1 19 20,.M 0,.i .sub 3 1,.Y 1 23 25,.b .leq 22 27,.z]<|.cond (.t 29) (rr 1 [.J 4])<|.skip)<|ry 7 [.i .add 3 1,.s 3]
def Ze1:Zar:=rs 1 [.J 0]<|.seq (rs 2 [.J 0]<|c90_1)<|rr 1 [.J 0]
def cf90:=kf0 90 Ze1 [.tmp 2] 30
def c91_0:Zar:=rs 3 [.v 2 94 0,.O (.box 94 (.c zp0)),.J 0]<|rs 7 [.L 3 2,.c 125 [8],.s 7,.e 7 0,.e 7 1,.Z 3 2 10,.s 6]<|ri 11 [.F 2 2,.B .eql 13 0,.y 14,.i .lss 1 0,.h 17,.M 6,.M 1,.O (.cnv .u64 (.t 20)),.b .gtr 19 21,.z,.z] 24 (ry 24 [.f 2 2,.w (.st 1 (.t 25) (ik 5))])<|ri 25 [.F 2 2,.B .neq 27 0] 28 (rr 28 [.L 3 2,.Z 3 4 29,.j 5 0])<|rr 29 [.L 3 2,.M 6,.O (.cnv .i64 (.t 31)),.Z 3 4 30,.s 5]
def cf91:=kf0 91 c91_0 [(.cell 3 true 4),.tmp 5] 33
def c92_1:Zar:=rv 0 20 [.M 7,.M 5,.b .lss 21 22,.y 23,.F 2 1,.B .eql 26 0,.z] 28<|.seq (.blk 1<|rs 31 [.L 3 1,.M 6,.c 126 [32,33],.s 31,.e 31 0,.e 31 1,.o 8 (.box 94 (.c zp0)),.o 9 (.box 102 (.c (.agg [.sc (.string ⟨#[]⟩),.sl .full [],.sl .full []]))),.Z 3 8 35,.Z 3 9 36]<|rs 36 [.L 3 8,.Z 3 1 37]<|rs 37 [.N 1 9,.s 6]<|ry 40 [.L 3 9,.S 3 41,.F 1 4,.a 102 3 64 42 44,.f 1 4,.Z 1 46 45])<|ry 28 [.i .add 7 1,.s 7]
def ZfU:Zar:=rs 1 [.v 1 94 0,.O (.box 94 (.c zp0)),.O (.box 100 (.c (.agg [.sc (.string ⟨#[]⟩),.sl .full []])))]<|rs 3 [.O (.box 100 (.c (.agg [.sc (.string ⟨#[]⟩),.sl .full []])))]<|rs 10 [.L 3 1,.C 93 [.t 11,ik 12],.s 10,.e 10 0,.e 10 1,.Z 3 1 13,.f 0 4,.Z 1 15 14]<|rs 16 [.L 3 1,.C 91 [.t 17,ik 4],.s 16,.e 16 0,.e 16 1,.Z 3 1 19,.s 5]<|rs 5 [.J 0]<|.seq (rs 6 [.J 0]<|c92_1)<|ri 46 [.F 2 1,.B .eql 48 0] 49 (ry 49 [.L 2 4,.c 83 [50],.f 2 1,.Z 1 52 51])<|.seq (.drw [ip (io 53 (.ld 3 true (.t 1))),ip (io 54 (.ld 2 true (.t 4))),(iz (.st 3 (.t 2) (.t 53)),[io 54 (.ld 2 true (.t 4))]),ip (iz (.st 2 (.t 3) (.t 54)))])<|.ret
def cf92:=kf0 92 ZfU [(.cell 3 true 2),(.cell 2 true 3)] 55
def ZHl:Zar:=rs 3 [.v 2 94 0,.O (.box 94 (.c zp0)),.O (.mv (.c (.sc (.string ⟨#[]⟩))))]<|rs 7 [.L 3 2,.M 1,.c 91 [8,9],.s 7,.e 7 0,.e 7 1,.Z 3 2 11,.s 6]<|rr 12 [.L 3 2,.M 6,.c 127 [13,14],.e 15 0,.e 15 1,.Z 3 4 16,.s 5]
def cf93:=kf0 93 ZHl [(.cell 3 true 4),.tmp 5] 18
def ZdX:Zar:=rs 5 [.v 3 94 0,.O (.box 94 (.c zp0))]<|ri 6 [.F 2 3,.B .eql 8 0,.y 9,.M 1,.u 11,.z] 13 (rs 13 [.M 2,.f 2 3,.Z 1 15 14]<|rs 15 [.i .eql 2 0]<|.cond (.t 17) (ry 17 [.f 2 3,.w (.st 1 (.t 18) (ik 3))])<|.skip)<|rr 18 [.L 3 3,.Z 3 6 19]
def cf94:=kf0 94 ZdX [(.cell 3 true 6)] 20
def c116_1:Zar:=rv 0 5 [.M 5,.R 0,.b .lss 6 8] 9<|.seq (.blk 1<|rs 11 [.M 0,.M 5,.Y 1 12 13,.M 1,.b .eql 15 16]<|.cond (.t 17) (rr 17 [.M 5,.s 4])<|.skip)<|ry 9 [.i .add 5 1,.s 5]
def ZqY:Zar:=rs 3 [.J 0]<|.seq (rs 4 [.J 0]<|c116_1)<|rr 3 [.J (-1)]
def cf116:=kf0 116 ZqY [.tmp 4] 19
def c117_1:Zar:=rl 0 16 17 (.t 15) 24<|.blk 1<|rs 17 [.Y 1 14 16,.s 5]<|ry 19 [.M 3,.M 5,.c 53 [21],.b .add 20 22,.s 3]
def ZnZ:Zar:=rs 1 [.v 1 102 0,.O (.mv (.c (.sc (.string ⟨#[]⟩))))]<|.seq (.drw [ip (io 6 (.fla 0 (.t 1))),ip (io 7 (.ld 1 false (.t 6))),ip (io 9 (.fla 1 (.t 1))),ip (io 10 (.ld 1 false (.t 9))),(io 8 (.call (jf 82) [.t 7]),[io 10 (.ld 1 false (.t 9))]),ip (io 11 (.call (jf 89) [.t 10])),ip (io 12 (.bin .add (.t 8) (.t 11))),ip (im 3 12)])<|.seq (rs 12 [.N 2 1,.J 0]<|c117_1)<|rr 24 [.M 3,.s 2]
def cf117:=kf0 117 ZnZ [.tmp 2] 26
def c118_0:Zar:=rs 3 [.v 2 102 0,.J 0]<|ri 5 [.F 0 2,.c 84 [7],.u 8] 9 (rr 3 [.J 2])<|ri 9 [.N 1 2,.B .lss 12 1,.h 13,.N 1 2,.B .gtr 17 200,.z] 19 (rr 3 [.J 5])<|rs 19 [.F 1 2,.c 90 [21],.s 5]<|ri 22 [.i .neq 5 0] 24 (rr 24 [.M 5,.s 4])<|ri 25 [.L 3 2,.M 1,.c 158 [26,27],.u 28] 29 (rr 3 [.J 14])<|rr 3 [.J 0]
def ZFS:=kf0 118 c118_0 [.tmp 4] 30
def Zuv:Zar:=rs 3 [.v 2 100 0,.J 0]<|ri 4 [.i .add 1 1,.N 1 2,.b .geq 6 9] 10 (rr 3 [.J 0])<|rr 10 [.F 1 2,.i .add 1 1,.x 3 12 14,.N 1 15,.s 4]
def cf119:=kf0 119 Zuv [.tmp 4] 19
def c120_1:Zar:=rv 0 3 [.i .lss 3 9,.y 5,.M 0,.M 3,.c 159 [8],.b .geq 7 9,.z] 11<|.blk 1<|ry 11 [.i .add 3 1,.s 3]
def ZvF:Zar:=rs 1 [.J 0]<|rs 2 [.J 1]<|.seq c120_1<|rr 13 [.M 3,.s 2]
def cf120:=kf0 120 ZvF [.tmp 2] 15
def c121_1:Zar:=rv 0 5 [.M 5,.M 0,.b .lss 6 7] 8<|.seq (.blk 1<|rs 10 [.M 3,.M 4,.b .add 11 12,.s 3]<|ry 13 [.i .quo 4 2,.s 4])<|ry 8 [.i .add 5 1,.s 5]
def Zcv:Zar:=rs 1 [.J 0]<|rs 2 [.J 0]<|rs 3 [.J 128]<|.seq (rs 4 [.J 1]<|c121_1)<|rr 15 [.M 3,.s 2]
def cf121:=kf0 121 Zcv [.tmp 2] 17
def ZcM:Zar:=rs 1 [.O (.mv (.c (.sc (.int .u64 0))))]<|ri 2 [.i .geq 0 0] 4 (rr 4 [.M 0,.O (.cnv .u64 (.t 5)),.O (.bin .mul (.c (.sc (.int .u64 2))) (.t 6)),.s 2])<|rr 7 [.i .add 0 1,.O (.un .neg (.t 9)),.O (.cnv .u64 (.t 10)),.O (.bin .mul (.c (.sc (.int .u64 2))) (.t 11)),.O (.bin .add (.t 12) (.c (.sc (.int .u64 1)))),.s 2]
def cf122:=kf0 122 ZcM [.tmp 2] 14
def c123_1:Zar:=.blk 0<|.loop<|.seq (rt 5 [.M 5,.M 0,.O (.len true (.t 7)),.b .lss 6 8,.y 9,.M 5,.M 1,.O (.len true (.t 12)),.b .lss 11 13,.z,.y 15,.M 0,.i .add 5 1,.O (.slS (.t 17) none (some (.t 19))),.M 1,.i .add 5 1,.O (.slS (.t 21) none (some (.t 23))),.b .eql 20 24,.z]<|.cond (.t 26) .skip<|.exit 0)<|.blk 1<|ry 26 [.i .add 5 1,.s 5]
def Ztv:Zar:=rs 3 [.J 0]<|rs 4 [.J 0]<|.seq c123_1<|rr 28 [.M 5,.s 4]
def cf123:=kf0 123 Ztv [.tmp 4] 30
def Ztm:Zar:=rs 0 [.K 2]<|rr 2 [.M 0,.O (.len true (.t 3)),.B .geq 4 1,.y 5,.M 0,.O (.len true (.t 7)),.B .leq 8 16,.z,.s 2]
def cf124:=kf0 124 Ztm [.tmp 2] 11
def ZF6:Zar:=rs 1 [.v 1 94 0,.O (.box 94 (.c zp0)),.O (.mv (.c (.sc (.int .u64 0))))]<|ri 6 [.F 2 1,.B .neq 8 0] 9 (rr 9 [.L 3 1,.Z 3 2 10,.o 3 (.mv (.c (.sc (.int .u64 0))))])<|rs 11 [.F 0 1,.F 1 1,.O (.slS (.t 13) (some (.t 15)) none),.c 160 [16],.s 11,.e 11 0,.e 11 1,.e 11 2,.m 4 18,.m 5 19,.s 6]<|ri 20 [.M 6,.u 21] 22 (rs 22 [.f 2 1,.w (.st 1 (.t 23) (ik 3))]<|rr 23 [.L 3 1,.Z 3 2 24,.o 3 (.mv (.c (.sc (.int .u64 0))))])<|rs 24 [.F 1 1,.M 5,.b .add 26 27,.f 1 1,.Z 1 29 28]<|rr 29 [.L 3 1,.M 4,.Z 3 2 30,.s 3]
def cf125:=kf0 125 ZF6 [(.cell 3 true 2),.tmp 3] 32
def c126_1:Zar:=rv 0 21 [.i .gtr 1 0,.y 23,.M 7,.N 1 6,.b .lss 25 28,.z,.y 30,.F 2 2,.B .eql 33 0,.z] 35<|.seq (.blk 1<|rs 38 [.L 3 2,.i .sub 1 1,.c 91 [39,41],.s 38,.e 38 0,.e 38 1,.o 8 (.box 94 (.c zp0)),.Z 3 8 43,.s 9]<|rs 44 [.L 3 8,.Z 3 2 45]<|ry 45 [.F 2 6,.M 9,.A 3 1 8 47 48,.f 2 6,.Z 1 51 50])<|ry 35 [.i .add 7 1,.s 7]
def Zre:Zar:=rs 3 [.v 2 94 0,.O (.box 94 (.c zp0)),.O (.box 102 (.c (.agg [.sc (.string ⟨#[]⟩),.sl .full [],.sl .full []])))]<|rs 5 [.O (.box 102 (.c (.agg [.sc (.string ⟨#[]⟩),.sl .full [],.sl .full []])))]<|rs 10 [.L 3 2,.C 93 [.t 11,ik 12],.s 10,.e 10 0,.e 10 1,.Z 3 2 13,.f 0 6,.Z 1 15 14]<|rs 16 [.L 3 2,.C 161 [.t 17,ik 200],.s 16,.e 16 0,.e 16 1,.Z 3 2 19,.f 1 6,.Z 1 21 20]<|.seq (rs 6 [.J 0]<|c126_1)<|ri 51 [.F 2 2,.B .eql 53 0] 54 (ry 54 [.L 3 6,.M 1,.c 118 [55,56],.f 2 2,.Z 1 58 57])<|.seq (.drw [ip (io 59 (.ld 3 true (.t 2))),ip (io 60 (.ld 3 true (.t 6))),(iz (.st 3 (.t 4) (.t 59)),[io 60 (.ld 3 true (.t 6))]),ip (iz (.st 3 (.t 5) (.t 60)))])<|.ret
def cf126:=kf0 126 Zre [(.cell 3 true 4),(.cell 3 true 5)] 61
def Zsn:Zar:=rs 3 [.v 2 94 0,.O (.box 94 (.c zp0)),.O (.mv (.c (.sc (.string ⟨#[]⟩))))]<|ri 6 [.F 2 2,.B .neq 8 0] 9 (rr 9 [.L 3 2,.Z 3 4 10,.o 5 (.mv (.c (.sc (.string ⟨#[]⟩))))])<|ri 10 [.i .lss 1 0,.h 12,.M 1,.F 0 2,.O (.len true (.t 16)),.F 1 2,.b .sub 17 19,.b .gtr 14 20,.z] 22 (rs 22 [.f 2 2,.w (.st 1 (.t 23) (ik 3))]<|rr 23 [.L 3 2,.Z 3 4 24,.o 5 (.mv (.c (.sc (.string ⟨#[]⟩))))])<|rs 24 [.F 0 2,.F 1 2,.F 1 2,.M 1,.b .add 30 31,.O (.slS (.t 26) (some (.t 28)) (some (.t 32))),.s 6]<|rs 33 [.F 1 2,.M 1,.b .add 35 36,.f 1 2,.Z 1 38 37]<|rr 38 [.L 3 2,.M 6,.Z 3 4 39,.s 5]
def cf127:=kf0 127 Zsn [(.cell 3 true 4),.tmp 5] 41
def c158_1:Zar:=rl 0 28 29 (.t 27) 39<|.blk 1<|rs 29 [.Y 1 26 28,.s 6]<|rs 31 [.i .lss 6 0,.h 33,.M 6,.M 1,.b .geq 35 36,.z]<|.cond (.t 38) (rr 0 [.K 4])<|.skip
def c158_2:Zar:=rv 2 39 [.M 7,.M 1,.b .lss 40 41] 42<|.seq (.blk 3<|rs 44 [.F 2 2,.M 7,.c 173 [46,47],.u 48]<|.cond (.t 49) (rr 0 [.K 4])<|.skip)<|ry 42 [.i .add 7 1,.s 7]
def ZeY:Zar:=rs 0 [.v 2 102 0,.K 4]<|ri 7 [.i .leq 1 0] 9 (rr 9 [.N 2 2,.B .eql 12 0,.s 4])<|ri 13 [.N 2 2,.N 1 2,.b .neq 16 19,.h 20,.i .gtr 1 200,.z] 24 (rr 0 [.K 4])<|.seq (rs 24 [.N 2 2,.J 0]<|c158_1)<|.seq (rs 6 [.J 0]<|c158_2)<|rr 0 [.T 4]
def cf158:=kf0 158 ZeY [.tmp 4] 50
def c159_1:Zar:=rv 0 4 [.M 4,.M 0,.O (.bin .mul (ik 7) (.t 6)),.b .lss 5 7] 8<|.seq (.blk 1<|ry 10 [.M 3,.O (.bin .mul (.t 11) (.c (.sc (.int .u64 2)))),.s 3])<|ry 8 [.i .add 4 1,.s 4]
def Zj3:Zar:=rs 1 [.O (.mv (.c (.sc (.int .u64 0))))]<|rs 2 [.O (.mv (.c (.sc (.int .u64 1))))]<|.seq (rs 3 [.J 0]<|c159_1)<|rr 12 [.M 3,.s 2]
def cf159:=kf0 159 Zj3 [.tmp 2] 14
def c160_2:Zar:=rv 2 43 [.M 7,.M 5,.b .lss 44 45] 46<|.seq (.blk 3<|ry 48 [.M 6,.O (.bin .mul (.t 49) (.c (.sc (.int .u64 256)))),.M 0,.M 7,.O (.ixs (.t 51) (.t 52)),.O (.cnv .u64 (.t 53)),.b .add 50 54,.s 6])<|ry 46 [.i .add 7 1,.s 7]
def c160_1:Zar:=rv 0 7 [.i .leq 5 9] 9<|.seq (.blk 1<|rk 11 [.M 0,.O (.len true (.t 12)),.M 5,.b .lss 13 14,.h 15,.M 0,.O (.ixs (.t 17) (ik 0)),.O (.cnv .i64 (.t 18)),.M 5,.c 121 [20],.b .lss 19 21,.z,.h 23,.i .lss 5 9,.y 26,.M 0,.O (.ixs (.t 28) (ik 0)),.O (.cnv .i64 (.t 29)),.i .add 5 1,.c 121 [32],.b .geq 30 33,.z,.z] 36 (.exit 1)<|rt 36 [.M 0,.O (.ixs (.t 37) (ik 0)),.O (.cnv .i64 (.t 38)),.M 5,.c 121 [40],.b .sub 39 41,.O (.cnv .u64 (.t 42)),.s 6]<|.seq (rs 6 [.J 1]<|c160_2)<|rt 57 [.m 56 6,.M 0,.M 5,.O (.slS (.t 58) none (some (.t 59))),.o 57 (.call (jf 85) [.t 56]),.b .eql 57 60]<|.cond (.t 61) (rr 61 [.M 6,.M 5,.m 2 62,.s 3,.T 4])<|.skip)<|ry 9 [.i .add 5 1,.s 5]
def ZGs:Zar:=rs 0 [.o 2 (.mv (.c (.sc (.int .u64 0)))),.j 3 0,.K 4]<|.seq (rs 4 [.J 1]<|c160_1)<|rr 0 [.o 2 (.mv (.c (.sc (.int .u64 0)))),.j 3 0,.K 4]
def cf160:=kf0 160 ZGs [.tmp 2,.tmp 3,.tmp 4] 64
def c161_1:Zar:=rv 0 18 [.M 9,.M 6,.b .lss 19 20,.y 21,.F 2 2,.B .eql 24 0,.z] 26<|.seq (.blk 1<|rs 29 [.L 3 2,.M 8,.O (.len true (.t 31)),.c 91 [30,32],.s 29,.e 29 0,.e 29 1,.o 10 (.box 94 (.c zp0)),.Z 3 10 34,.s 11]<|rs 36 [.L 3 10,.C 93 [.t 37,ik 16],.s 36,.e 36 0,.e 36 1,.Z 3 10 39,.s 12]<|rs 40 [.M 8,.M 11,.O (.slS (.t 41) none (some (.t 42))),.M 12,.b .add 43 44,.s 12]<|.seq (.drw [ip (io 46 (.ld 3 true (.t 10))),ip (im 47 12),(io 48 (.call (jf 124) [.t 47]),[io 46 (.ld 3 true (.t 10))]),ip (im 49 48),ip (ig 49 50 (.mv (.t 12))),ip (ig 49 51 (.mv (.t 8))),ip (ig 49 52 (.bin .gtr (.t 50) (.t 51))),ip (io 53 (.pick (.t 49) (.t 52) (ib false))),ip (im 54 53),ip (ig 54 55 (.mv (.t 8))),ip (ig 54 56 (.mv (.t 12))),ip (ig 54 58 (.mv (.t 11))),(ig 54 57 (.call (jf 123) [.t 55,.t 56]),[io 46 (.ld 3 true (.t 10))]),ip (ig 54 59 (.bin .eql (.t 57) (.t 58))),ip (io 60 (.pick (.t 54) (.t 59) (ib false))),ip (io 61 (.call (jf 94) [.t 46,.t 60,ik 3])),ip (iz (.st 3 (.t 2) (.t 61)))])<|rs 61 [.M 7,.M 12,.A 9 1 16 62 63,.s 7]<|ry 65 [.M 12,.s 8])<|ry 26 [.i .add 9 1,.s 9]
def ZDG:Zar:=rs 0 [.v 2 94 0,.o 4 (.box 94 (.c zp0)),.D 5]<|rs 13 [.L 3 2,.M 1,.c 91 [14,15],.s 13,.e 13 0,.e 13 1,.Z 3 2 17,.s 6]<|rs 0 [.D 7]<|rs 7 [.O (.mv (.c (.sc (.string ⟨#[]⟩))))]<|.seq (rs 8 [.J 0]<|c161_1)<|rr 66 [.L 3 2,.M 7,.Z 3 4 67,.s 5]
def cf161:=kf0 161 ZDG [(.cell 3 true 4),.tmp 5] 69
def c173_1:Zar:=rl 0 9 10 (.t 8) 16<|.blk 1<|rs 10 [.Y 1 7 9,.s 6]<|rs 12 [.M 6,.M 1,.b .eql 13 14]<|.cond (.t 15) (rr 0 [.T 4])<|.skip
def c173_0:Zar:=rs 0 [.K 4]<|.seq (rs 6 [.R 0,.J 0]<|c173_1)<|rr 0 [.K 4]
def cf173:=kf0 173 c173_0 [.tmp 4] 17
open Go.RowKit Go.Lib
def XI:Zwq->FuncId->List AV->(AV->TH->Nat->Bool)->TH->Nat->Option Bool:=fun _ f args k M n=>match args with
 | [.sc (.string s),.sc (.int .u8 c)]=>bif Nat.beq f 20 then some (fV (.i (indexByte s.data.toList c.toNat.toUInt8)) fun r=>k r M n) else none
 | [.sc (.string s),.sc (.string p)]=>(match p.data.toList with
  | [c]=>bif Nat.beq f 66 then some (fV (.i (indexByte s.data.toList c)) fun r=>k r M n) else bif Nat.beq f 103 then some (fV (.i (indexByte s.data.toList c)) fun r=>k r M n) else bif Nat.beq f 65 then some (fV (.i (countByte s.data.toList c:Nat)) fun r=>k r M n) else none
  | _=>none)
 | _=>none
theorem hXI:∀call,Zv9 Tryz.prog call->∀f args k M n,XI call f args k M n=some true->Zay Tryz.prog f args (upT M n) fun r H'=>∃M' n',upT M' n'=H'/\k r M' n'=true:=by
 intro call _ f args k M n h
 unfold XI at h
 split at h
 ·rename_i s c
  cases e:Nat.beq f 20 with
  | false=>rw[e]at h;cases h
  | true =>
  rw[e,cond_true]at h
  have e:=zaS e
  subst e
  simp only[zac]at h
  rw[ZwT]at h
  exact(Zy9 s c (upT M n)).mono fun r H' ⟨h1,h2⟩=>⟨M,n,h2.symm,by rw[h1];exact h⟩
 ·rename_i s p
  split at h
  ·rename_i c hc
   have hp:p=⟨#[c]⟩:=by
    apply za3
    apply zaL
    rw[hc]
   subst hp
   cases e:Nat.beq f 66 with
   | true =>
    rw[e,cond_true]at h
    have e:=zaS e
    subst e
    simp only[zac]at h
    rw[ZwT]at h
    exact(ZzL s c (upT M n)).mono fun r H' ⟨h1,h2⟩=>⟨M,n,h2.symm,by rw[h1];exact h⟩
   | false =>
    rw[e,cond_false]at h
    cases e2:Nat.beq f 103 with
    | true =>
     rw[e2,cond_true]at h
     have e2:=zaS e2
     subst e2
     simp only[zac]at h
     rw[ZwT]at h
     exact(Zzs s c (upT M n)).mono fun r H' ⟨h1,h2⟩=>⟨M,n,h2.symm,by rw[h1];exact h⟩
    | false =>
     rw[e2,cond_false]at h
     cases e3:Nat.beq f 65 with
     | true =>
      rw[e3,cond_true]at h
      have e3:=zaS e3
      subst e3
      simp only[zac]at h
      rw[ZwT]at h
      exact(ZzO s c (upT M n)).mono fun r H' ⟨h1,h2⟩=>⟨M,n,h2.symm,by rw[h1];exact h⟩
     | false=>rw[e3]at h;cases h
  ·cases h
 ·cases h
def isT3:AV->TH->Nat->Bool:=fun r _ _=>match r with
 | .sc (.bool true)=>true
 | _=>false
theorem isT3_ok {r:AV} {M:TH} {n:Nat} (h:isT3 r M n=true):r=.sc (.bool true):=by
 unfold isT3 at h
 split at h
 ·rfl
 ·cases h
open Go.RowKit Go.Lib
theorem Zxg {g:Gh} {H:Zaa} {w w':World} (hW:WR g H w) (hb:Below w.heap.size w w'):WR g H w'/\Stp g H w g H w':=by
 have hle:g.le g w w':=⟨fun _ _ h=>h,fun _ _ _ _ h=>⟨_,_,_,h,.inr ⟨rfl,rfl,rfl⟩⟩,fun _ _ _ h=>h,fun _ _ h=>h,fun b j h=>Zcb (hb.block b (hW.ro b j h)) j,Zyf hb.block,rfl⟩
 exact⟨⟨fun id o h=>(hW.obj id o h).mono hle (fun b h2=>hb.block b (hW.bd id o b h h2)) (fun _ _ _ h=>h) rfl rfl (fun _=>rfl),hW.inj,hW.dom,fun id o b h1 h2=>zaO (hW.bd id o b h1 h2) hb.size,fun b j h=>zaO (hW.ro b j h) hb.size⟩,
  ⟨hle,zae _,hb.os,hb.tape,hb.output,hb.size,fun b h _=>hb.block b h,fun _ _ h=>h,fun _ _ _ h=>.inl h⟩⟩
theorem ZFt:Zmq Tryz.prog 67:=⟨_,Tryz.func67,by kernel_rfl,by kernel_rfl⟩
theorem ZzY:Zmq Tryz.prog 35:=⟨_,Tryz.func35,by kernel_rfl,by kernel_rfl⟩
theorem ZGy {g:Gh} {w:World} (a b:Value):VR g w (.tup [.sc a,.sc b]) (.tuple #[a,b]) :=
 .tup _ _ rfl fun i x u hx hu=>(VRs.scs (g:=g) (w:=w) [a,b]).2 i x u (by simpa using hx) (by simpa using hu)
theorem ZD4 (s:ByteArray) (v:Int) (H:Zaa) (hs:s.size<=1000000) (h:parseIntB 64 s.data.toList=.ok v):Zay Tryz.prog 67 [.sc (.string s),.i 10,.i 64] H (fun r H'=>r=.tup [.i v,.sc .nilIface]/\H'=H):=by
 refine⟨ZFt,fun g w vs hW hV hEn=>?_⟩
 obtain⟨v0,v1,v2,rfl⟩:∃v0 v1 v2,vs=[v0,v1,v2]:=by
  match vs,hV.1 with
  | [v0,v1,v2],_=>exact⟨v0,v1,v2,rfl⟩
 have h1:=hV.2 0 _ _ rfl rfl
 have h2:=hV.2 1 _ _ rfl rfl
 have h3:=hV.2 2 _ _ rfl rfl
 cases h1
 cases h2
 cases h3
 refine(Any.strconv_ParseInt_10_at64_ok ZDY s (by omega) v h w).mono fun e w' ⟨he,hb⟩=>?_
 have hb:Below w.heap.size w w':=by
  rcases hb with rfl|⟨t,rfl⟩
  ·exact Below.refl _ _
  ·exact bytesWorld_below _ _ _
 obtain⟨k1,k2⟩:=Zxg hW hb
 exact .inl ⟨_,_,_,g,he,⟨rfl,rfl⟩,ZGy _ _,k1,k2⟩
theorem ZEm (s:ByteArray) (H:Zaa) (hs:s.size<=1000000) (h:∀v,parseIntB 64 s.data.toList≠.ok v):Zay Tryz.prog 67 [.sc (.string s),.i 10,.i 64] H (fun r H'=>(∃n t p,r=.tup [.i n,.sc (.iface t p)])/\H'=H):=by
 refine⟨ZFt,fun g w vs hW hV hEn=>?_⟩
 obtain⟨v0,v1,v2,rfl⟩:∃v0 v1 v2,vs=[v0,v1,v2]:=by
  match vs,hV.1 with
  | [v0,v1,v2],_=>exact⟨v0,v1,v2,rfl⟩
 have h1:=hV.2 0 _ _ rfl rfl
 have h2:=hV.2 1 _ _ rfl rfl
 have h3:=hV.2 2 _ _ rfl rfl
 cases h1
 cases h2
 cases h3
 rcases hp:parseIntB 64 s.data.toList with v|_|_
 ·exact absurd hp (h v)
 ·obtain⟨t,p,ev⟩:=hEn.syn
  refine(Any.strconv_ParseInt_10_at64_syntax ZDY s (by omega) hp _ w ev (.inr ⟨_,_,rfl⟩)).mono fun e w' ⟨N,he,_,_,hb⟩=>?_
  obtain⟨k1,k2⟩:=Zxg hW hb
  exact .inl ⟨_,_,_,g,he,⟨⟨_,_,_,rfl⟩,rfl⟩,ZGy _ _,k1,k2⟩
 ·obtain⟨t,p,ev⟩:=hEn.rng
  refine(Any.strconv_ParseInt_10_at64_range ZDY s (by omega) hp _ w ev (.inr ⟨_,_,rfl⟩)).mono fun e w' ⟨N,he,_,_,hb⟩=>?_
  obtain⟨k1,k2⟩:=Zxg hW hb
  exact .inl ⟨_,_,_,g,he,⟨⟨_,_,_,rfl⟩,rfl⟩,ZGy _ _,k1,k2⟩
theorem Zzz (n:Int) (H:Zaa) (h0 : -9223372036854775808<=n) (h1:n<=9223372036854775807):Zay Tryz.prog 35 [.i n,.i 10] H (fun r H'=>r=eS (itoa n)/\H'=H):=by
 refine⟨ZzY,fun g w vs hW hV hEn=>?_⟩
 obtain⟨v0,v1,rfl⟩:∃v0 v1,vs=[v0,v1]:=by
  match vs,hV.1 with
  | [v0,v1],_=>exact⟨v0,v1,rfl⟩
 have q1:=hV.2 0 _ _ rfl rfl
 have q2:=hV.2 1 _ _ rfl rfl
 cases q1
 cases q2
 refine(Any.strconv_FormatInt_10 laysM173 n h0 h1 w hEn.tab).mono fun e w' ⟨he,k,os,hb⟩=>?_
 subst hb
 obtain⟨k1,k2⟩:=Zxg hW (below_grow _ w (zae _) k os)
 exact .inl ⟨_,_,_,g,he,⟨rfl,rfl⟩,.sc _,k1,k2⟩
end Go.Proofs.YtemmgefppobboaaGreatDoor
