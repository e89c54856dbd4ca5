/- Texts of the walk. -/
import Derived.Test.YtdfgoekdlmkdfaaGreatDoorMo
namespace Go.Proofs.YtdfgoekdlmkdfaaGreatDoor
set_option linter.defProp false
set_option maxHeartbeats 64000000
set_option linter.unusedSimpArgs false
set_option linter.unusedVariables false
open Go.RowKit Go.Lib
open Go.RowKit Go.Lib
def eRow (o:Option Tx):AV:=match o with
 | some b=>.tup [eS b,.b true]
 | none=>.tup [eS [],.b false]
theorem ZC6 {c x:UInt8} (hx:x≠c):∀{l:Tx},x∈l->∃p∈ZyA c l,x∈p
 | [],h=>by cases h
 | y :: l,h=>by
  obtain⟨p,ps,hp⟩:=ZBd c l
  by_cases hy:y=c
  ·subst hy
   rw[parts_eq y l hp]
   rcases zak.1 h with h|h
   ·exact absurd h hx
   ·obtain⟨q,hq,hm⟩:=ZC6 hx h
    rw[hp]at hq
    exact⟨q,zav _ hq,hm⟩
  ·rw[ZBv l hy hp]
   rcases zak.1 h with h|h
   ·exact⟨y :: p,Xc,by simp[h]⟩
   ·obtain⟨q,hq,hm⟩:=ZC6 hx h
    rw[hp]at hq
    rcases zak.1 hq with rfl|hq
    ·exact⟨y :: q,Xc,by simp[hm]⟩
    ·exact⟨q,by simp[hq],hm⟩
theorem ZG3 (l:List Tx):(l.map wX).sum=ZAr l+9 * l.length:=by
 induction l with
 | nil=>rfl
 | cons y l ih =>
  have e:ZAr (y :: l)=y.length+ZAr l:=by simp[ZAr]
  rw[zao,List.sum_cons,ih,e,List.length_cons]
  unfold wX
  omega
open Go.RowKit Go.Lib
theorem AV_i {a b:Int} (h:a=b):AV.i a=AV.i b:=by rw[h]
def atT (l:List Tx) (s:Tx):Int:=if s∈l then (l.idxOf s:Int) else -1
theorem ZDQ {l:List Tx} {s:Tx} {k:Nat} (h:k<l.length) (he:l[k]=s) (hn:s ∉ l.take k):atT l s=(k:Int):=by
 have hm:s∈l:=he ▸ zah h
 unfold atT
 rw[if_pos hm]
 congr 1
 have e:l=l.take k++l.drop k:=(zaV k l).symm
 rw[e,List.idxOf_append,if_neg hn,zal h,he,List.idxOf_cons_self,zau]
 omega
theorem ZJ7 (t:Tok) (l:List Tx) (q:Tx) (H:Zaa) (hl:l.length<=1000000):Zay Tryz.prog 161 [.sl t (rS l),eS q] H (Pure H (.i (atT l q))):=by
 refine fnQ cf161 fun Q qr qn=>?_
 refine Bz2 ?_
 refine Zcw [0,1] (σ:=Nat) (fun s=>s<=l.length/\q ∉ l.take s) (fun s=>l.length - s) (fun s=>[(5,.i (s:Int))]) (fun s=>[]) (0:Nat) (GStep.refl _ _) xV ?_ xT xU ?_
 ·simp
 ·(rintro i G ⟨h1,h2⟩ hG hn;try simp only[nx]at hn)
  by_cases hi:i<l.length
  ·have d1:decide ((i:Int)<(l.length:Int))=true:=by simp;omega
   by_cases he:l[i]=q
   ·have d2:decide (l[i]=q)=true:=decide_eq_true he
    refine Bz3 (X2 d1 d2) ?_
    refine Zaz (by rw[ZDQ hi he h2])
   ·have d2:decide (l[i]=q)=false:=decide_eq_false he
    refine Bz3 (X2 d1 d2) ?_
    refine⟨i+1,⟨hi,?_⟩,Xa,AV_i (by push_cast;rfl),by exact HXT⟩
    rw[zae hi,zaj,zat]
    exact fun h=>h.elim h2 fun h=>he h.symm
  ·have d1:decide ((i:Int)<(l.length:Int))=false:=by simp;omega
   obtain rfl:i=l.length:=Xa
   rw[zaq]at h2
   refine Bz3 (X1 d1) ?_
   refine Zaz (by unfold atT;rw[if_neg h2])
def upP (l:List Tx) (w:Tx):Int:=match ZyG w with
 | some s=>atT l s
 | none => -1
open Go.RowKit Go.Lib
def ZE9:List Tir->List Tx
 | []=>[]
 | u :: _=>u.terms
def ZBO (t:Tir) (w:Tx) (ups:List Tx):Option Tir:=match ZyG (ZyS 62 w).1 with
 | none=>none
 | some s=>match (ZyS 62 w).2 with
  | none=>some { t with terms:=t.terms++[s] }
  | some q=>match ZyG q with
   | none=>none
   | some u=>if u∈ups then some { t with terms:=t.terms++[s],up:=t.up++[atT ups u] } else none
def ZcB (w:Tx) (d:Dm):Option Dm:=match w with
 | []=>none
 | c :: r=>if c=94 then some { d with tiers:=⟨r,[],[]⟩ :: d.tiers } else if c≠46 then none else match d.tiers with
  | []=>none
  | t :: q=>(ZBO t r (ZE9 q)).map fun t'=>{ d with tiers:=t' :: q }
def ZCr (s:Sc) (w:Tx):Option Sc:=match w with
 | []=>none
 | c :: r=>if c=64 then some { s with dims:=s.dims++[⟨r,[]⟩] } else if c=43 then some { s with meas:=s.meas++[r] } else match s.dims.getLast? with
  | none=>none
  | some d=>(ZcB (c :: r) d).map fun d'=>{ s with dims:=s.dims.dropLast++[d'] }
def ZBh:Sc->List Tx->Option Sc
 | s,[]=>some s
 | s,w :: r=>match ZCr s w with
  | none=>none
  | some s'=>ZBh s' r
def ZFU (q:List Tir) (ps:List Tx):List Int:=match ps,q with
 | [_,b],u :: _=>[upP u.terms b]
 | _,_=>[]
def ZBZ (t:Tir) (w:Tx) (q:List Tir):Tir:={ t with terms:=t.terms++[(ZyG (ZyS 62 w).1).getD []],up:=t.up++ZFU q (ZyA 62 w) }
def ZCG (w:Tx) (d:Dm):Dm:=match w with
 | []=>d
 | c :: r=>if c=94 then { d with tiers:=⟨r,[],[]⟩ :: d.tiers } else if c≠46 then d else match d.tiers with
  | []=>d
  | t :: q=>{ d with tiers:=ZBZ t r q :: q }
def ZBE (s:Sc) (w:Tx):Sc:=match w with
 | []=>s
 | c :: r=>if c=64 then { s with dims:=s.dims++[⟨r,[]⟩] } else if c=43 then { s with meas:=s.meas++[r] } else match s.dims.getLast? with
  | none=>s
  | some d=>{ s with dims:=s.dims.dropLast++[ZCG (c :: r) d] }
theorem no62 {c:UInt8} (h:ZyJ c=true\/c=37):c≠62:=by
 rintro rfl
 rcases h with h|h
 ·exact absurd h Xb
 ·exact absurd h Xb
theorem ZEQ {t t':Tir} {w:Tx} {q:List Tir} (h:ZBO t w (ZE9 q)=some t'):ZBZ t w q=t':=by
 unfold ZBO at h
 unfold ZBZ
 cases h1:ZyG (ZyS 62 w).1 with
 | none=>rw[h1]at h;cases h
 | some s =>
  rw[h1]at h
  simp only at h
  cases h2:(ZyS 62 w).2 with
  | none =>
   rw[h2]at h
   simp only at h
   have e:ZyA 62 w=[(ZyS 62 w).1]:=by rw[ZyM,h2]
   injection h with h
   rw[<- h,e]
   simp[ZFU]
  | some p =>
   rw[h2]at h
   simp only at h
   cases h3:ZyG p with
   | none=>rw[h3]at h;cases h
   | some u =>
    rw[h3]at h
    simp only at h
    have hn:(ZyS 62 p).2=none:=by
     rw[ZCw 62 p fun hm=>no62 (ZDx h3 _ hm) rfl]
    have e:ZyA 62 w=[(ZyS 62 w).1,p]:=(ZEk 62 w _ _).2 ⟨rfl,h2,hn⟩
    split at h
    ·rename_i hu
     injection h with h
     cases q with
     | nil=>cases hu
     | cons v q =>
      rw[<- h,e]
      simp only[ZFU,upP,h3,ZE9,Option.getD_some]
    ·cases h
theorem ZEE {s s':Sc} {w:Tx} (h:ZCr s w=some s'):ZBE s w=s':=by
 cases w with
 | nil=>cases h
 | cons c r =>
  simp only[ZCr]at h
  simp only[ZBE]
  by_cases c1:c=64
  ·rw[if_pos c1]at h ⊢;injection h
  rw[if_neg c1]at h ⊢
  by_cases c2:c=43
  ·rw[if_pos c2]at h ⊢;injection h
  rw[if_neg c2]at h ⊢
  cases hd:s.dims.getLast? with
  | none=>rw[hd]at h;cases h
  | some d =>
   rw[hd]at h
   simp only at h ⊢
   cases hs:ZcB (c :: r) d with
   | none=>rw[hs]at h;cases h
   | some d' =>
    rw[hs]at h
    injection h with h
    rw[<- h]
    have:ZCG (c :: r) d=d':=by
     simp only[ZcB]at hs
     simp only[ZCG]
     by_cases c3:c=94
     ·rw[if_pos c3]at hs ⊢;injection hs
     rw[if_neg c3]at hs ⊢
     by_cases c4:c≠46
     ·rw[if_pos c4]at hs;cases hs
     rw[if_neg c4]at hs ⊢
     cases ht:d.tiers with
     | nil=>rw[ht]at hs;cases hs
     | cons t q =>
      rw[ht]at hs
      simp only at hs ⊢
      cases hm:ZBO t r (ZE9 q)with
      | none=>rw[hm]at hs;cases hs
      | some t' =>
       rw[hm]at hs
       injection hs with hs
       rw[<- hs,ZEQ hm]
    rw[this]
def ZBs (q:List Tir) (n:Int):Tx:=match q with
 | []=>[]
 | u :: _=>62 :: ZyH (u.terms.getD n.toNat [])
def ZCQ (t:Tir) (q:List Tir) (i:Nat):Tx:=46 :: (ZyH (t.terms.getD i [])++ZBs q (t.up.getD i 0))
def ZCX (t:Tir) (q:List Tir):List Tx:=(94 :: t.name) :: (List.range t.terms.length).map (ZCQ t q)
def ZA9:List Tir->List Tx
 | []=>[]
 | t :: q=>ZA9 q++ZCX t q
def ZCM (d:Dm):List Tx:=(64 :: d.name) :: ZA9 d.tiers
def ZBi (s:Sc):List Tx:=s.dims.flatMap ZCM++s.meas.map (43 :: ·)
theorem ZBV:∀(a b:List Tx) (s:Sc),ZBh s (a++b)=(ZBh s a).bind fun s'=>ZBh s' b
 | [],_,_=>rfl
 | w :: r,b,s=>by
  rw[List.cons_append,ZBh,ZBh]
  cases ZCr s w with
  | none=>rfl
  | some s'=>exact ZBV r b s'
theorem ZGf {c:UInt8}:∀{a:Tx} (b:Tx),c ∉ a->ZyS c (a++c :: b)=(a,some b)
 | [],b,_=>by simp[ZyS]
 | x :: a,b,h=>by
  have hx:¬x=c:=fun e=>h (by rw[e];exact zaF)
  have ih:=ZGf b (a:=a) (fun e=>h (zav _ e))
  show ZyS c (x :: (a++c :: b))=_
  rw[ZyS,if_neg hx,ih]
theorem ZnA (D:List Dm) (d:Dm):(D++[d]).getLast?=some d:=List.getLast?_concat
theorem ZBH (D:List Dm) (d:Dm):(D++[d]).dropLast=D:=zbS
theorem ZEl:∀(l:List Tx) (w:Option Tx),Zgt w l=0->(∀q,w=some q->∀s∈l,q<s)/\l.Pairwise (·<·)
 | [],_,_=>⟨fun _ _ s h=>by(cases h),.nil⟩
 | a :: r,w,h=>by
  rw[Zhp]at h
  split at h
  ·cases h
  ·split at h
   ·cases h
   ·rename_i h1 h2
    obtain⟨i1,i2⟩:=ZEl r (some a) h
    refine⟨fun q hq s hs=>?_,List.pairwise_cons.2 ⟨fun s hs=>i1 a rfl s hs,i2⟩⟩
    subst hq
    have h3:q<a:=by simpa [geT] using h2
    rcases zak.1 hs with rfl|hs
    ·exact h3
    ·exact zbG h3 (i1 a rfl s hs)
theorem at_get {l:List Tx} (he:Zgt none l=0) {k:Nat} (h:k<l.length):atT l l[k]=(k:Int):=by
 refine ZDQ h rfl fun hm=>?_
 obtain⟨i,hi,e⟩:=zar hm
 have hik:i<k:=by rw[zau]at hi;omega
 rw[zbx]at e
 have:=List.pairwise_iff_getElem.1 (ZEl l none he).2 i k Xa h hik
 rw[e]at this
 exact zbl _ this
structure TOk (t:Tir) (q:List Tir):Prop where
 nil:q=[]->t.up=[]
 len:∀u r,q=u :: r->t.up.length=t.terms.length/\Zgt none u.terms=0/\∀n∈t.up,0<=n/\n<(u.terms.length:Int)
theorem ZEM {t:Tir} {q:List Tir} (h:TOk t q) {k:Nat} (hk:k<t.terms.length) :
  ZBO ⟨t.name,t.terms.take k,t.up.take k⟩ (ZyH (t.terms.getD k [])++ZBs q (t.up.getD k 0)) (ZE9 q)=some ⟨t.name,t.terms.take (k+1),t.up.take (k+1)⟩:=by
 have e1:t.terms.getD k []=t.terms[k]:=by simp[hk]
 have e2:t.terms.take (k+1)=t.terms.take k++[t.terms[k]]:=zae hk
 have hw:(62:UInt8) ∉ ZyH t.terms[k]:=fun hm=>no62 (ZCN _ _ hm) rfl
 rw[e1,e2]
 unfold ZBO
 cases q with
 | nil =>
  rw[h.nil rfl]
  simp only[ZBs,zaw,ZCw 62 _ hw,ZzS,List.take_nil]
 | cons u r =>
  obtain⟨h1,h2,h3⟩:=h.len u r rfl
  have hku:k<t.up.length:=Xa
  have e3:t.up.getD k 0=t.up[k]:=by simp[hku]
  have e4:t.up.take (k+1)=t.up.take k++[t.up[k]]:=zae hku
  obtain⟨n1,n2⟩:=h3 _ (zah hku)
  have hn:t.up[k].toNat<u.terms.length:=Xa
  have e5:u.terms.getD t.up[k].toNat []=u.terms[t.up[k].toNat]:=by simp[hn]
  have ha:=at_get h2 hn
  rw[e3,e4]
  simp only[ZBs,e5,ZGf _ hw,ZzS,ZE9,if_pos (zah hn),ha]
  rw[show((t.up[k].toNat:Nat):Int)=t.up[k] by omega]
theorem ZCS {t:Tir} {q:List Tir} (h:TOk t q) (D:List Dm) (n:Tx) (M:List Tx):∀k,k<=t.terms.length->ZBh ⟨D++[⟨n,⟨t.name,[],[]⟩ :: q⟩],M⟩ ((List.range k).map (ZCQ t q))=some ⟨D++[⟨n,⟨t.name,t.terms.take k,t.up.take k⟩ :: q⟩],M⟩
 | 0,_=>by simp[ZBh]
 | k+1,hk=>by
  rw[List.range_succ,zaD,ZBV,ZCS h D n M k Xa]
  have hm:=ZEM h (show k<t.terms.length by omega)
  simp only[zao,zbo,Option.bind_some,ZBh,ZCQ,ZCr,ZnA,ZBH,ZcB,hm]
  rfl
theorem ZGi {t:Tir} {q:List Tir} (h:TOk t q) (D:List Dm) (n:Tx) (M:List Tx):ZBh ⟨D++[⟨n,q⟩],M⟩ (ZCX t q)=some ⟨D++[⟨n,t :: q⟩],M⟩:=by
 have hm:=ZCS h D n M _ (zad _)
 have hu:t.up.take t.terms.length=t.up:=by
  cases q with
  | nil=>rw[h.nil rfl,List.take_nil]
  | cons u r=>obtain⟨h1,_⟩:=h.len u r rfl;rw[<- h1,zaq]
 rw[zaq,hu]at hm
 unfold ZCX ZBh
 have hw:ZCr ⟨D++[⟨n,q⟩],M⟩ (94 :: t.name)=some ⟨D++[⟨n,⟨t.name,[],[]⟩ :: q⟩],M⟩:=by
  simp only[ZCr,ZnA,ZBH,ZcB]
  rfl
 rw[hw]
 exact hm
inductive ZF5:List Tir->Prop
 | nil:ZF5 []
 | cons (t:Tir) (q:List Tir):TOk t q->ZF5 q->ZF5 (t :: q)
theorem ZDJ (D:List Dm) (n:Tx) (M:List Tx):∀{l:List Tir},ZF5 l->ZBh ⟨D++[⟨n,[]⟩],M⟩ (ZA9 l)=some ⟨D++[⟨n,l⟩],M⟩
 | [],_=>rfl
 | t :: q,.cons _ _ h1 h2=>by
  unfold ZA9
  rw[ZBV,ZDJ D n M h2]
  exact ZGi h1 D n M
theorem ZEb (M:List Tx):∀(l D:List Dm),(∀d∈l,ZF5 d.tiers)->ZBh ⟨D,M⟩ (l.flatMap ZCM)=some ⟨D++l,M⟩
 | [],D,_=>by rw[zaw];rfl
 | d :: r,D,h=>by
  have hd:=ZDJ D d.name M (h d Xc)
  rw[zaz,ZBV]
  have:ZBh ⟨D,M⟩ (ZCM d)=some ⟨D++[d],M⟩:=by
   unfold ZCM ZBh
   have hw:ZCr ⟨D,M⟩ (64 :: d.name)=some ⟨D++[⟨d.name,[]⟩],M⟩:=by
    simp only[ZCr]
    rfl
   rw[hw]
   exact hd
  rw[this,Option.bind_some,ZEb M r _ fun d hd=>h d (by simp[hd]),zam]
  rfl
theorem ZEy (D:List Dm):∀(l M:List Tx),ZBh ⟨D,M⟩ (l.map (43 :: ·))=some ⟨D,M++l⟩
 | [],M=>by rw[zaw];rfl
 | m :: r,M=>by
  have hw:ZCr ⟨D,M⟩ (43 :: m)=some ⟨D,M++[m]⟩:=by
   simp only[ZCr]
   rfl
  rw[zao,ZBh,hw]
  simp only
  rw[ZEy D r,zam]
  rfl
theorem ZFX {s:Sc} (h:∀d∈s.dims,ZF5 d.tiers):ZBh ⟨[],[]⟩ (ZBi s)=some s:=by
 unfold ZBi
 rw[ZBV,ZEb [] s.dims [] h,Option.bind_some,ZEy]
 rfl
theorem ZGg {t:Tir} {a:Int} (h:ZbO t a=0):0<t.terms.length:=by
 unfold ZbO at h
 split at h
 ·cases h
 ·split at h
  ·cases h
  ·rename_i h2;omega
theorem ZG4:∀{l:List Tir} {seen:List Tx},Zkb seen l=0->ZF5 l
 | [],_,_=>.nil
 | t :: r,seen,h=>by
  unfold Zkb at h
  split at h
  ·exact absurd h (by assumption)
  ·rename_i h1
   have h1:ZbO t (ZbR r)=0:=zbD h1
   split at h
   ·cases h
   ·refine .cons _ _ ⟨?_,?_⟩ (ZG4 h)
    ·rintro rfl
     exact(ZD0 (ZBT h1).1).1 (zbv 0)
    ·rintro u q rfl
     have h2:ZbO u (ZbR q)=0:=by
      unfold Zkb at h
      split at h
      ·exact absurd h (by assumption)
      ·rename_i h2;exact zbD h2
     have h3:=ZGg h2
     obtain⟨h4,h5⟩:=(ZD0 (ZBT h1).1).2 (show(0:Int)<(u.terms.length:Int) by omega)
     exact⟨Xa,ZCu h2,h5⟩
theorem ZGO {d:Dm} (h:Zdv d=0):ZF5 d.tiers:=by
 unfold Zdv at h
 split at h
 ·cases h
 ·split at h
  ·cases h
  ·exact ZG4 h
theorem ZGP {s:Sc} (h:scE s=0):ZBh ⟨[],[]⟩ (ZBi s)=some s:=ZFX fun d hd=>ZGO ((ZCV h).2.1 d hd)
open Go.RowKit Go.Lib
def ZFr (h:Tx):Option Tx:=if h=[42] then some (ZA2 0) else match h with
 | c :: x :: r=>match ZBU [c]with
  | none=>none
  | some d=>if x=61 then match ZBm r with
    | none=>none
    | some set=>if Zgt none set=0 then some (ZA2 2++ZA2 d++ZB5 set) else none
   else match ZyG (ZyS 126 r).1,ZyG ((ZyS 126 r).2.getD [])with
    | some lo,some hi=>if x=126/\(ZyS 126 r).2.isSome=true then some (ZA2 1++ZA2 d++ZA4 lo++ZA4 hi) else none
    | _,_=>none
 | _=>none
def ZCY (w:Tx):Option Tx:=match ZFr (ZyS 47 w).1 with
 | none=>none
 | some b=>match (ZyS 47 w).2 with
  | none=>some (b++ZA2 0)
  | some q=>(ZBU q).map fun n=>b++ZA2 (n+1)
def ZBI:List Tx->Option Tx
 | []=>some []
 | w :: r=>match ZCY w with
  | none=>none
  | some b=>(ZBI r).map (b++·)
theorem ZCb {s:Tx} {n:Nat} (h:ZBU s=some n):∃c,s=[c]/\48<=c.toNat/\c.toNat<=57/\n=c.toNat - 48:=by
 match s,h with
 | [c],h =>
  unfold ZBU at h
  simp only at h
  split at h
  ·rename_i hc
   injection h with h
   exact⟨c,rfl,hc.1,hc.2,h.symm⟩
  ·cases h
theorem ZFl {c x:UInt8} (h:ZyJ c=true\/c=37) (hx:ZyJ x=false/\x≠37):c≠x:=by
 rintro rfl
 rcases h with h|h
 ·rw[hx.1]at h;cases h
 ·exact hx.2 h
theorem ZFy {w u:Tx} {x:UInt8} (h:ZyG w=some u) (hx:ZyJ x=false/\x≠37):x ∉ w:=fun hm=>ZFl (ZDx h _ hm) hx rfl
theorem ts_not {x:UInt8} (hx:ZyJ x=false/\x≠37):∀{l:List Tx} {m:List Tx},tsB l=some m->∀p∈l,x ∉ p
 | [],_,_,p,hp=>by cases hp
 | w :: r,m,h,p,hp=>by
  unfold tsB at h
  split at h
  ·cases h
  ·rename_i u hu
   rcases zak.1 hp with rfl|hp
   ·exact ZFy hu hx
   ·cases hr:tsB r with
    | none=>rw[hr]at h;cases h
    | some q=>exact ts_not hx hr p hp
theorem ZGz {x:UInt8} (hx:ZyJ x=false/\x≠37) (h44:x≠44) {s:Tx} {m:List Tx} (h:ZBm s=some m):x ∉ s:=fun hm=>by
 unfold ZBm at h
 split at h
 ·rename_i e;rw[e]at hm;cases hm
 ·obtain⟨p,hp,hq⟩:=ZC6 (c:=44) h44 hm
  exact ts_not hx h p hp hq
open Go.RowKit
theorem ZfH (sz:Nat):∀(n:Nat) (cs:List AV) (i j:Nat) (r:List AV) (x:AV),n * sz<=cs.length->(chunk sz n cs)[i]?=some r->r[j]?=some x->i<n/\j<sz/\r.length=sz/\cs[i * sz+j]?=some x
 | 0,cs,i,j,r,x,_,h,_=>by simp[chunk]at h
 | n+1,cs,i,j,r,x,hl,h,hx=>by
  have e:(n+1) * sz=n * sz+sz:=by rw[zaE];omega
  cases i with
  | zero =>
   simp[chunk]at h
   subst h
   have h1:j<(cs.take sz).length:=(List.getElem?_eq_some_iff.1 hx).1
   have h2:(cs.take sz).length=sz:=by simp;omega
   refine⟨Xa,Xa,h2,?_⟩
   rw[List.getElem?_take]at hx
   rw[if_pos Xa]at hx
   simpa using hx
  | succ i =>
   simp[chunk]at h
   obtain⟨h1,h2,h3,h4⟩:=ZfH sz n (cs.drop sz) i j r x Xf h hx
   refine⟨Xa,h2,h3,?_⟩
   rw[List.getElem?_drop]at h4
   rw[<- h4]
   congr 1
   rw[zaE];omega
def Zaa.ZFq (H:Zaa) (D:Nat->Bool):Zaa:=⟨fun i=>bif D i then none else H.get i,H.next,fun i hi=>by rw[H.wf i hi];cases D i<;>rfl⟩
theorem ZD7 {H:Zaa} {D:Nat->Bool} {i:Nat} (h:D i=false):(H.ZFq D).get i=H.get i:=by simp[Zaa.ZFq,h]
inductive Frz (H:Zaa) (D:Nat->Bool):AV->AV->Prop
 | refl (a:AV):Frz H D a a
 | arr (id off sz len cap E:Nat) (cs:List AV) (rows':List (List AV)) (hd:D id=true) (ho:H.get id=some (.cells cs E)) (hb:off+len * sz<=cs.length) (hl:rows'.length=len)
  (h1:∀(i:Nat) (r r':List AV),(chunk sz len (cs.drop off))[i]?=some r->rows'[i]?=some r'->r.length=r'.length)
  (h2:∀(i:Nat) (r r':List AV) (j:Nat) (x y:AV),(chunk sz len (cs.drop off))[i]?=some r->rows'[i]?=some r'->r[j]?=some x->r'[j]?=some y->Frz H D x y):Frz H D (.arr id off len cap) (.sl .no rows')
 | sl (t:Tok) (rows rows':List (List AV)) (hl:rows.length=rows'.length) (h1:∀(i:Nat) (r r':List AV),rows[i]?=some r->rows'[i]?=some r'->r.length=r'.length)
  (h2:∀(i:Nat) (r r':List AV) (j:Nat) (x y:AV),rows[i]?=some r->rows'[i]?=some r'->r[j]?=some x->r'[j]?=some y->Frz H D x y):Frz H D (.sl t rows) (.sl .no rows')
 | agg (cs cs':List AV) (hl:cs.length=cs'.length) (h:∀(i:Nat) (x y:AV),cs[i]?=some x->cs'[i]?=some y->Frz H D x y):Frz H D (.agg cs) (.agg cs')
 | tup (cs cs':List AV) (hl:cs.length=cs'.length) (h:∀(i:Nat) (x y:AV),cs[i]?=some x->cs'[i]?=some y->Frz H D x y):Frz H D (.tup cs) (.tup cs')
section
variable {g:Gh} {H:Zaa} {w:World} {D:Nat->Bool}
theorem Frz.one {a b:AV} (h:Frz H D a b):a.one=b.one:=by cases h<;>rfl
def Gh.frz (g:Gh) (H:Zaa) (D:Nat->Bool):Gh:={ g with RO:=fun b j=>g.RO b j\/∃id cs E,D id=true/\H.get id=some (.cells cs E)/\g.ι id=some b/\j<cs.length }
theorem ZjF:g.le (g.frz H D) w w:=⟨fun _ _ h=>h,fun _ _ _ _ h=>⟨_,_,_,h,.inr ⟨rfl,rfl,rfl⟩⟩,fun _ _ _ h=>h,fun _ _ h=>.inl h,fun _ _ _=>rfl,fun _ h=>h,rfl⟩
theorem VR.frz {a b:AV} {v:Value} (hf:Frz H D a b) (hW:WR g H w) (h:VR g w a v):VR (g.frz H D) w b v:=by
 induction hf generalizing v with
 | refl a=>exact h.mono ZjF
 | arr id off sz len cap E cs rows' hd ho hb hl h1 h2 ih =>
  cases h with
  | arr _ _ _ _ b hi hc hm =>
   obtain⟨b',carr,hi',hblk,hcs,hone,_⟩:=hW.obj id _ ho
   rw[hi]at hi'
   injection hi' with hi'
   subst hi'
   have hk:=Zez sz len (cs.drop off) Xf
   have key:∀i r' j y,rows'[i]?=some r'->r'[j]?=some y->∃(x:AV) (u:Value),y.one=x.one/\w.cell? ⟨b,off+i * sz+j,none⟩=some u/\off+i * sz+j<cs.length/\VR (g.frz H D) w y u:=fun i r' j y hr' hy=>by
    obtain⟨r,hr⟩:=ZaN (l:=chunk sz len (cs.drop off)) (m:=rows') (by rw[hk.2.1,hl]) hr'
    obtain⟨x,hx⟩:=ZaN (h1 i r r' hr hr') hy
    obtain⟨c1,c2,c3,c4⟩:=ZfH sz len (cs.drop off) i j r x Xf hr hx
    rw[List.getElem?_drop,<- zaZ]at c4
    obtain⟨u,hu,hv⟩:=hcs.get c4
    refine⟨x,u,(h2 i r r' j x y hr hr' hx hy).one.symm,?_,(List.getElem?_eq_some_iff.1 c4).1,ih i r r' j x y hr hr' hx hy hv⟩
    simp only[World.cell?,hblk]
    simpa using hu
   let f:Nat->Nat->Value:=fun i j=>(w.cell? ⟨b,off+i * sz+j,none⟩).getD undef
   have:=VR.sl (g:=g.frz H D) (w:=w) .no rows' (some ⟨b,off,none⟩) cap sz b off f Xa hm (fun _=>rfl) (fun r' hr'=>by
    obtain⟨i,hi2,rfl⟩:=zar hr'
    obtain⟨r,hr⟩:=ZaN (l:=chunk sz len (cs.drop off)) (m:=rows') (by rw[hk.2.1,hl]) (zac hi2)
    refine⟨by rw[<- h1 i r _ hr (zac hi2)];exact hk.2.2 r (List.mem_of_getElem? hr),fun y hy=>?_⟩
    obtain⟨j,hj,rfl⟩:=zar hy
    obtain⟨x,hx⟩:=ZaN (h1 i r _ hr (zac hi2)) (zac hj)
    obtain⟨c1,c2,c3,c4⟩:=ZfH sz len (cs.drop off) i j r x Xf hr hx
    rw[<- (h2 i r _ j x _ hr (zac hi2) hx (zac hj)).one]
    rw[List.getElem?_drop]at c4
    exact hone x (List.mem_of_getElem? c4)) (fun i r' j y hr' hy=>by
    obtain⟨x,u,_,k1,k2,_⟩:=key i r' j y hr' hy
    exact⟨by simp only[f,k1,Option.getD_some],.inr ⟨id,cs,E,hd,ho,hi,k2⟩⟩) (fun i r' j y hr' hy=>by
    obtain⟨x,u,_,k1,_,k3⟩:=key i r' j y hr' hy
    simp only[f,k1,Option.getD_some]
    exact k3) trivial
   rw[hl]at this
   exact this
 | sl t rows rows' hl h1 h2 ih =>
  cases h with
  | sl tok _ A c sz b o f hc hm hA hsz hcell hv ht =>
   have:=VR.sl (g:=g.frz H D) (w:=w) .no rows' A c sz b o f (by rw[<- hl];exact hc) hm (fun hne=>hA fun e=>hne (by rw[e]at hl;exact List.length_eq_zero_iff.1 hl.symm)) (fun r' hr'=>by
    obtain⟨i,hi,rfl⟩:=zar hr'
    obtain⟨r,hr⟩:=ZaN hl (zac hi)
    have hrm:=List.mem_of_getElem? hr
    have e:=h1 i r _ hr (zac hi)
    refine⟨by rw[<- e];exact(hsz r hrm).1,fun y hy=>?_⟩
    obtain⟨j,hj,rfl⟩:=zar hy
    obtain⟨x,hx⟩:=ZaN e (zac hj)
    rw[<- (h2 i r _ j x _ hr (zac hi) hx (zac hj)).one]
    exact(hsz r hrm).2 x (List.mem_of_getElem? hx)) (fun i r' j y hr' hy=>by
    obtain⟨r,hr⟩:=ZaN hl hr'
    obtain⟨x,hx⟩:=ZaN (h1 i r r' hr hr') hy
    exact⟨(hcell i r j x hr hx).1,.inl (hcell i r j x hr hx).2⟩) (fun i r' j y hr' hy=>by
    obtain⟨r,hr⟩:=ZaN hl hr'
    obtain⟨x,hx⟩:=ZaN (h1 i r r' hr hr') hy
    exact ih i r r' j x y hr hr' hx hy (hv i r j x hr hx)) trivial
   rw[hl]
   exact this
 | agg cs cs' hl hh ih =>
  cases h with
  | agg _ vs hl2 hone hv=>exact .agg cs' vs (by rw[<- hl];exact hl2) (fun y hy=>by
    obtain⟨j,hj,rfl⟩:=zar hy
    obtain⟨x,hx⟩:=ZaN hl (zac hj)
    rw[<- (hh j x _ hx (zac hj)).one]
    exact hone x (List.mem_of_getElem? hx)) (fun i y u hy hu=>by
    obtain⟨x,hx⟩:=ZaN hl hy
    exact ih i x y hx hy (hv i x u hx hu))
 | tup cs cs' hl hh ih =>
  cases h with
  | tup _ vs hl2 hv=>exact .tup cs' vs (by rw[<- hl];exact hl2) (fun i y u hy hu=>by
    obtain⟨x,hx⟩:=ZaN hl hy
    exact ih i x y hx hy (hv i x u hx hu))
theorem frz_ok (hW:WR g H w):WR (g.frz H D) (H.ZFq D) w/\Stp g H w (g.frz H D) (H.ZFq D) w:=by
 have hin:∀id o,(H.ZFq D).get id=some o->D id=false/\H.get id=some o:=fun id o h=>by
  unfold Zaa.ZFq at h
  cases hd:D id with
  | true=>simp[hd]at h
  | false=>exact⟨rfl,by simpa [hd] using h⟩
 have own:∀id cs E b,D id=true->H.get id=some (.cells cs E)->g.ι id=some b->Own g H b:=fun id cs E b _ h2 h3=>⟨id,_,h2,h3⟩
 have ne:∀i o b,D i=false->H.get i=some o->Zcy g i o b->∀j,¬(∃id cs E,D id=true/\H.get id=some (.cells cs E)/\g.ι id=some b/\j<cs.length):=fun i o b hd ho hb j ⟨id,cs,E,k1,k2,k3,_⟩=>by
  have:=hW.inj i id o _ b ho k2 hb k3
  subst this
  rw[hd]at k1;cases k1
 refine⟨⟨fun id o h=>?_,fun i i' o o' b a1 a2 b1 b2=>hW.inj i i' o o' b (hin _ _ a1).2 (hin _ _ a2).2 ?_ ?_,hW.dom,fun id o b h1 h2=>hW.bd id o b (hin _ _ h1).2 ?_,fun b j h=>?_⟩,⟨ZjF,zad _,rfl,rfl,rfl,zad _,fun _ _ _=>rfl,fun b _ ⟨i,o,a1,a2⟩=>⟨i,o,(hin _ _ a1).2,?_⟩,fun b j _ h=>?_⟩⟩
 ·obtain⟨hd,ho⟩:=hin _ _ h
  have hR:=hW.obj id o ho
  cases o with
  | cells cs E =>
   obtain⟨b,carr,k1,k2,k3,k4,k5⟩:=hR
   exact⟨b,carr,k1,k2,k3.mono ZjF,k4,fun j hj=>hj.elim (k5 j) (ne id _ b hd ho k1 j)⟩
  | tok n E sz =>
   obtain⟨cap,b,k1,k2,k3,k4⟩:=hR
   refine⟨cap,b,k1,k2,k3,fun hc=>?_⟩
   obtain⟨carr,m1,m2,m3⟩:=k4 hc
   exact⟨carr,m1,m2,fun j hj hj2=>hj2.elim (m3 j hj) (ne id _ b hd ho ⟨n,cap,k1,hc⟩ j)⟩
  | map kk es del =>
   obtain⟨b,entries,clock,k1,k2,k3,k4,k5,k6,k7⟩:=hR
   refine⟨b,entries,clock,k1,k2,k3,fun i k x e h1 h2=>?_,k5,k6,fun j hj=>hj.elim (k7.1 j) (ne id _ b hd ho k1 j),k7.2⟩
   obtain⟨p1,p2,p3,p4⟩:=k4 i k x e h1 h2
   exact⟨p1,p2,p3.mono ZjF,p4⟩
  | iter mi ni si =>
   obtain⟨b,bm,born,k1,k2,k3,k4,k5,k6⟩:=hR
   exact⟨b,bm,born,k1,k2,k3,k4,k5,fun j hj=>hj.elim (k6 j) (ne id _ b hd ho k1 j)⟩
 ·cases o<;>exact b1
 ·cases o'<;>exact b2
 ·cases o<;>exact h2
 ·rcases h with h|⟨id,cs,E,_,k2,k3,_⟩
  ·exact hW.ro b j h
  ·exact hW.bd id _ b k2 k3
 ·cases o<;>exact a2
 ·rcases h with h|⟨id,cs,E,k1,k2,k3,_⟩
  ·exact .inl h
  ·exact .inr (own id cs E b k1 k2 k3)
end
theorem Zb6.frz {r v:AV} {H H2:Zaa} {D:Nat->Bool} (hf:Frz H D r v) (h1:∀i o,H2.get i=some o->D i=false/\H.get i=some o) (h2:H.next<=H2.next):Zb6 r H v H2:=fun g w u hv hW=>by
 obtain⟨k1,k2⟩:=frz_ok (D:=D) hW
 obtain⟨k3,k4⟩:=Zf3 k1 (H2:=H2) (fun i o ho=>by obtain⟨a,b⟩:=h1 i o ho;rw[ZD7 a];exact b) h2
 exact⟨g.frz H D,hv.frz hf hW,k3,k2.trans k4⟩
theorem ZpD {r v:AV} {H0 H:Zaa} {D:Nat->Bool} (hf:Frz H D r v) (hD:∀i,i<H0.next->D i=false) (hx:Zaa.Ext H0 H:=by exact AXT):∃r2 H2,Zb6 r H r2 H2/\Pure H0 v r2 H2 :=
 ⟨_,H0.bump (H.next - H0.next),Zb6.frz hf (fun i o h=>by
  have hh:H0.get i=some o:=h
  exact⟨hD i (Zaa.lt hh),hx.get i o hh⟩) (by have:=hx.next;simp;omega),rfl,_,rfl⟩
end Go.Proofs.YtdfgoekdlmkdfaaGreatDoor
