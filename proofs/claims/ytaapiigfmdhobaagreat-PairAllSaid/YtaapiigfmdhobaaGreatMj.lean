/- Texts of the walk, joined: U1 U2 U3 Yu Yd Yw Vc Yf. -/
import Derived.Test.YtaapiigfmdhobaaGreatMi
import Derived.Test.YtaapiigfmdhobaaGreatMh
import Derived.Test.YtaapiigfmdhobaaGreatMe
import Derived.Test.YtaapiigfmdhobaaGreatMd
namespace Go.Proofs.YtaapiigfmdhobaaGreat
set_option linter.unusedSimpArgs false
set_option linter.unusedVariables false
open Go.RowKit
theorem ZnX {a b:Nat} (h:((a:Int) != (b:Int))=true):a≠b:=by intro e;subst e;simp at h
theorem Zn4 {a b:Nat} (h:((a:Int) != (b:Int))=false):a=b:=by simp at h;omega
def Zc8 {α:Type} (e:α->α->Bool):List α->List α->Bool
 | [],[]=>true
 | a :: l,b :: m=>e a b&&Zc8 e l m
 | _,_=>false
theorem Zia {α:Type} {e:α->α->Bool}:∀{l m:List α},l.length≠m.length->Zc8 e l m=false
 | [],[],h=>absurd rfl h
 | [],_ :: _,_=>rfl
 | _ :: _,[],_=>rfl
 | a :: l,b :: m,h=>by
  simp only[Zc8,Zia (l:=l) (m:=m) (by simpa using h),Bool.and_false]
theorem Zji {α:Type} {e:α->α->Bool} {l m:List α} {k:Nat} (h:k<l.length) (h2:k<m.length):Zc8 e (l.drop k) (m.drop k)=(e l[k] m[k]&&Zc8 e (l.drop (k+1)) (m.drop (k+1))):=by
 rw[zan h,zan h2];rfl
theorem ZkO {α:Type} {e:α->α->Bool} {l m:List α} {k:Nat} (h:l.length<=k) (h2:m.length<=k):Zc8 e (l.drop k) (m.drop k)=true:=by
 rw[zbo h,zbo h2];rfl
theorem Zhz {α:Type} [DecidableEq α]:∀{l m:List α},Zc8 (fun a b=>decide (a=b)) l m=decide (l=m)
 | [],[]=>by simp[Zc8]
 | [],_ :: _=>by simp[Zc8]
 | _ :: _,[]=>by simp[Zc8]
 | a :: l,b :: m=>by rw[zbc];simp[Zc8,Zhz (l:=l) (m:=m)]
theorem Zqi (t u:Tok) (a b:List Int) (H:Zaa) (hl:a.length<=1000000):Zay Tryz.prog 113 [.sl t (rI a),.sl u (rI b)] H (Pure H (.b (Zc8 (fun x y=>decide (x=y)) a b))):=by
 refine Zak hE cf113 (zac rfl) fun Q qr qn=>?_
 ((have hd:=tv;repeat' first|(first|apply Zad|apply Zac|apply Zab)<;>intro hd<;>try simp only[hd]|simp(disch:=first|assumption|omega|simp only[nx]<;>omega|fail)only[hd,qr,qn,ZpX,↓YA,YY,sevalprocAttr])<;>try revert hd;refine ttr ?_)
 ·refine ZbC (by rw[Zia (ZnX hd)])
 ·have hab:=Zn4 hd
  generalize hT:Zc8 (fun x y=>decide (x=y)) a b=T at *
  refine Zbs [0,1,12] (σ:=Unit) (fun(k:Nat) s=>T=Zc8 (fun x y=>decide (x=y)) (a.drop k) (b.drop k)) (fun k s=>[]) (fun k s=>[]) () (GStep.refl _ _) (by simp only[ZaA,Zav,Fr.put,Fr.get,↓reduceIte,Nat.reduceEqDiff];rfl) (by intro k s;rfl) (by intro k s;rfl) (by rfl) (by unfold maxLen;omega) ?_ (by simp only[ZaF]) (by simp only[ZaJ]) ?_ ?_
  ·exact hT.symm
  ·(rintro k s G hk ht hG hn;try simp only[nx]at hn)
   have hk2:k<b.length:=hab ▸ hk
   rw[Zji hk hk2]at ht
   ((have hd:=tv;repeat' first|(first|apply Zad|apply Zac|apply Zab)<;>intro hd<;>try simp only[hd]|simp(disch:=first|assumption|omega|simp only[nx]<;>omega|fail)only[hd,qr,qn,ZpX,↓YA,YY,sevalprocAttr])<;>try revert hd;refine ttr ?_)
   ·refine ZbC (by grind)
   ·refine⟨(),by grind,by exact HXT⟩
  ·(rintro s G ht hG hn;try simp only[nx]at hn)
   ((have hd:=tv;repeat' first|(first|apply Zad|apply Zac|apply Zab)<;>intro hd<;>try simp only[hd]|simp(disch:=first|assumption|omega|simp only[nx]<;>omega|fail)only[hd,qr,qn,ZpX,↓YA,YY,sevalprocAttr])<;>try revert hd;refine ttr ?_)
   refine ZbC (by rw[ht,ZkO (zaf _) (by omega)])
theorem eqf_ints {f:FuncId} {e:List Int->List Int->Bool} (t u:Tok) (a b:List (List Int)) (H:Zaa) (hl:a.length<=1000000) (hf:∀x∈a,∀(y:List Int) G,Zay Tryz.prog f [.sl .no (rI x),.sl .no (rI y)] G (Pure G (.b (e x y)))) :
  Zay Tryz.prog 112 [.sl t (rII a),.sl u (rII b),.fn f [] []] H (Pure H (.b (Zc8 e a b))):=by
 refine Zak hE cf112 (zac rfl) fun Q qr qn=>?_
 ((have hd:=tv;repeat' first|(first|apply Zad|apply Zac|apply Zab)<;>intro hd<;>try simp only[hd]|simp(disch:=first|assumption|omega|simp only[nx]<;>omega|fail)only[hd,qr,qn,Zpf,↓YA,YY,sevalprocAttr])<;>try revert hd;refine ttr ?_)
 ·refine ZbC (by rw[Zia (ZnX hd)])
 ·have hab:=Zn4 hd
  generalize hT:Zc8 e a b=T at *
  refine Zbs [1,2,15,16] (σ:=Unit) (fun(k:Nat) s=>T=Zc8 e (a.drop k) (b.drop k)) (fun k s=>[]) (fun k s=>[]) () (GStep.refl _ _) (by simp only[ZaA,Zav,Fr.put,Fr.get,↓reduceIte,Nat.reduceEqDiff];rfl) (by intro k s;rfl) (by intro k s;rfl) (by rfl) (by unfold maxLen;omega) ?_ (by simp only[ZaF]) (by simp only[ZaJ]) ?_ ?_
  ·exact hT.symm
  ·(rintro k s G hk ht hG hn;try simp only[nx]at hn)
   have hk2:k<b.length:=hab ▸ hk
   rw[Zji hk hk2]at ht
   ((have hd:=tv;repeat' first|(first|apply Zad|apply Zac|apply Zab)<;>intro hd<;>try simp only[hd]|simp(disch:=first|assumption|omega|simp only[nx]<;>omega|fail)only[hd,qr,qn,Zpf,↓YA,YY,sevalprocAttr])<;>try revert hd;refine ttr ?_)
   (refine Zap.use (hf a[k] (zam hk) b[k] _) ?_;rintro _ _ ⟨rfl,k1,rfl⟩)
   ((have hd:=tv;repeat' first|(first|apply Zad|apply Zac|apply Zab)<;>intro hd<;>try simp only[hd]|simp(disch:=first|assumption|omega|simp only[nx]<;>omega|fail)only[hd,qr,qn,Zpf,↓YA,YY,sevalprocAttr])<;>try revert hd;refine ttr ?_)
   ·refine ZbC (by grind)
   ·refine⟨(),by grind,by exact HXT⟩
  ·(rintro s G ht hG hn;try simp only[nx]at hn)
   ((have hd:=tv;repeat' first|(first|apply Zad|apply Zac|apply Zab)<;>intro hd<;>try simp only[hd]|simp(disch:=first|assumption|omega|simp only[nx]<;>omega|fail)only[hd,qr,qn,Zpf,↓YA,YY,sevalprocAttr])<;>try revert hd;refine ttr ?_)
   refine ZbC (by rw[ht,ZkO (zaf _) (by omega)])
theorem nod_eq {a b:Nod}:decide (a=b)=(decide (a.dim=b.dim)&&(decide (a.all=b.all)&&decide (a.lists=b.lists))):=by
 obtain⟨d,l,c⟩:=a
 obtain⟨d',l',c'⟩:=b
 rw[zbc]
 simp
 grind
theorem shp_eq {a b:Shp}:decide (a=b)=(decide (a.measures=b.measures)&&decide (a.sizes=b.sizes)):=by
 obtain⟨s,m⟩:=a
 obtain⟨s',m'⟩:=b
 rw[zbc]
 simp
 grind
theorem Zpx (t u:Tok) (a b:Nod) (H:Zaa) (ha:Zdb a):Zay Tryz.prog 59 [.agg (ZbD t a),.agg (ZbD u b)] H (Pure H (.b (decide (a=b)))):=by
 rw[nod_eq,← Zhz]
 refine Zak hE cf59 (zac rfl) fun Q qr qn=>?_
 ((have hd:=tv;repeat' first|(first|apply Zad|apply Zac|apply Zab)<;>intro hd<;>try simp only[hd]|simp(disch:=first|assumption|omega|simp only[nx]<;>omega|fail)only[hd,qr,qn,Zqj,↓YA,YY,sevalprocAttr])<;>try revert hd;refine ttr ?_)
 ·refine ZbC (by rw[Zia (ZnX hd)];simp)
 ·rename_i h1 h2
  have hab:=Zn4 hd
  have h1:decide (a.dim=b.dim)=true:=by simp at h1;simp[h1]
  have h2:decide (a.all=b.all)=true:=by simpa using h2
  rw[h1,h2,za2,za2]at qr qn
  have hl:=ha.1
  generalize hT:Zc8 (fun x y=>decide (x=y)) a.lists b.lists=T at *
  refine Zbs [2,3,30] (σ:=Unit) (fun(k:Nat) s=>T=Zc8 (fun x y=>decide (x=y)) (a.lists.drop k) (b.lists.drop k)) (fun k s=>[]) (fun k s=>[]) () (GStep.refl _ _) (by simp only[ZaA,Zav,Fr.put,Fr.get,↓reduceIte,Nat.reduceEqDiff];rfl) (by intro k s;rfl) (by intro k s;rfl) (by rfl) (by unfold maxLen;omega) ?_ (by simp only[ZaF]) (by simp only[ZaJ]) ?_ ?_
  ·exact hT.symm
  ·(rintro i s G hk ht hG hn;try simp only[nx]at hn)
   have hk2:i<b.lists.length:=hab ▸ hk
   rw[Zji hk hk2,← Zhz]at ht
   have hak:=ha.2.2 _ (zam hk)
   ((have hd:=tv;repeat' first|(first|apply Zad|apply Zac|apply Zab)<;>intro hd<;>try simp only[hd]|simp(disch:=first|assumption|omega|simp only[nx]<;>omega|fail)only[hd,qr,qn,Zqj,↓YA,YY,sevalprocAttr,hG.get])<;>try revert hd;refine ttr ?_)
   ·refine ZbC (by rw[ht,Zia (ZnX hd)];rfl)
   ·have hab2:=Zn4 hd
    generalize hR:Zc8 (fun x y=>decide (x=y)) (a.lists.drop (i+1)) (b.lists.drop (i+1))=R at *
    refine Zbs [2,3,5,30,31,52] (σ:=Unit) (fun(k:Nat) s=>T=(Zc8 (fun x y=>decide (x=y)) (a.lists[i].drop k) (b.lists[i].drop k)&&R)) (fun k s=>[]) (fun k s=>[]) () (GStep.refl _ _) (by simp only[ZaA,Zav,Fr.put,Fr.get,↓reduceIte,Nat.reduceEqDiff];rfl) (by intro k s;rfl) (by intro k s;rfl) (by rfl) (by unfold maxLen;omega) ?_ (by simp only[ZaF]) (by simp only[ZaJ]) ?_ ?_
    ·exact ht
    ·(rintro j s2 G2 hj ht2 hG2 hn2;try simp only[nx]at hn2)
     have hj2:j<b.lists[i].length:=hab2 ▸ hj
     rw[Zji hj hj2]at ht2
     ((have hd:=tv;repeat' first|(first|apply Zad|apply Zac|apply Zab)<;>intro hd<;>try simp only[hd]|simp(disch:=first|assumption|omega|simp only[nx]<;>omega|fail)only[hd,qr,qn,Zqj,↓YA,YY,sevalprocAttr,hG2.get,hG.get])<;>try revert hd;refine ttr ?_)
     ·refine ZbC (by grind)
     ·refine⟨(),by grind,by exact HXT⟩
    ·(rintro s2 G2 ht2 hG2 hn2;try simp only[nx]at hn2)
     rw[ZkO (zaf _) (by omega),za2]at ht2
     ((have hd:=tv;repeat' first|(first|apply Zad|apply Zac|apply Zab)<;>intro hd<;>try simp only[hd]|simp(disch:=first|assumption|omega|simp only[nx]<;>omega|fail)only[hd,qr,qn,Zqj,↓YA,YY,sevalprocAttr])<;>try revert hd;refine ttr ?_)
     refine⟨(),ht2.trans hR.symm,hG.ZeP hG2⟩
  ·(rintro s G ht hG hn;try simp only[nx]at hn)
   ((have hd:=tv;repeat' first|(first|apply Zad|apply Zac|apply Zab)<;>intro hd<;>try simp only[hd]|simp(disch:=first|assumption|omega|simp only[nx]<;>omega|fail)only[hd,qr,qn,Zqj,↓YA,YY,sevalprocAttr])<;>try revert hd;refine ttr ?_)
   refine ZbC (by rw[ht,ZkO (zaf _) (by omega)])
 ·refine ZbC (by grind)
 ·refine ZbC (by grind)
theorem ZoI (t u:Tok) (a b:List Nod) (H:Zaa) (hl:a.length<=1000000) (ha:∀n∈a,Zdb n):Zay Tryz.prog 17 [.sl t (rN a),.sl u (rN b)] H (Pure H (.b (decide (a=b)))):=by
 rw[← Zhz]
 refine Zak hE cf17 (zac rfl) fun Q qr qn=>?_
 ((have hd:=tv;repeat' first|(first|apply Zad|apply Zac|apply Zab)<;>intro hd<;>try simp only[hd]|simp(disch:=first|assumption|omega|simp only[nx]<;>omega|fail)only[hd,qr,qn,ZqR,↓YA,YY,sevalprocAttr])<;>try revert hd;refine ttr ?_)
 ·refine ZbC (by rw[Zia (ZnX hd)])
 ·have hab:=Zn4 hd
  generalize hT:Zc8 (fun x y=>decide (x=y)) a b=T at *
  refine Zbs [0,1,12] (σ:=Unit) (fun(k:Nat) s=>T=Zc8 (fun x y=>decide (x=y)) (a.drop k) (b.drop k)) (fun k s=>[]) (fun k s=>[]) () (GStep.refl _ _) (by simp only[ZaA,Zav,Fr.put,Fr.get,↓reduceIte,Nat.reduceEqDiff];rfl) (by intro k s;rfl) (by intro k s;rfl) (by rfl) (by unfold maxLen;omega) ?_ (by simp only[ZaF]) (by simp only[ZaJ]) ?_ ?_
  ·exact hT.symm
  ·(rintro k s G hk ht hG hn;try simp only[nx]at hn)
   have hk2:k<b.length:=hab ▸ hk
   rw[Zji hk hk2]at ht
   ((have hd:=tv;repeat' first|(first|apply Zad|apply Zac|apply Zab)<;>intro hd<;>try simp only[hd]|simp(disch:=first|assumption|omega|simp only[nx]<;>omega|fail)only[hd,qr,qn,ZqR,↓YA,YY,sevalprocAttr])<;>try revert hd;refine ttr ?_)
   (refine Zap.use (Zpx .no .no a[k] b[k] _ (ha _ (zam hk))) ?_;rintro _ _ ⟨rfl,k1,rfl⟩)
   ((have hd:=tv;repeat' first|(first|apply Zad|apply Zac|apply Zab)<;>intro hd<;>try simp only[hd]|simp(disch:=first|assumption|omega|simp only[nx]<;>omega|fail)only[hd,qr,qn,ZqR,↓YA,YY,sevalprocAttr])<;>try revert hd;refine ttr ?_)
   ·refine ZbC (by grind)
   ·refine⟨(),by grind,by exact HXT⟩
  ·(rintro s G ht hG hn;try simp only[nx]at hn)
   ((have hd:=tv;repeat' first|(first|apply Zad|apply Zac|apply Zab)<;>intro hd<;>try simp only[hd]|simp(disch:=first|assumption|omega|simp only[nx]<;>omega|fail)only[hd,qr,qn,ZqR,↓YA,YY,sevalprocAttr])<;>try revert hd;refine ttr ?_)
   refine ZbC (by rw[ht,ZkO (zaf _) (by omega)])
theorem AV_i {a b:Int} (h:a=b):AV.i a=AV.i b:=by rw[h]
theorem Zoo {x:Shp} {l:List Nod} (h:Zm5 x l=0):ZbS x=true/\∀i (hi:i<l.length),ZbF x 131072 (l.take i) l[i]=0:=by
 unfold Zm5 at h
 cases hm:ZbS x with
 | false=>rw[hm]at h;cases h
 | true =>
  rw[hm]at h
  simp only[Bool.true_eq_false,if_false]at h
  have h':Znc x 131072 (l.take 0) (l.drop 0)=0:=h
  refine⟨rfl,?_⟩
  have:∀k,Znc x 131072 (l.take k) (l.drop k)=0->∀i (hi:i<l.length),k<=i->ZbF x 131072 (l.take i) l[i]=0:=by
   intro k
   generalize hn:l.length - k=n
   induction n generalizing k with
   | zero=>intro _ i hi hk;omega
   | succ n ih =>
    intro hk i hi hki
    have hkl:k<l.length:=by omega
    rw[Znw x 131072 l k hkl]at hk
    by_cases he:ZbF x 131072 (l.take k) l[k]=0
    ·rw[if_neg (by simpa using he)]at hk
     rcases Nat.eq_or_lt_of_le hki with rfl|hlt
     ·exact he
     ·exact ih (k+1) (by omega) hk i hi hlt
    ·rw[if_pos he]at hk;exact absurd hk he
  exact fun i hi=>this 0 h' i hi (zaG _)
theorem add_zero' {x:Shp} {most:Int} {l:List Nod} {n:Nod} (h:ZbF x most l n=0):Zbf x n=0/\ZeO x l n=true/\(l.length:Int)<most:=by
 unfold ZbF at h
 split at h
 ·rename_i h1;exact absurd h h1
 ·rename_i h1
  split at h
  ·cases h
  ·rename_i h2
   split at h
   ·cases h
   ·rename_i h3
    exact⟨by simpa using h1,by simpa using h2,by omega⟩
inductive Wkn:AV->AV->Prop
 | refl (a:AV):Wkn a a
 | sl (t:Tok) (rows rows':List (List AV)) (hl:rows.length=rows'.length) (h1:∀(i:Nat) (r r':List AV),rows[i]?=some r->rows'[i]?=some r'->r.length=r'.length)
  (h2:∀(i:Nat) (r r':List AV) (j:Nat) (x y:AV),rows[i]?=some r->rows'[i]?=some r'->r[j]?=some x->r'[j]?=some y->Wkn x y):Wkn (.sl t rows) (.sl .no rows')
 | agg (cs cs':List AV) (hl:cs.length=cs'.length) (h:∀(i:Nat) (x y:AV),cs[i]?=some x->cs'[i]?=some y->Wkn x y):Wkn (.agg cs) (.agg cs')
 | tup (cs cs':List AV) (hl:cs.length=cs'.length) (h:∀(i:Nat) (x y:AV),cs[i]?=some x->cs'[i]?=some y->Wkn x y):Wkn (.tup cs) (.tup cs')
section
variable {g:Gh} {w:World}
theorem Wkn.one {a b:AV} (h:Wkn a b):a.one=b.one:=by cases h<;>rfl
theorem ZaN {α:Type} {l m:List α} (hl:l.length=m.length) {i:Nat} {y:α} (h:m[i]?=some y):∃x,l[i]?=some x:=by
 have:=(zar.1 h).1
 exact⟨l[i]'(by omega),zab (by omega)⟩
theorem VR.wkn {a b:AV} {v:Value} (hw:Wkn a b) (h:VR g w a v):VR g w b v:=by
 induction hw generalizing v with
 | refl a=>exact h
 | sl t rows rows' hl h1 h2 ih =>
  cases h with
  | sl tok _ A c sz b o f hc hm hA hsz hcell hv ht =>
   have:=VR.sl (g:=g) (w:=w) .no rows' A c sz b o f (by rw[← hl];exact hc) hm (fun hne=>hA fun e=>hne (by rw[e]at hl;exact zby.1 hl.symm)) (fun r' hr'=>by
    obtain⟨i,hi,rfl⟩:=zaA hr'
    obtain⟨r,hr⟩:=ZaN hl (zab hi)
    have hrm:=zaS hr
    have e:=h1 i r _ hr (zab hi)
    refine⟨by rw[← e];exact(hsz r hrm).1,fun y hy=>?_⟩
    obtain⟨j,hj,rfl⟩:=zaA hy
    obtain⟨x,hx⟩:=ZaN e (zab hj)
    rw[← (h2 i r _ j x _ hr (zab hi) hx (zab hj)).one]
    exact(hsz r hrm).2 x (zaS hx)) (fun i r' j y hr' hy=>by
    obtain⟨r,hr⟩:=ZaN hl hr'
    obtain⟨x,hx⟩:=ZaN (h1 i r r' hr hr') hy
    exact hcell i r j x hr hx) (fun i r' j y hr' hy=>by
    obtain⟨r,hr⟩:=ZaN hl hr'
    obtain⟨x,hx⟩:=ZaN (h1 i r r' hr hr') hy
    exact ih i r r' j x y hr hr' hx hy (hv i r j x hr hx)) trivial
   rw[hl]
   exact this
 | agg cs cs' hl hh ih =>
  cases h with
  | agg _ vs hl2 hone hv=>exact .agg cs' vs (by rw[← hl];exact hl2) (fun y hy=>by
    obtain⟨j,hj,rfl⟩:=zaA hy
    obtain⟨x,hx⟩:=ZaN hl (zab hj)
    rw[← (hh j x _ hx (zab hj)).one]
    exact hone x (zaS hx)) (fun i y u hy hu=>by
    obtain⟨x,hx⟩:=ZaN hl hy
    exact ih i x y hx hy (hv i x u hx hu))
 | tup cs cs' hl hh ih =>
  cases h with
  | tup _ vs hl2 hv=>exact .tup cs' vs (by rw[← hl];exact hl2) (fun i y u hy hu=>by
    obtain⟨x,hx⟩:=ZaN hl hy
    exact ih i x y hx hy (hv i x u hx hu))
end
theorem Zb6.wkn {r v:AV} {H H2:Zaa} (hr:Wkn r v) (h:Zaa.Ext H2 H):Zb6 r H v (H2.bump (H.next - H2.next)):=fun g w u hv hW=>by
 obtain⟨k1,k2⟩:=Zf3 hW (H2:=H2.bump (H.next - H2.next)) (fun i o hi=>h.get i o hi) (by have:=h.next;simp;omega)
 exact⟨g,hv.wkn hr,k1,k2⟩
theorem Zc1 {r v:AV} {H0 H:Zaa} (hr:Wkn r v) (hx:Zaa.Ext H0 H:=by exact AXT):∃r2 H2,Zb6 r H r2 H2/\Pure H0 v r2 H2:=⟨_,_,Zb6.wkn hr hx,rfl,_,rfl⟩
abbrev rLt (ts:List (Tok×List Cel)):List (List AV):=ts.map fun p=>[.sl p.1 (rC p.2)]
theorem Zli (t:Tok) (ts:List (Tok×List Cel)):Wkn (.sl t (rLt ts)) (.sl .no (rL (ts.map (·.2)))):=by
 refine .sl _ _ _ (by simp) (fun i r r' h h'=>?_) (fun i r r' j x y h h' hx hy=>?_)
 ·simp only[zaR,zbA]at h h'
  cases hi:ts[i]? with
  | none=>rw[hi]at h;cases h
  | some p=>rw[hi]at h h';simp at h h';subst h h';rfl
 ·simp only[zaR,zbA]at h h'
  cases hi:ts[i]? with
  | none=>rw[hi]at h;cases h
  | some p =>
   rw[hi]at h h'
   simp at h h'
   subst h h'
   cases j with
   | zero=>simp at hx hy;subst hx hy;exact .sl _ _ _ rfl (fun i r r' h h'=>by rw[h]at h';injection h' with h';rw[h']) (fun i r r' j x y h h' hx hy=>by rw[h]at h';injection h' with h';subst h';rw[hx]at hy;injection hy with hy;subst hy;exact .refl _)
   | succ j=>simp at hx
def Ze0 (t:Tok) (dim:Int) (ts:List (Tok×List Cel)) (all:Cel):List AV:=.i dim :: .sl t (rLt ts) :: ZbE all
theorem Zp6 (t:Tok) (dim:Int) (ts:List (Tok×List Cel)) (all:Cel):Wkn (.agg (Ze0 t dim ts all)) (.agg (ZbD .no ⟨dim,ts.map (·.2),all⟩)):=by
 refine .agg _ _ rfl (fun i x y hx hy=>?_)
 have e:ZbD .no ⟨dim,ts.map (·.2),all⟩=.i dim :: .sl .no (rL (ts.map (·.2))) :: ZbE all:=rfl
 rw[e]at hy
 unfold Ze0 at hx
 match i with
 | 0=>simp at hx hy;subst hx hy;exact .refl _
 | 1=>simp at hx hy;subst hx hy;simpa using Zli t ts
 | i+2=>simp only[List.getElem?_cons_succ]at hx hy;rw[hx]at hy;injection hy with hy;subst hy;exact .refl _
theorem Zay.wknA {P:Program} {f:FuncId} {xs bs:List AV} {H:Zaa} {R:AV->Zaa->Prop} (h:Zay P f bs H R) (hl:xs.length=bs.length) (hw:∀(i:Nat) x y,xs[i]?=some x->bs[i]?=some y->Wkn x y):Zay P f xs H R :=
 ⟨h.1,fun g w vs hW hV=>h.2 g w vs hW ⟨by rw[← hl];exact hV.1,fun i y u hy hu=>by
  obtain⟨x,hx⟩:=ZaN hl hy
  exact(hV.2 i x u hx hu).wkn (hw i x y hx hy)⟩⟩
theorem Zcc {α:Type} {p:α->α->Bool}:∀{l m:List α},Zbr p l m=true->l.length=m.length/\∀(i:Nat) a b,l[i]?=some a->m[i]?=some b->p a b=true
 | [],[],_=>⟨rfl,fun i a b h=>by simp at h⟩
 | a :: l,b :: m,h=>by
  simp only[Zbr,zaB]at h
  obtain⟨h1,h2⟩:=Zcc h.2
  refine⟨by simp[h1],fun i x y hx hy=>?_⟩
  cases i with
  | zero=>simp at hx hy;subst hx hy;exact h.1
  | succ i=>simp at hx hy;exact h2 i x y hx hy
 | [],_ :: _,h=>by simp[Zbr]at h
 | _ :: _,[],h=>by simp[Zbr]at h
def wknB:Nat->AV->AV->Bool
 | 0,_,_=>false
 | n+1,a,b=>match a,b with
  | .sl _ r,.sl .no r'=>Zbr (Zbr (wknB n)) r r'
  | .agg cs,.agg ds=>Zbr (wknB n) cs ds
  | .tup cs,.tup ds=>Zbr (wknB n) cs ds
  | a,b=>AV.same (n+1) a b
theorem Zea:∀{n:Nat} {a b:AV},wknB n a b=true->Wkn a b
 | 0,_,_,h=>by simp[wknB]at h
 | n+1,a,b,h=>by
  unfold wknB at h
  split at h
  ·obtain⟨h1,h2⟩:=Zcc h
   exact .sl _ _ _ h1 (fun i r r' a b=>(Zcc (h2 i r r' a b)).1) (fun i r r' j x y a b c d=>Zea ((Zcc (h2 i r r' a b)).2 j x y c d))
  ·obtain⟨h1,h2⟩:=Zcc h
   exact .agg _ _ h1 fun i x y a b=>Zea (h2 i x y a b)
  ·obtain⟨h1,h2⟩:=Zcc h
   exact .tup _ _ h1 fun i x y a b=>Zea (h2 i x y a b)
  ·rw[AV.Zlv h];exact .refl _
theorem Zc7 {sz:Nat}:∀{rows:List (List AV)},(∀q∈rows,q.length=sz)->rows.flatten.length=rows.length * sz
 | [],_=>by simp
 | q :: rows,h=>by
  simp only[List.flatten_cons,zak,List.length_cons]
  rw[Zc7 fun q hq=>h q (zae _ hq),h q (zah ..),zaY]
  omega
theorem Zp3 {H:Zaa} {E sz bytes id cap:Nat} {zero:List AV} {rows:List (List AV)} {tail r:List AV} {x:AV} {K:AV->Zaa->Prop}
  (ho:H.get id=some (.cells (rows.flatten++tail) E)) (hl:∀q∈rows,q.length=sz) (hx:ZaL H sz x=some [r]) (hr:r.length=sz)
  (hcl:(rows.flatten++tail).length=cap * sz) (hn:rows.length<=cap) (h63:rows.length+1<=maxLen) (hby:(rows.length+1) * bytes<=140737488355328) (hz:zero.length=sz)
  (k:∀id' cap' tail' H',(id'=id/\H'=H.set id (.cells ((rows++[r]).flatten++tail') E))∨(id'=H.next/\H'=H.alloc (.cells ((rows++[r]).flatten++tail') E))->((rows++[r]).flatten++tail').length=cap' * sz->rows.length+1<=cap'->cap'<=maxLen∨cap'=cap->K (.arr id' 0 (rows.length+1) cap') H') :
  Zk3 H E sz bytes zero (.arr id 0 rows.length cap) x K:=by
 have hfl:=Zc7 hl
 unfold Zk3
 rw[hx]
 simp only[ho]
 refine⟨⟨trivial,trivial,by simp,by simp[ZaE,hr],hcl,hn,h63,hby⟩,fun h1=>?_,fun h1 c h2 h3=>?_⟩
 ·have htl:sz<=tail.length:=by
   rw[zak,hfl]at hcl
   have:(rows.length+1) * sz<=cap * sz:=zbr _ h1
   rw[zaY]at this
   omega
  have e:splice (rows.flatten++tail) (rows.length * sz) [r].flatten=(rows++[r]).flatten++tail.drop sz:=by
   unfold splice
   rw[← hfl,List.take_left]
   simp only[zbI,List.flatten_cons,List.flatten_nil,zaw,hr]
   rw[List.drop_length_add_append]
  rw[e]
  refine k id cap (tail.drop sz) _ (.inl ⟨rfl,rfl⟩) ?_ h1 (.inr rfl)
  rw[← hcl]
  simp only[zbI,List.flatten_cons,List.flatten_nil,zaw,zak,List.length_drop,hr]
  omega
 ·have e:(rows.flatten++tail).take (rows.length * sz)++([r].flatten++(List.replicate (c - (rows.length+1)) zero).flatten)=(rows++[r]).flatten++(List.replicate (c - (rows.length+1)) zero).flatten:=by
   rw[← hfl,List.take_left]
   simp
  have hlen1:[r].length=1:=rfl
  simp only[hlen1]at h1 h2 ⊢
  rw[e]
  refine k H.next c _ _ (.inr ⟨rfl,rfl⟩) ?_ h2 (.inl h3)
  have hrep:=Zc7 (sz:=sz) (rows:=List.replicate (c - (rows.length+1)) zero) (fun q hq=>by rw[(zbJ.1 hq).2];exact hz)
  rw[zak,hrep,List.length_replicate]
  simp only[zbI,List.flatten_cons,List.flatten_nil,zaw,zak,hfl,hr]
  have:c * sz=(rows.length+1) * sz+(c - (rows.length+1)) * sz:=by rw[← zaY];congr 1;omega
  rw[this,zaY]
  omega
theorem ZfH (sz:Nat):∀(n:Nat) (cs:List AV) (i j:Nat) (r:List AV) (x:AV),n * sz<=cs.length->(chunk sz n cs)[i]?=some r->r[j]?=some x->i<n/\j<sz/\r.length=sz/\cs[i * sz+j]?=some x
 | 0,cs,i,j,r,x,_,h,_=>by simp[chunk]at h
 | n+1,cs,i,j,r,x,hl,h,hx=>by
  have e:(n+1) * sz=n * sz+sz:=by rw[zaY];omega
  cases i with
  | zero =>
   simp[chunk]at h
   subst h
   have h1:j<(cs.take sz).length:=(zar.1 hx).1
   have h2:(cs.take sz).length=sz:=by simp;omega
   refine⟨by omega,by omega,h2,?_⟩
   rw[zbe]at hx
   rw[if_pos (by omega)]at hx
   simpa using hx
  | succ i =>
   simp[chunk]at h
   obtain⟨h1,h2,h3,h4⟩:=ZfH sz n (cs.drop sz) i j r x (by simp;omega) h hx
   refine⟨by omega,h2,h3,?_⟩
   rw[zbi]at h4
   rw[← h4]
   congr 1
   rw[zaY];omega
def Zaa.dels (H:Zaa) (D:Nat->Bool):Zaa:=⟨fun i=>bif D i then none else H.get i,H.next,fun i hi=>by rw[H.wf i hi];cases D i<;>rfl⟩
theorem dels_get {H:Zaa} {D:Nat->Bool} {i:Nat} (h:D i=false):(H.dels D).get i=H.get i:=by simp[Zaa.dels,h]
inductive Frz (H:Zaa) (D:Nat->Bool):AV->AV->Prop
 | refl (a:AV):Frz H D a a
 | arr (id off sz len cap E:Nat) (cs:List AV) (rows':List (List AV)) (hd:D id=true) (ho:H.get id=some (.cells cs E)) (hb:off+len * sz<=cs.length) (hl:rows'.length=len)
  (h1:∀(i:Nat) (r r':List AV),(chunk sz len (cs.drop off))[i]?=some r->rows'[i]?=some r'->r.length=r'.length)
  (h2:∀(i:Nat) (r r':List AV) (j:Nat) (x y:AV),(chunk sz len (cs.drop off))[i]?=some r->rows'[i]?=some r'->r[j]?=some x->r'[j]?=some y->Frz H D x y):Frz H D (.arr id off len cap) (.sl .no rows')
 | sl (t:Tok) (rows rows':List (List AV)) (hl:rows.length=rows'.length) (h1:∀(i:Nat) (r r':List AV),rows[i]?=some r->rows'[i]?=some r'->r.length=r'.length)
  (h2:∀(i:Nat) (r r':List AV) (j:Nat) (x y:AV),rows[i]?=some r->rows'[i]?=some r'->r[j]?=some x->r'[j]?=some y->Frz H D x y):Frz H D (.sl t rows) (.sl .no rows')
 | agg (cs cs':List AV) (hl:cs.length=cs'.length) (h:∀(i:Nat) (x y:AV),cs[i]?=some x->cs'[i]?=some y->Frz H D x y):Frz H D (.agg cs) (.agg cs')
 | tup (cs cs':List AV) (hl:cs.length=cs'.length) (h:∀(i:Nat) (x y:AV),cs[i]?=some x->cs'[i]?=some y->Frz H D x y):Frz H D (.tup cs) (.tup cs')
section
variable {g:Gh} {H:Zaa} {w:World} {D:Nat->Bool}
theorem Frz.one {a b:AV} (h:Frz H D a b):a.one=b.one:=by cases h<;>rfl
def Gh.frz (g:Gh) (H:Zaa) (D:Nat->Bool):Gh:={ g with RO:=fun b j=>g.RO b j∨∃id cs E,D id=true/\H.get id=some (.cells cs E)/\g.ι id=some b/\j<cs.length }
theorem ZjF:g.le (g.frz H D) w w:=⟨fun _ _ h=>h,fun _ _ _ _ h=>⟨_,_,_,h,.inr ⟨rfl,rfl,rfl⟩⟩,fun _ _ _ h=>h,fun _ _ h=>.inl h,fun _ _ _=>rfl⟩
theorem VR.frz {a b:AV} {v:Value} (hf:Frz H D a b) (hW:WR g H w) (h:VR g w a v):VR (g.frz H D) w b v:=by
 induction hf generalizing v with
 | refl a=>exact h.mono ZjF
 | arr id off sz len cap E cs rows' hd ho hb hl h1 h2 ih =>
  cases h with
  | arr _ _ _ _ b hi hc hm =>
   obtain⟨b',carr,hi',hblk,hcs,hone,_⟩:=hW.obj id _ ho
   rw[hi]at hi'
   injection hi' with hi'
   subst hi'
   have hk:=Zez sz len (cs.drop off) (by simp;omega)
   have key:∀i r' j y,rows'[i]?=some r'->r'[j]?=some y->∃(x:AV) (u:Value),y.one=x.one/\w.cell? ⟨b,off+i * sz+j,none⟩=some u/\off+i * sz+j<cs.length/\VR (g.frz H D) w y u:=fun i r' j y hr' hy=>by
    obtain⟨r,hr⟩:=ZaN (l:=chunk sz len (cs.drop off)) (m:=rows') (by rw[hk.2.1,hl]) hr'
    obtain⟨x,hx⟩:=ZaN (h1 i r r' hr hr') hy
    obtain⟨c1,c2,c3,c4⟩:=ZfH sz len (cs.drop off) i j r x (by simp;omega) hr hx
    rw[zbi,← zbC]at c4
    obtain⟨u,hu,hv⟩:=hcs.get c4
    refine⟨x,u,(h2 i r r' j x y hr hr' hx hy).one.symm,?_,(zar.1 c4).1,ih i r r' j x y hr hr' hx hy hv⟩
    simp only[World.cell?,hblk]
    simpa using hu
   let f:Nat->Nat->Value:=fun i j=>(w.cell? ⟨b,off+i * sz+j,none⟩).getD undef
   have:=VR.sl (g:=g.frz H D) (w:=w) .no rows' (some ⟨b,off,none⟩) cap sz b off f (by omega) hm (fun _=>rfl) (fun r' hr'=>by
    obtain⟨i,hi2,rfl⟩:=zaA hr'
    obtain⟨r,hr⟩:=ZaN (l:=chunk sz len (cs.drop off)) (m:=rows') (by rw[hk.2.1,hl]) (zab hi2)
    refine⟨by rw[← h1 i r _ hr (zab hi2)];exact hk.2.2 r (zaS hr),fun y hy=>?_⟩
    obtain⟨j,hj,rfl⟩:=zaA hy
    obtain⟨x,hx⟩:=ZaN (h1 i r _ hr (zab hi2)) (zab hj)
    obtain⟨c1,c2,c3,c4⟩:=ZfH sz len (cs.drop off) i j r x (by simp;omega) hr hx
    rw[← (h2 i r _ j x _ hr (zab hi2) hx (zab hj)).one]
    rw[zbi]at c4
    exact hone x (zaS c4)) (fun i r' j y hr' hy=>by
    obtain⟨x,u,_,k1,k2,_⟩:=key i r' j y hr' hy
    exact⟨by simp only[f,k1,Option.getD_some],.inr ⟨id,cs,E,hd,ho,hi,k2⟩⟩) (fun i r' j y hr' hy=>by
    obtain⟨x,u,_,k1,_,k3⟩:=key i r' j y hr' hy
    simp only[f,k1,Option.getD_some]
    exact k3) trivial
   rw[hl]at this
   exact this
 | sl t rows rows' hl h1 h2 ih =>
  cases h with
  | sl tok _ A c sz b o f hc hm hA hsz hcell hv ht =>
   have:=VR.sl (g:=g.frz H D) (w:=w) .no rows' A c sz b o f (by rw[← hl];exact hc) hm (fun hne=>hA fun e=>hne (by rw[e]at hl;exact zby.1 hl.symm)) (fun r' hr'=>by
    obtain⟨i,hi,rfl⟩:=zaA hr'
    obtain⟨r,hr⟩:=ZaN hl (zab hi)
    have hrm:=zaS hr
    have e:=h1 i r _ hr (zab hi)
    refine⟨by rw[← e];exact(hsz r hrm).1,fun y hy=>?_⟩
    obtain⟨j,hj,rfl⟩:=zaA hy
    obtain⟨x,hx⟩:=ZaN e (zab hj)
    rw[← (h2 i r _ j x _ hr (zab hi) hx (zab hj)).one]
    exact(hsz r hrm).2 x (zaS hx)) (fun i r' j y hr' hy=>by
    obtain⟨r,hr⟩:=ZaN hl hr'
    obtain⟨x,hx⟩:=ZaN (h1 i r r' hr hr') hy
    exact⟨(hcell i r j x hr hx).1,.inl (hcell i r j x hr hx).2⟩) (fun i r' j y hr' hy=>by
    obtain⟨r,hr⟩:=ZaN hl hr'
    obtain⟨x,hx⟩:=ZaN (h1 i r r' hr hr') hy
    exact ih i r r' j x y hr hr' hx hy (hv i r j x hr hx)) trivial
   rw[hl]
   exact this
 | agg cs cs' hl hh ih =>
  cases h with
  | agg _ vs hl2 hone hv=>exact .agg cs' vs (by rw[← hl];exact hl2) (fun y hy=>by
    obtain⟨j,hj,rfl⟩:=zaA hy
    obtain⟨x,hx⟩:=ZaN hl (zab hj)
    rw[← (hh j x _ hx (zab hj)).one]
    exact hone x (zaS hx)) (fun i y u hy hu=>by
    obtain⟨x,hx⟩:=ZaN hl hy
    exact ih i x y hx hy (hv i x u hx hu))
 | tup cs cs' hl hh ih =>
  cases h with
  | tup _ vs hl2 hv=>exact .tup cs' vs (by rw[← hl];exact hl2) (fun i y u hy hu=>by
    obtain⟨x,hx⟩:=ZaN hl hy
    exact ih i x y hx hy (hv i x u hx hu))
theorem frz_ok (hW:WR g H w):WR (g.frz H D) (H.dels D) w/\Stp g H w (g.frz H D) (H.dels D) w:=by
 have hin:∀id o,(H.dels D).get id=some o->D id=false/\H.get id=some o:=fun id o h=>by
  unfold Zaa.dels at h
  cases hd:D id with
  | true=>simp[hd]at h
  | false=>exact⟨rfl,by simpa [hd] using h⟩
 have own:∀id cs E b,D id=true->H.get id=some (.cells cs E)->g.ι id=some b->Own g H b:=fun id cs E b _ h2 h3=>⟨id,_,h2,h3⟩
 have ne:∀i o b,D i=false->H.get i=some o->Zcy g i o b->∀j,¬(∃id cs E,D id=true/\H.get id=some (.cells cs E)/\g.ι id=some b/\j<cs.length):=fun i o b hd ho hb j ⟨id,cs,E,k1,k2,k3,_⟩=>by
  have:=hW.inj i id o _ b ho k2 hb k3
  subst this
  rw[hd]at k1;cases k1
 refine⟨⟨fun id o h=>?_,fun i i' o o' b a1 a2 b1 b2=>hW.inj i i' o o' b (hin _ _ a1).2 (hin _ _ a2).2 ?_ ?_,hW.dom,fun id o b h1 h2=>hW.bd id o b (hin _ _ h1).2 ?_,fun b j h=>?_⟩,⟨ZjF,zaf _,rfl,rfl,rfl,zaf _,fun _ _ _=>rfl,fun b _ ⟨i,o,a1,a2⟩=>⟨i,o,(hin _ _ a1).2,?_⟩,fun b j _ h=>?_⟩⟩
 ·obtain⟨hd,ho⟩:=hin _ _ h
  have hR:=hW.obj id o ho
  cases o with
  | cells cs E =>
   obtain⟨b,carr,k1,k2,k3,k4,k5⟩:=hR
   exact⟨b,carr,k1,k2,k3.mono ZjF,k4,fun j hj=>hj.elim (k5 j) (ne id _ b hd ho k1 j)⟩
  | tok n E sz =>
   obtain⟨cap,b,k1,k2,k3,k4⟩:=hR
   refine⟨cap,b,k1,k2,k3,fun hc=>?_⟩
   obtain⟨carr,m1,m2,m3⟩:=k4 hc
   exact⟨carr,m1,m2,fun j hj hj2=>hj2.elim (m3 j hj) (ne id _ b hd ho ⟨n,cap,k1,hc⟩ j)⟩
  | map kk es del =>
   obtain⟨b,entries,clock,k1,k2,k3,k4,k5,k6,k7⟩:=hR
   refine⟨b,entries,clock,k1,k2,k3,fun i k x e h1 h2=>?_,k5,k6,fun j hj=>hj.elim (k7.1 j) (ne id _ b hd ho k1 j),k7.2⟩
   obtain⟨p1,p2,p3,p4⟩:=k4 i k x e h1 h2
   exact⟨p1,p2,p3.mono ZjF,p4⟩
  | iter mi ni si =>
   obtain⟨b,bm,born,k1,k2,k3,k4,k5,k6⟩:=hR
   exact⟨b,bm,born,k1,k2,k3,k4,k5,fun j hj=>hj.elim (k6 j) (ne id _ b hd ho k1 j)⟩
 ·cases o<;>exact b1
 ·cases o'<;>exact b2
 ·cases o<;>exact h2
 ·rcases h with h|⟨id,cs,E,_,k2,k3,_⟩
  ·exact hW.ro b j h
  ·exact hW.bd id _ b k2 k3
 ·cases o<;>exact a2
 ·rcases h with h|⟨id,cs,E,k1,k2,k3,_⟩
  ·exact .inl h
  ·exact .inr (own id cs E b k1 k2 k3)
end
theorem Zb6.frz {r v:AV} {H H2:Zaa} {D:Nat->Bool} (hf:Frz H D r v) (h1:∀i o,H2.get i=some o->D i=false/\H.get i=some o) (h2:H.next<=H2.next):Zb6 r H v H2:=fun g w u hv hW=>by
 obtain⟨k1,k2⟩:=frz_ok (D:=D) hW
 obtain⟨k3,k4⟩:=Zf3 k1 (H2:=H2) (fun i o ho=>by obtain⟨a,b⟩:=h1 i o ho;rw[dels_get a];exact b) h2
 exact⟨g.frz H D,hv.frz hf hW,k3,k2.trans k4⟩
theorem ZpD {r v:AV} {H0 H:Zaa} {D:Nat->Bool} (hf:Frz H D r v) (hD:∀i,i<H0.next->D i=false) (hx:Zaa.Ext H0 H:=by exact AXT):∃r2 H2,Zb6 r H r2 H2/\Pure H0 v r2 H2 :=
 ⟨_,H0.bump (H.next - H0.next),Zb6.frz hf (fun i o h=>by
  have hh:H0.get i=some o:=h
  exact⟨hD i (Zaa.lt hh),hx.get i o hh⟩) (by have:=hx.next;simp;omega),rfl,_,rfl⟩
end Go.Proofs.YtaapiigfmdhobaaGreat
