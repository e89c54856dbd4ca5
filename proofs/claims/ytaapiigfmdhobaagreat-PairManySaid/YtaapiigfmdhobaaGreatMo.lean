/- Texts of the walk. -/
import Derived.Test.YtaapiigfmdhobaaGreatMi
import Derived.Test.YtaapiigfmdhobaaGreatMf
import Derived.Test.YtaapiigfmdhobaaGreatMk
namespace Go.Proofs.YtaapiigfmdhobaaGreat
set_option linter.defProp false
set_option linter.unusedSimpArgs false
set_option linter.unusedVariables false
open Go.RowKit
theorem bfe (b:Bool):b=false\/b=true:=by cases b<;>simp
def In64 (n:Int):Prop := -9223372036854775808<=n/\n<=9223372036854775807
instance (n:Int):Decidable (In64 n):=inferInstanceAs (Decidable (_/\_))
def ZeW (n:Int):Bool:=decide (In64 n)
def Zkk (n:Int):AV:=.tup [.i (if ZeW n then n else 0),.b (ZeW n)]
theorem Zlr {n:Int} (h:In64 n):ZeW n=true:=decide_eq_true h
theorem ZqH {n:Int} (h:¬In64 n):ZeW n=false:=decide_eq_false h
theorem Zgx (a b:Int) (H:Zaa) (ha:In64 a) (hb:In64 b):Zay Tryz.prog 167 [.i a,.i b] H (Pure H (Zkk (a+b))):=by
 obtain⟨a1,a2⟩:=ha
 obtain⟨b1,b2⟩:=hb
 refine Zak hE cf167 (zab rfl) fun Q qr qn=>?_
 by_cases hbp:0<b
 ·have d1:decide (b > 0)=true:=by simp;omega
  have d2:decide (b<0)=false:=by simp;omega
  by_cases hf:a+b<=9223372036854775807
  ·have d3:decide (a > 9223372036854775807 - b)=false:=by simp;omega
   have hw:IntKind.i64.wrap (9223372036854775807 - b)=9223372036854775807 - b:=Zaw (by omega) (by omega)
   have hv:Zkk (a+b)=.tup [.i (a+b),.b true]:=by unfold Zkk;rw[Zlr ⟨by omega,hf⟩];rfl
   rw[hv]at qr qn
   have hZ:=an7 d1<|an7 d2<|an7 d3<|hw;refine Bz1 ?_
   refine Zcm (by rfl)
  ·have d3:decide (a > 9223372036854775807 - b)=true:=by simp;omega
   have hw:IntKind.i64.wrap (9223372036854775807 - b)=9223372036854775807 - b:=Zaw (by omega) (by omega)
   have hv:Zkk (a+b)=.tup [.i 0,.b false]:=by unfold Zkk;rw[ZqH (fun h=>hf h.2)];rfl
   rw[hv]at qr qn
   have hZ:=an7 d1<|an7 d2<|an7 d3<|hw;refine Bz1 ?_
   refine Zcm (by rfl)
 ·have d1:decide (b > 0)=false:=by simp;omega
  by_cases hbn:b<0
  ·have d2:decide (b<0)=true:=by simp;omega
   have hw:IntKind.i64.wrap (-9223372036854775808 - b) = -9223372036854775808 - b:=Zaw (by omega) (by omega)
   by_cases hf : -9223372036854775808<=a+b
   ·have d3:decide (a < -9223372036854775808 - b)=false:=by simp;omega
    have hv:Zkk (a+b)=.tup [.i (a+b),.b true]:=by unfold Zkk;rw[Zlr ⟨hf,by omega⟩];rfl
    rw[hv]at qr qn
    have hZ:=an7 d1<|an7 d2<|an7 d3<|hw;refine Bz1 ?_
    refine Zcm (by rfl)
   ·have d3:decide (a < -9223372036854775808 - b)=true:=by simp;omega
    have hv:Zkk (a+b)=.tup [.i 0,.b false]:=by unfold Zkk;rw[ZqH (fun h=>hf h.1)];rfl
    rw[hv]at qr qn
    have hZ:=an7 d1<|an7 d2<|an7 d3<|hw;refine Bz1 ?_
    refine Zcm (by rfl)
  ·have d2:decide (b<0)=false:=by simp;omega
   have hv:Zkk (a+b)=.tup [.i (a+b),.b true]:=by unfold Zkk;rw[Zlr ⟨by omega,by omega⟩];rfl
   rw[hv]at qr qn
   have hZ:=an7 d1<|d2;refine Bz1 ?_
   refine Zcm (by rfl)
theorem ZqG {n:Int} (h:0<=n):n.tmod 4294967296=n % 4294967296:=Int.tmod_eq_emod_of_nonneg h
theorem tmod_neg {n:Int} (h:n<0):n.tmod 4294967296=if n % 4294967296=0 then 0 else n % 4294967296 - 4294967296:=by
 have e:n.tmod 4294967296 = -((-n).tmod 4294967296):=by rw[Int.neg_tmod,Int.neg_neg]
 rw[e,ZqG (by omega)]
 split<;>omega
theorem Zp4 {n:Int} (h:n % 4294967296=0):n.tdiv 4294967296=n / 4294967296:=Int.tdiv_eq_ediv_of_dvd (Int.dvd_of_emod_eq_zero h)
theorem Zpr (n:Int) (H:Zaa) (hn:In64 n):Zay Tryz.prog 145 [.i n] H (Pure H (.tup [.i (n / 4294967296),.i (n % 4294967296)])):=by
 obtain⟨n1,n2⟩:=hn
 have hq:(n - n % 4294967296).tdiv 4294967296=n / 4294967296:=by rw[Zp4 (by omega)];omega
 have hw1:IntKind.i64.wrap (n - n % 4294967296)=n - n % 4294967296\/n - n % 4294967296 < -9223372036854775808:=by
  by_cases h : -9223372036854775808<=n - n % 4294967296
  ·exact .inl (Zaw h (by omega))
  ·exact .inr (by omega)
 have hw1:IntKind.i64.wrap (n - n % 4294967296)=n - n % 4294967296:=by
  rcases hw1 with h|h
  ·exact h
  ·omega
 have hw2:IntKind.i64.wrap (n / 4294967296)=n / 4294967296:=Zaw (by omega) (by omega)
 have hz:¬((4294967296:Int)=0):=by decide
 refine Zak hE cf145 (zab rfl) fun Q qr qn=>?_
 by_cases h0:0<=n
 ·have ht:=ZqG h0
  have d1:decide (n % 4294967296<0)=false:=by simp;omega
  have hZ:=an7 ht<|an7 d1<|an7 hz<|an7 hw1<|an7 hq<|hw2;refine Bz1 ?_
  refine Zcm (by rfl)
 ·have ht:=tmod_neg (by omega:n<0)
  by_cases hm:n % 4294967296=0
  ·rw[if_pos hm]at ht
   have d1:decide ((0:Int)<0)=false:=by decide
   have hw1':IntKind.i64.wrap (n - 0)=n:=by rw[Int.sub_zero];exact Zaw (by omega) (by omega)
   have hq':n.tdiv 4294967296=n / 4294967296:=Zp4 hm
   have hZ:=an7 ht<|an7 d1<|an7 hz<|an7 hw1'<|an7 hq'<|hw2;refine Bz1 ?_
   refine Zcm (by rw[hm];rfl)
  ·rw[if_neg hm]at ht
   have d1:decide (n % 4294967296 - 4294967296<0)=true:=by simp;omega
   have hw3:IntKind.i64.wrap (n % 4294967296 - 4294967296+4294967296)=n % 4294967296:=by rw[Zaw (by omega) (by omega)];omega
   have hZ:=an7 ht<|an7 d1<|an7 hz<|an7 hw3<|an7 hw1<|an7 hq<|hw2;refine Bz1 ?_
   refine Zcm (by rfl)
theorem Zpq (h l:Int) (H:Zaa) (hh : -4294967296<=h/\h<=4294967296) (hl:0<=l/\l<8589934592):Zay Tryz.prog 146 [.i h,.i l] H (Pure H (Zkk (h * 4294967296+l))):=by
 obtain⟨h1,h2⟩:=hh
 obtain⟨l1,l2⟩:=hl
 refine Zak hE cf146 (zab rfl) fun Q qr qn=>?_
 refine Bz0 ?_
 refine Zcw [] (σ:=Nat) (fun s=>s<=1/\0<=l - 4294967296 * s/\(s=1->4294967296<=l)) (fun s=>1 - s) (fun s=>[(0,.i (h+s)),(1,.i (l - 4294967296 * s))]) (fun s=>[]) 0 (GStep.refl _ _) (by simp only[ZaA,Zav,Fr.put,Fr.get,↓reduceIte,Nat.reduceEqDiff];rfl) ?_ (by simp only[ZaF,ZaX,Fr.put,Fr.get,↓reduceIte,Nat.reduceEqDiff,and_self]<;>simp) (by simp only[ZaJ]) ?_
 ·exact⟨by omega,by omega,by simp⟩
 ·(rintro s G ⟨g1,g2,g3⟩ hG hn1;try simp only[nx]at hn1)
  have hxG:Zaa.Ext H G:=hG.ext
  by_cases hc:4294967296<=l - 4294967296 * (s:Int)
  ·have d1:decide (l - 4294967296 * (s:Int)≥4294967296)=true:=by simp;omega
   have hw1:IntKind.i64.wrap (l - 4294967296 * (s:Int) - 4294967296)=l - 4294967296 * ((s+1:Nat):Int):=by rw[Zaw (by omega) (by omega)];omega
   have hw2:IntKind.i64.wrap (h+(s:Int)+1)=h+((s+1:Nat):Int):=by rw[Zaw (by omega) (by omega)];omega
   have hZ:=an7 d1<|an7 hw1<|hw2;refine Bz1 ?_
   exact⟨s+1,⟨by omega,by omega,fun _=>by omega⟩,by omega,⟨rfl,rfl⟩,hG⟩
  ·have d1:decide (l - 4294967296 * (s:Int)≥4294967296)=false:=by simp;omega
   generalize hL:l - 4294967296 * (s:Int)=low at *
   generalize hH:h+(s:Int)=high at *
   have hsum:h * 4294967296+l=high * 4294967296+low:=by omega
   rw[hsum]at qr qn
   have d2:decide (low<0)=false:=by simp;omega
   have hZ:=d1;refine Bz1 ?_
   refine Zcw [] (σ:=Unit) (fun _=>True) (fun _=>0) (fun _=>[(0,.i high),(1,.i low)]) (fun _=>[]) () (GStep.refl _ _) (by simp only[ZaA];rfl) trivial (by simp only[ZaF,ZaX,Fr.get,↓reduceIte,Nat.reduceEqDiff,and_self]) (by simp only[ZaJ]) ?_
   (rintro s2 G2 ht hG2 hn2;try simp only[nx]at hn2)
   have hxG2:Zaa.Ext H G2:=hxG.trans hG2.ext
   by_cases hf:In64 (high * 4294967296+low)
   ·have hv:Zkk (high * 4294967296+low)=.tup [.i (high * 4294967296+low),.b true]:=by unfold Zkk;rw[Zlr hf];rfl
    obtain⟨f1,f2⟩:=hf
    have d3:decide (high < -2147483648)=false:=by simp;omega
    have d4:decide (high > 2147483647)=false:=by simp;omega
    have hw3:IntKind.i64.wrap (high * 4294967296)=high * 4294967296:=Zaw (by omega) (by omega)
    have hw4:IntKind.i64.wrap (high * 4294967296+low)=high * 4294967296+low:=Zaw (by omega) (by omega)
    rw[hv]at qr qn
    have hZ:=an7 d2<|an7 d3<|an7 d4<|an7 hw3<|hw4;refine Bz1 ?_
    exact ZaW hxG2 rfl
   ·have hv:Zkk (high * 4294967296+low)=.tup [.i 0,.b false]:=by unfold Zkk;rw[ZqH hf];rfl
    rw[hv]at qr qn
    by_cases hlo:high < -2147483648
    ·have d3:decide (high < -2147483648)=true:=by simp;omega
     have hZ:=an7 d2<|d3;refine Bz1 ?_
     exact ZaW hxG2 rfl
    ·have d3:decide (high < -2147483648)=false:=by simp;omega
     have d4:decide (high > 2147483647)=true:=by
      simp
      unfold In64 at hf
      omega
     have hZ:=an7 d2<|an7 d3<|d4;refine Bz1 ?_
     exact ZaW hxG2 rfl
theorem Znv (a b:Int) (H:Zaa) (ha:In64 a) (hb:In64 b):Zay Tryz.prog 110 [.i a,.i b] H (Pure H (Zkk (a+b))):=by
 refine Zak hE cf110 (zab rfl) fun Q qr qn=>?_
 refine Bz0 ?_
 refine qcp (Zpr a _ ha) fun k1=>?_
 refine Bz0 ?_
 refine qcp (Zpr b _ hb) fun k2=>?_
 obtain⟨a1,a2⟩:=ha
 obtain⟨b1,b2⟩:=hb
 refine Bz0 ?_
 refine qcp (Zpq (a / 4294967296+b / 4294967296) (a % 4294967296+b % 4294967296) _ (by omega) (by omega)) fun k3=>?_
 have e:(a / 4294967296+b / 4294967296) * 4294967296+(a % 4294967296+b % 4294967296)=a+b:=by omega
 rw[e]
 unfold Zkk
 refine Bz0 ?_
 refine Zcm (by rfl)
structure Zho (a:Ag):Prop where
 n:In64 a.n
 s0:In64 a.s0
 s1:In64 a.s1
 s2:In64 a.s2
theorem ZeG (s l h s' l' h':Int) (H:Zaa) (hs:In64 s) (hs':In64 s'):Zay Tryz.prog 168 [.agg [.i s,.i l,.i h],.agg [.i s',.i l',.i h']] H (Pure H (.tup [.agg [.i (if ZeW (s+s') then s+s' else 0),.i (if l'<l then l' else l),.i (if h' > h then h' else h)],.b (ZeW (s+s'))])):=by
 refine Zak hE cf168 (zab rfl) fun Q qr qn=>?_
 refine Bz0 ?_
 refine qcp (Zgx s s' _ hs hs') fun k1=>?_
 unfold Zkk
 refine Bz0 ?_
 refine Zcm (by rfl)
def Zem (a b:Ag) (k:Nat):Ag:=⟨a.n+b.n,if 0<k then a.s0+b.s0 else 0,if 0<k then (if b.l0<a.l0 then b.l0 else a.l0) else 0,if 0<k then (if b.h0 > a.h0 then b.h0 else a.h0) else 0,
 if 1<k then a.s1+b.s1 else 0,if 1<k then (if b.l1<a.l1 then b.l1 else a.l1) else 0,if 1<k then (if b.h1 > a.h1 then b.h1 else a.h1) else 0,
 if 2<k then a.s2+b.s2 else 0,if 2<k then (if b.l2<a.l2 then b.l2 else a.l2) else 0,if 2<k then (if b.h2 > a.h2 then b.h2 else a.h2) else 0⟩
def Zdl (a b:Ag):Option Ag:=if a.n=0 then some b else if b.n=0 then some a else if ZeW (a.n+b.n)=false then none else if ZeW (a.s0+b.s0)=false then none else if ZeW (a.s1+b.s1)=false then none else if ZeW (a.s2+b.s2)=false then none else some (Zem a b 3)
def Zt9 (o:Option Ag):AV:=.tup [.agg (eAg (o.getD ag0)),.b o.isSome]
set_option maxHeartbeats 4000000 in
theorem ZfK (a b:Ag) (H:Zaa) (ha:Zho a) (hb:Zho b):Zay Tryz.prog 148 [.agg (eAg a),.agg (eAg b)] H (Pure H (Zt9 (Zdl a b))):=by
 refine Zak hE cf148 (zab rfl) fun Q qr qn=>?_
 by_cases a0:a.n=0
 ·have hv:Zdl a b=some b:=by unfold Zdl;rw[if_pos a0]
  rw[hv]at qr qn
  have hZ:=a0;refine Bz1 ?_
  refine Zcm (by rfl)
 by_cases b0:b.n=0
 ·have hv:Zdl a b=some a:=by unfold Zdl;rw[if_neg a0,if_pos b0]
  have d1:(a.n == 0)=false:=by simpa using a0
  rw[hv]at qr qn
  have hZ:=an7 d1<|b0;refine Bz1 ?_
  refine Zcm (by rfl)
 have hJ:Zdl a b=if ZeW (a.n+b.n)=false then none else if ZeW (a.s0+b.s0)=false then none else if ZeW (a.s1+b.s1)=false then none else if ZeW (a.s2+b.s2)=false then none else some (Zem a b 3):=by
  unfold Zdl;rw[if_neg a0,if_neg b0]
 have d1:(a.n == 0)=false:=by simpa using a0
 have d2:(b.n == 0)=false:=by simpa using b0
 have hZ:=an7 d1<|d2;refine Bz1 ?_
 refine qcp (Zgx a.n b.n _ ha.n hb.n) fun k1=>?_
 unfold Zkk
 have hf:=bfe (ZeW (a.n+b.n))
 rcases hf with hf|hf
 ·rw[hf]at hJ
  rw[hJ]at qr qn
  have hZ:=hf;refine Bz1 ?_
  refine Zcm (by rfl)
 rw[hf]at hJ
 simp only[zch,if_false]at hJ
 have hZ:=hf;refine Bz5 ?_
 refine Zj1 fun G0 hG0=>?_
 have g1:G0.get H.next=some (.cells (eAg a) 54):=by
  rw[hG0,Zaa.Zah (by omega)];simp only[Zaa.ZaB]
  rw[Zaa.Zag (by simp only[nx];omega),Zaa.Zag (by simp only[nx];omega),Zaa.Zag (by simp only[nx];omega)]
  exact Zaa.Zae
 have g2:G0.get (H.next+1)=some (.cells (eAg b) 54):=by
  rw[hG0,Zaa.Zah (by omega)];simp only[Zaa.ZaB]
  rw[Zaa.Zag (by simp only[nx];omega),Zaa.Zag (by simp only[nx];omega)]
  exact Zaa.Zat rfl
 have g3:G0.get (H.next+2)=some (.cells (eAg ag0) 54):=by
  rw[hG0,Zaa.Zah (by omega)];simp only[Zaa.ZaB]
  rw[Zaa.Zag (by simp only[nx];omega)]
  exact Zaa.Zat rfl
 have g4:G0.get (H.next+3)=some (.cells (eAg (Zem a b 0)) 54):=by
  rw[hG0]
  exact Zaa.Zal (by simp only[nx];omega)
 have hx0:Zaa.Ext H G0:=by rw[hG0];exact AXT
 have hn0:=hx0.next
 have l4:=Zaa.lt g4
 clear hG0
 generalize hJ':Zdl a b=J at *
 refine Zbs (N:=3) [2,3,4,6] (σ:=Unit) (fun(k:Nat) s=>J=(match k with
  | 0=>if ZeW (a.s0+b.s0)=false then none else if ZeW (a.s1+b.s1)=false then none else if ZeW (a.s2+b.s2)=false then none else some (Zem a b 3)
  | 1=>if ZeW (a.s1+b.s1)=false then none else if ZeW (a.s2+b.s2)=false then none else some (Zem a b 3)
  | 2=>if ZeW (a.s2+b.s2)=false then none else some (Zem a b 3)
  | _=>some (Zem a b 3))) (fun k s=>[]) (fun k s=>[(H.next+3,.cells (eAg (Zem a b k)) 54)]) () (GStep.refl _ _) (by simp only[ZaA,Zav,Fr.put,Fr.get,↓reduceIte,Nat.reduceEqDiff];rfl) (by intro k s;rfl) (by intro k s;rfl) (by rfl) (by unfold maxLen;omega) ?_ (by simp only[ZaF]) ?_ ?_ ?_
 ·exact hJ
 ·rw[ZaP];exact⟨g4,by simp[Zc5]⟩
 ·(rintro k s G hk ht hG hn1;try simp only[nx]at hn1)
  have e1:=(hG.g H.next (by omega) (by simp)).trans g1
  have e2:=(hG.g (H.next+1) (by omega) (by simp)).trans g2
  have e3:=(hG.g (H.next+2) (by omega) (by simp)).trans g3
  have e4:G.get (H.next+3)=some (.cells (eAg (Zem a b k)) 54):=hG.o (_,_) (zam.2 rfl)
  have l5:=Zaa.lt e4
  have c0:((0:Nat):Int)=0:=rfl
  have c1:((1:Nat):Int)=1:=rfl
  have c2:((2:Nat):Int)=2:=rfl
  have hxG:Zaa.Ext H G:=hG.ZdB hx0 (by simp)
  obtain rfl|rfl|rfl:k=0\/k=1\/k=2:=by omega
  ·have hZ:=an7 e1<|an7 e2<|an7 e3<|an7 e4<|@eAg.eq_1;refine Bz5 ?_
   refine qcp (ZeG a.s0 a.l0 a.h0 b.s0 b.l0 b.h0 _ ha.s0 hb.s0) fun q1=>?_
   have hf:=bfe (ZeW (a.s0+b.s0))
   rcases hf with hf|hf
   ·have hJn:J=none:=by rw[ht,hf];rfl
    have hZ:=an7 hf<|an7 e1<|an7 e2<|an7 e3<|an7 e4<|@eAg.eq_1;refine Bz5 ?_
    exact ZaW ((hxG.bump.set (by omega)).set (by omega)) (by rw[hJn];rfl)
   ·have hZ:=an7 hf<|an7 e1<|an7 e2<|an7 e3<|an7 e4<|@eAg.eq_1;refine Bz5 ?_
    exact⟨(),by rw[ht,hf];rfl,hG.bump.put⟩
  ·have hZ:=an7 e1<|an7 e2<|an7 e3<|an7 e4<|@eAg.eq_1;refine Bz5 ?_
   refine qcp (ZeG a.s1 a.l1 a.h1 b.s1 b.l1 b.h1 _ ha.s1 hb.s1) fun q1=>?_
   have hf:=bfe (ZeW (a.s1+b.s1))
   rcases hf with hf|hf
   ·have hJn:J=none:=by rw[ht,hf];rfl
    have hZ:=an7 hf<|an7 e1<|an7 e2<|an7 e3<|an7 e4<|@eAg.eq_1;refine Bz5 ?_
    exact ZaW ((hxG.bump.set (by omega)).set (by omega)) (by rw[hJn];rfl)
   ·have hZ:=an7 hf<|an7 e1<|an7 e2<|an7 e3<|an7 e4<|@eAg.eq_1;refine Bz5 ?_
    exact⟨(),by rw[ht,hf];rfl,hG.bump.put⟩
  ·have hZ:=an7 e1<|an7 e2<|an7 e3<|an7 e4<|@eAg.eq_1;refine Bz5 ?_
   refine qcp (ZeG a.s2 a.l2 a.h2 b.s2 b.l2 b.h2 _ ha.s2 hb.s2) fun q1=>?_
   have hf:=bfe (ZeW (a.s2+b.s2))
   rcases hf with hf|hf
   ·have hJn:J=none:=by rw[ht,hf];rfl
    have hZ:=an7 hf<|an7 e1<|an7 e2<|an7 e3<|an7 e4<|@eAg.eq_1;refine Bz5 ?_
    exact ZaW ((hxG.bump.set (by omega)).set (by omega)) (by rw[hJn];rfl)
   ·have hZ:=an7 hf<|an7 e1<|an7 e2<|an7 e3<|an7 e4<|@eAg.eq_1;refine Bz5 ?_
    exact⟨(),by rw[ht,hf];rfl,hG.bump.put⟩
 ·(rintro s G ht hG hn1;try simp only[nx]at hn1)
  have e3:=(hG.g (H.next+2) (by omega) (by simp)).trans g3
  have e4:G.get (H.next+3)=some (.cells (eAg (Zem a b 3)) 54):=hG.o (_,_) (zam.2 rfl)
  have l3:=Zaa.lt e3
  have hxG:Zaa.Ext H G:=hG.ZdB hx0 (by simp)
  have hJs:J=some (Zem a b 3):=ht
  have hZ:=an7 e3<|e4;refine Bz1 ?_
  exact ZaW (hxG.set (by omega)) (by rw[hJs];rfl)
set_option maxHeartbeats 4000000 in
theorem ZpB (a b:Ag) (H:Zaa) (ha:Zho a) (hb:Zho b):Zay Tryz.prog 70 [.agg (eAg a),.agg (eAg b)] H (Pure H (Zt9 (Zdl a b))):=by
 refine Zak hE cf70 (zab rfl) fun Q qr qn=>?_
 by_cases a0:a.n=0
 ·have hv:Zdl a b=some b:=by unfold Zdl;rw[if_pos a0]
  rw[hv]at qr qn
  have hZ:=a0;refine Bz1 ?_
  refine Zcm (by rfl)
 by_cases b0:b.n=0
 ·have hv:Zdl a b=some a:=by unfold Zdl;rw[if_neg a0,if_pos b0]
  have d1:(a.n == 0)=false:=by simpa using a0
  rw[hv]at qr qn
  have hZ:=an7 d1<|b0;refine Bz1 ?_
  refine Zcm (by rfl)
 have hJ:Zdl a b=if ZeW (a.n+b.n)=false then none else if ZeW (a.s0+b.s0)=false then none else if ZeW (a.s1+b.s1)=false then none else if ZeW (a.s2+b.s2)=false then none else some (Zem a b 3):=by
  unfold Zdl;rw[if_neg a0,if_neg b0]
 have d1:(a.n == 0)=false:=by simpa using a0
 have d2:(b.n == 0)=false:=by simpa using b0
 have hZ:=an7 d1<|d2;refine Bz1 ?_
 refine qcp (Znv a.n b.n _ ha.n hb.n) fun k1=>?_
 unfold Zkk
 have hf:=bfe (ZeW (a.n+b.n))
 rcases hf with hf|hf
 ·rw[hf]at hJ
  rw[hJ]at qr qn
  have hZ:=hf;refine Bz1 ?_
  refine Zcm (by rfl)
 rw[hf]at hJ
 simp only[zch,if_false]at hJ
 have hZ:=hf;refine Bz5 ?_
 refine Zj1 fun G0 hG0=>?_
 have g1:G0.get H.next=some (.cells (eAg a) 54):=by
  rw[hG0,Zaa.Zag (by simp only[nx];omega)];simp only[Zaa.ZaB]
  rw[Zaa.Zag (by simp only[nx];omega),Zaa.Zag (by simp only[nx];omega)]
  exact Zaa.Zae
 have g2:G0.get (H.next+1)=some (.cells (eAg b) 54):=by
  rw[hG0,Zaa.Zag (by simp only[nx];omega)];simp only[Zaa.ZaB]
  rw[Zaa.Zag (by simp only[nx];omega)]
  exact Zaa.Zat rfl
 have g3:G0.get (H.next+2)=some (.cells (eAg ag0) 54):=by
  rw[hG0,Zaa.Zag (by simp only[nx];omega)];simp only[Zaa.ZaB]
  exact Zaa.Zat rfl
 have g4:G0.get (H.next+3+k1)=some (.cells (eAg (Zem a b 0)) 54):=by
  rw[hG0]
  exact Zaa.Zat rfl
 have hx0:Zaa.Ext H G0:=by rw[hG0];exact AXT
 have hn0:=hx0.next
 have l4:=Zaa.lt g4
 clear hG0
 generalize hJ':Zdl a b=J at *
 refine Zcw [2,3,4,8] (σ:=Nat) (fun s=>s<=3/\J=(match s with
  | 0=>if ZeW (a.s0+b.s0)=false then none else if ZeW (a.s1+b.s1)=false then none else if ZeW (a.s2+b.s2)=false then none else some (Zem a b 3)
  | 1=>if ZeW (a.s1+b.s1)=false then none else if ZeW (a.s2+b.s2)=false then none else some (Zem a b 3)
  | 2=>if ZeW (a.s2+b.s2)=false then none else some (Zem a b 3)
  | _=>some (Zem a b 3))) (fun s=>3 - s) (fun s=>[(9,.i (s:Int))]) (fun s=>[(H.next+3+k1,.cells (eAg (Zem a b s)) 54)]) 0 (GStep.refl _ _) (by simp only[ZaA,Zav,Fr.put,Fr.get,↓reduceIte,Nat.reduceEqDiff];rfl) ?_ (by simp only[ZaF,ZaX,Fr.put,Fr.get,↓reduceIte,Nat.reduceEqDiff,and_self]<;>simp) ?_ ?_
 ·exact⟨by omega,hJ⟩
 ·rw[ZaP];exact⟨g4,by simp[Zc5]⟩
 ·(rintro s G ⟨hk,ht⟩ hG hn1;try simp only[nx]at hn1)
  have e1:=(hG.g H.next (by omega) (by simp;omega)).trans g1
  have e2:=(hG.g (H.next+1) (by omega) (by simp;omega)).trans g2
  have e3:=(hG.g (H.next+2) (by omega) (by simp;omega)).trans g3
  have e4:G.get (H.next+3+k1)=some (.cells (eAg (Zem a b s)) 54):=hG.o (_,_) (zam.2 rfl)
  have l5:=Zaa.lt e4
  have hxG:Zaa.Ext H G:=hG.ZdB hx0 (by simp;omega)
  obtain rfl|rfl|rfl|rfl:s=0\/s=1\/s=2\/s=3:=by omega
  ·have hZ:=an7 e1<|an7 e2<|an7 e3<|an7 e4<|@eAg.eq_1;refine Bz5 ?_
   refine qcp (Znv a.s0 b.s0 _ ha.s0 hb.s0) fun q1=>?_
   unfold Zkk
   have hf:=bfe (ZeW (a.s0+b.s0))
   rcases hf with hf|hf
   ·have hJn:J=none:=by rw[ht,hf];rfl
    have hZ:=an7 hf<|an7 e1<|an7 e2<|an7 e3<|an7 e4<|@eAg.eq_1;refine Bz5 ?_
    exact ZaW (hxG.bump.set (by omega)) (by rw[hJn];rfl)
   ·have hZ:=an7 hf<|an7 e1<|an7 e2<|an7 e3<|an7 e4<|@eAg.eq_1;refine Bz5 ?_
    exact⟨1,⟨by omega,by rw[ht,hf];rfl⟩,by omega,rfl,hG.bump.put⟩
  ·have hZ:=an7 e1<|an7 e2<|an7 e3<|an7 e4<|@eAg.eq_1;refine Bz5 ?_
   refine qcp (Znv a.s1 b.s1 _ ha.s1 hb.s1) fun q1=>?_
   unfold Zkk
   have hf:=bfe (ZeW (a.s1+b.s1))
   rcases hf with hf|hf
   ·have hJn:J=none:=by rw[ht,hf];rfl
    have hZ:=an7 hf<|an7 e1<|an7 e2<|an7 e3<|an7 e4<|@eAg.eq_1;refine Bz5 ?_
    exact ZaW (hxG.bump.set (by omega)) (by rw[hJn];rfl)
   ·have hZ:=an7 hf<|an7 e1<|an7 e2<|an7 e3<|an7 e4<|@eAg.eq_1;refine Bz5 ?_
    exact⟨2,⟨by omega,by rw[ht,hf];rfl⟩,by omega,rfl,hG.bump.put⟩
  ·have hZ:=an7 e1<|an7 e2<|an7 e3<|an7 e4<|@eAg.eq_1;refine Bz5 ?_
   refine qcp (Znv a.s2 b.s2 _ ha.s2 hb.s2) fun q1=>?_
   unfold Zkk
   have hf:=bfe (ZeW (a.s2+b.s2))
   rcases hf with hf|hf
   ·have hJn:J=none:=by rw[ht,hf];rfl
    have hZ:=an7 hf<|an7 e1<|an7 e2<|an7 e3<|an7 e4<|@eAg.eq_1;refine Bz5 ?_
    exact ZaW (hxG.bump.set (by omega)) (by rw[hJn];rfl)
   ·have hZ:=an7 hf<|an7 e1<|an7 e2<|an7 e3<|an7 e4<|@eAg.eq_1;refine Bz5 ?_
    exact⟨3,⟨by omega,by rw[ht,hf];rfl⟩,by omega,rfl,hG.bump.put⟩
  ·have l3:=Zaa.lt e3
   have hJs:J=some (Zem a b 3):=ht
   have hZ:=an7 e3<|e4;refine Bz5 ?_
   exact ZaW (hxG.set (by omega)) (by rw[hJs];rfl)
structure ZcD (S:List Nat) (H H':Zaa):Prop where
 next:H.next<=H'.next
 get:∀i o,i ∉ S->H.get i=some o->H'.get i=some o
theorem ZcD.trans {S:List Nat} {H H' H'':Zaa} (h:ZcD S H H') (k:ZcD S H' H''):ZcD S H H'':=⟨zaB h.next k.next,fun i o hi e=>k.get i o hi (h.get i o hi e)⟩
theorem ZcD.of {S:List Nat} {H H':Zaa} (h:Zaa.Ext H H'):ZcD S H H':=⟨h.next,fun i o _ e=>h.get i o e⟩
theorem ZcD.set {S:List Nat} {id:Nat} {H H':Zaa} {o:Zb3} (h:ZcD S H H') (hi:id∈S\/H.next<=id):ZcD S H (H'.set id o):=⟨h.next,fun i o hl e=>by
 have hne:i≠id:=by
  rintro rfl
  rcases hi with hi|hi
  ·exact hl hi
  ·have:=Zaa.lt e;omega
 rw[Zaa.Zah hne];exact h.get i o hl e⟩
theorem Zpn:Zho ag0:=⟨⟨by decide,by decide⟩,⟨by decide,by decide⟩,⟨by decide,by decide⟩,⟨by decide,by decide⟩⟩
theorem Zo5 {a b c:Ag} (ha:Zho a) (hb:Zho b) (h:Zdl a b=some c):Zho c:=by
 unfold Zdl at h
 split at h
 ·exact zbZ h ▸ hb
 split at h
 ·exact zbZ h ▸ ha
 split at h
 ·cases h
 split at h
 ·cases h
 split at h
 ·cases h
 split at h
 ·cases h
 rename_i h1 h2 h3 h4
 simp only[ZeW,decide_eq_false_iff_not,Decidable.not_not]at h1 h2 h3 h4
 obtain rfl:=zbZ h
 refine⟨h1,?_,?_,?_⟩<;>simp[Zem,h2,h3,h4]
structure BSt where
 N:List Nod
 M:List (List UInt8×Int)
 e:Int
def ZdJ (facts:List Fct):Ag->List Nat->Option Ag
 | a,[]=>some a
 | a,i :: r=>match Zdl a (facts.getD i ([],ag0)).2 with
  | none=>none
  | some b=>ZdJ facts b r
def sumE (s:BSt):Option Ag->BSt
 | none=>⟨s.N,s.M,12⟩
 | some _=>s
def ZbM (facts:List Fct) (f:BSt->List Nat->BSt×Int) (last:Bool) (s:BSt) (key:Int) (part:List Nat):BSt×Cel :=
 if last=true then (sumE s (ZdJ facts ag0 part),⟨key,0,(ZdJ facts ag0 part).getD ag0⟩) else ((f s part).1,⟨key,(f s part).2,ag0⟩)
def ZbG (g:BSt->Int->List Nat->BSt×Cel):BSt->List (Int×List Nat)->BSt×List Cel
 | s,[]=>(s,[])
 | s,p :: ps=>((ZbG g (g s p.1 p.2).1 ps).1,(g s p.1 p.2).2 :: (ZbG g (g s p.1 p.2).1 ps).2)
def Zbc (g:BSt->Int->List Nat->BSt×Cel):BSt->List (List (Int×List Nat))->BSt×List (List Cel)
 | s,[]=>(s,[])
 | s,p :: ps=>((Zbc g (ZbG g s p).1 ps).1,(ZbG g s p).2 :: (Zbc g (ZbG g s p).1 ps).2)
def Zdm (L:List (List (List Int))) (facts:List Fct) (d t i:Nat):Int:=((L.getD d []).getD t []).getD ((facts.getD i ([],ag0)).1.getD d 0).toNat 0
def Zch (x:Shp) (d t:Nat):Nat:=((x.sizes.getD d []).getD t 0).toNat
def ZaC (x:Shp) (L:List (List (List Int))) (facts:List Fct) (d:Nat) (part:List Nat):List (List (Int×List Nat)) :=
 (List.range (L.getD d []).length).map fun t=>grs (Zdm L facts d t) (Zch x d t) part
def Zha (x:Shp) (most:Int) (d:Nat) (part:List Nat) (a:BSt×Cel) (ls:List (List Cel)):BSt×Int :=
 if a.1.e≠0 then (a.1,0) else
 if ZbF x most a.1.N ⟨d,ls,a.2⟩≠0 then (⟨a.1.N,a.1.M,ZbF x most a.1.N ⟨d,ls,a.2⟩⟩,0) else
 (⟨a.1.N++[⟨d,ls,a.2⟩],ZbU (nmP d part) (a.1.N.length:Int) a.1.M,0⟩,(a.1.N.length:Int))
def Zdq (x:Shp) (L:List (List (List Int))) (facts:List Fct) (most:Int) (f:BSt->List Nat->BSt×Int) (d:Nat) (s:BSt) (part:List Nat):BSt×Int :=
 match Zcz (nmP d part) s.M with
 | some i=>(s,i)
 | none=>if s.e≠0 then (s,0) else
  Zha x most d part (ZbM facts f (decide (d+1=L.length)) (Zbc (ZbM facts f (decide (d+1=L.length))) s (ZaC x L facts d part)).1 0 part) (Zbc (ZbM facts f (decide (d+1=L.length))) s (ZaC x L facts d part)).2
def ZcV (x:Shp) (L:List (List (List Int))) (facts:List Fct) (most:Int):Nat->BSt->List Nat->BSt×Int
 | 0,s,_=>(s,0)
 | n+1,s,part=>Zdq x L facts most (ZcV x L facts most n) (L.length - (n+1)) s part
structure ZbI (x:Shp) (L:List (List (List Int))) (facts:List Fct):Prop where
 few:facts.length<=4000
 dims:L.length<=16
 len:L.length=x.sizes.length
 ag:∀f∈facts,Zho f.2
 keys:∀f∈facts,f.1.length=L.length
 tier:∀(d:Nat) (h:d<L.length),1<=L[d].length/\L[d].length<=4/\L[d].length=(x.sizes.getD d []).length
 key:∀f∈facts,∀(d:Nat) (h:d<L.length) (t:Nat) (ht:t<L[d].length),∃n:Nat,f.1.getD d 0=(n:Int)/\∃hn:n<L[d][t].length,0<=L[d][t][n]/\L[d][t][n]<Zch x d t
 size:∀d t,Zch x d t<=200
def Zbz (facts:List Fct) (part:List Nat):Prop:=part≠[]/\part.length<=facts.length/\∀i∈part,i<facts.length
structure Bld (mg oid tk mid:Nat) (x:Shp) (tok:Tok) (tf tl:Tok) (L:List (List (List Int))) (facts:List Fct) (most:Int) (s:BSt) (G:Zaa):Prop where
 o:G.get mg=some (.cells [.sl tf (rF facts),.sl tl (rIII L),.ptr oid 0,.mp mid,.i s.e] 97)
 out:ArO G oid tk x tok s.N most
 mp:G.get mid=some (.map (.one .str) (Zgf kS AV.i s.M) false)
 few:(s.N.length:Int)<=most
 most:most<=131072
section
variable {mg oid tk mid:Nat} {x:Shp} {tok tf tl:Tok} {L:List (List (List Int))} {facts:List Fct} {most:Int} {s:BSt} {G G' H:Zaa}
theorem Bld.ext (h:Bld mg oid tk mid x tok tf tl L facts most s G) (hx:Zaa.Ext G G'):Bld mg oid tk mid x tok tf tl L facts most s G':=⟨hx.get _ _ h.o,h.out.ext hx,hx.get _ _ h.mp,h.few,h.most⟩
theorem Bld.ne (h:Bld mg oid tk mid x tok tf tl L facts most s G):oid≠mg/\tk≠mg/\mid≠mg/\mid≠oid/\mid≠tk :=
 ⟨fun e=>(by have:=h.out.cell;rw[e,h.o]at this;simp[Zk5]at this),fun e=>(by have:=h.out.row;rw[e,h.o]at this;cases this),fun e=>(by have:=h.mp;rw[e,h.o]at this;cases this),
  fun e=>(by have:=h.out.cell;rw[<- e,h.mp]at this;cases this),fun e=>(by have:=h.out.row;rw[<- e,h.mp]at this;cases this)⟩
theorem Bld.err (h:Bld mg oid tk mid x tok tf tl L facts most s G) (e:Int):Bld mg oid tk mid x tok tf tl L facts most ⟨s.N,s.M,e⟩ (G.set mg (.cells [.sl tf (rF facts),.sl tl (rIII L),.ptr oid 0,.mp mid,.i e] 97)):=by
 obtain⟨n1,n2,n3,n4,n5⟩:=h.ne
 refine⟨Zaa.Zal (Zaa.lt h.o),⟨h.out.ne,by rw[Zaa.Zah n1];exact h.out.cell,by rw[Zaa.Zah n2];exact h.out.row⟩,by rw[Zaa.Zah n3];exact h.mp,h.few,h.most⟩
theorem Bld.set {s':BSt} {id:Nat} {o:Zb3} (h:Bld mg oid tk mid x tok tf tl L facts most s' H) (h2:Bld mg oid tk mid x tok tf tl L facts most s G) (hi:H.next<=id):Bld mg oid tk mid x tok tf tl L facts most s (G.set id o):=by
 have q1:=Zaa.lt h.o
 have q2:=Zaa.lt h.out.cell
 have q3:=Zaa.lt h.out.row
 have q4:=Zaa.lt h.mp
 exact⟨by rw[Zaa.Zah (by omega)];exact h2.o,⟨h2.out.ne,by rw[Zaa.Zah (by omega)];exact h2.out.cell,by rw[Zaa.Zah (by omega)];exact h2.out.row⟩,by rw[Zaa.Zah (by omega)];exact h2.mp,h2.few,h2.most⟩
theorem Zqz (hf:∀f∈facts,Zho f.2):∀{part:List Nat} {a b:Ag},Zho a->ZdJ facts a part=some b->Zho b
 | [],a,b,ha,h=>by injection h with h;exact h ▸ ha
 | i :: r,a,b,ha,h=>by
  unfold ZdJ at h
  split at h
  ·cases h
  ·rename_i c hc
   refine Zqz hf (Zo5 ha ?_ hc) h
   rw[zah]
   cases hg:facts[i]? with
   | none=>exact Zpn
   | some f=>exact hf f (zaF hg)
set_option maxHeartbeats 2000000 in
theorem Zmn {part:List Nat} (t:Tok) (hM:Bld mg oid tk mid x tok tf tl L facts most s H) (hp:∀i∈part,i<facts.length) (hpl:part.length<=1000000) (ha:∀f∈facts,Zho f.2) :
  Zay Tryz.prog 140 [.ptr mg 0,.sl t (rP part)] H (fun r H'=>r=.agg (eAg ((ZdJ facts ag0 part).getD ag0))/\ZcD [mg,oid,tk,mid] H H'/\Bld mg oid tk mid x tok tf tl L facts most (sumE s (ZdJ facts ag0 part)) H'):=by
 refine Zak hE cf140 (zab rfl) fun Q qr qn=>?_
 refine Bz2 ?_
 have hx0:Zaa.Ext H ((H.alloc (.cells (eAg ag0) 54)).alloc (.cells (eAg ag0) 54)):=by exact AXT
 have h4:((H.alloc (.cells (eAg ag0) 54)).alloc (.cells (eAg ag0) 54)).get H.next=some (.cells (eAg ag0) 54):=by rw[Zaa.Zag (by simp only[nx];omega)];exact Zaa.Zae
 refine Zbs [0,4,5,10,11] (σ:=Ag) (fun(k:Nat) s=>Zho s/\ZdJ facts ag0 part=ZdJ facts s (part.drop k)) (fun k s=>[(6,.b true)]) (fun k s=>[(H.next+1,.cells (eAg s) 54)]) ag0 (GStep.refl _ _) (by simp only[ZaA,Zav,Fr.put,Fr.get,↓reduceIte,Nat.reduceEqDiff];rfl) (by intro k s;rfl) (by intro k s;rfl) (by rfl) (by unfold maxLen;omega) ?_ (by simp only[ZaF,ZaX,Fr.put,Fr.get,↓reduceIte,Nat.reduceEqDiff,and_self]<;>simp) ?_ ?_ ?_
 ·exact⟨Zpn,rfl⟩
 ·rw[ZaP]
  exact⟨Zaa.Zae (H:=H.alloc _),by simp[Zc5]⟩
 ·(rintro k a G hk ⟨hA,hS⟩ hG hn;try simp only[nx]at hn)
  have hx:Zaa.Ext H G:=hG.ZdB hx0 (by simp)
  have hM2:=hM.ext hx
  have h0:=hM2.o
  have l0:=Zaa.lt h0
  have ho:=hG.o1
  have lo:=Zaa.lt ho
  have hg4:=(hG.g H.next (by simp only[nx];omega) (by simp)).trans h4
  have l4:=Zaa.lt hg4
  have hi:=hp _ (zaq hk)
  have g1:(rP part)[k]?=some [.i (part[k]:Int)]:=by simp[hk]
  have g2:=ZjV hi
  obtain⟨f0,f1,f2,f3⟩:=Zbu facts[part[k]]
  have hfa:=ha _ (zaq hi)
  have hS2:ZdJ facts a (part.drop k)=match Zdl a facts[part[k]].2 with|none=>none|some b=>ZdJ facts b (part.drop (k+1)):=by
   rw[zao hk,ZdJ,zah,zaa hi];rfl
  rw[hS2]at hS
  clear hS2
  have e10:∀a,(eAg a).length=10:=fun _=>rfl
  have et:∀a,(eAg a).take 10=eAg a:=fun _=>rfl
  have ed:∀a,(eAg a).drop 10=[]:=fun _=>rfl
  have q1:=Zaa.lt hM.o
  generalize facts[part[k]]=f at *
  generalize part[k]=i at *
  cases hj:Zdl a f.2 with
  | none =>
   rw[hj]at hS
   simp only at hS
   have hZ:=an7 h0<|an7 ho<|an7 g1<|an7 g2<|an7 f0<|an7 f1<|an7 f2<|an7 e10<|et;refine Bz1 ?_
   refine qcp (ZfK a f.2 _ hA hfa) fun k1=>?_
   unfold Zt9
   rw[hS]at qr qn
   have hZ:=an7 hj<|an7 h0<|an7 ho<|an7 e10<|an7 et<|an7 ed<|hg4;refine Bz5 ?_
   have hx1:Zaa.Ext H ((G.bump k1).set (H.next+1) (.cells (eAg ag0) 54)):=by exact AXT
   exact Zaq ⟨rfl,((ZcD.of hx1).set (.inl (by simp))).set (.inr (zaf _)),hM.set ((hM.ext hx1).err 12) (zaf _)⟩
  | some b =>
   rw[hj]at hS
   simp only at hS
   have hZ:=an7 h0<|an7 ho<|an7 g1<|an7 g2<|an7 f0<|an7 f1<|an7 f2<|an7 e10<|et;refine Bz1 ?_
   refine qcp (ZfK a f.2 _ hA hfa) fun k1=>?_
   unfold Zt9
   have hZ:=an7 hj<|an7 ho<|an7 e10<|an7 et<|ed;refine Bz5 ?_
   exact⟨b,⟨Zo5 hA hfa hj,hS⟩,hG.bump.put⟩
 ·(rintro a G ⟨hA,hS⟩ hG hn;try simp only[nx]at hn)
  have hx:Zaa.Ext H G:=hG.ZdB hx0 (by simp)
  have ho:=hG.o1
  have lo:=Zaa.lt ho
  have hg4:=(hG.g H.next (by simp only[nx];omega) (by simp)).trans h4
  have l4:=Zaa.lt hg4
  have e10:∀a,(eAg a).length=10:=fun _=>rfl
  have et:∀a,(eAg a).take 10=eAg a:=fun _=>rfl
  have ed:∀a,(eAg a).drop 10=[]:=fun _=>rfl
  rw[zaP]at hS
  rw[hS]at qr qn
  have hZ:=an7 ho<|an7 hg4<|an7 e10<|an7 et<|ed;refine Bz5 ?_
  exact Zaq ⟨rfl,(ZcD.of hx).set (.inr (zaf _)),hM.set (hM.ext hx) (zaf _)⟩
def NodK (mg oid tk mid:Nat) (x:Shp) (tok tf tl:Tok) (L:List (List (List Int))) (facts:List Fct) (most:Int) (f:BSt->List Nat->BSt×Int) (d:Nat):Prop :=
 ∀s part t G,Zbz facts part->Bld mg oid tk mid x tok tf tl L facts most s G->Zay Tryz.prog 53 [.ptr mg 0,.i (d:Int),.sl t (rP part)] G (fun r G'=>r=.i (f s part).2/\ZcD [mg,oid,tk,mid] G G'/\Bld mg oid tk mid x tok tf tl L facts most (f s part).1 G')
set_option maxHeartbeats 2000000 in
theorem ZiO {part:List Nat} {f:BSt->List Nat->BSt×Int} {d:Nat} {key:Int} (t:Tok) (hF:ZbI x L facts) (hd:d<L.length) (hp:Zbz facts part) (hf:d+1≠L.length->NodK mg oid tk mid x tok tf tl L facts most f (d+1)) (hM:Bld mg oid tk mid x tok tf tl L facts most s H) :
  Zay Tryz.prog 99 [.ptr mg 0,.i (d:Int),.i key,.sl t (rP part)] H (fun r H'=>r=.agg (ZbE (ZbM facts f (decide (d+1=L.length)) s key part).2)/\ZcD [mg,oid,tk,mid] H H'/\Bld mg oid tk mid x tok tf tl L facts most (ZbM facts f (decide (d+1=L.length)) s key part).1 H'):=by
 have h0:=hM.o
 have l0:=Zaa.lt h0
 have hdl:=hF.dims
 have w1:IntKind.i64.wrap ((L.length:Int) - 1)=((L.length - 1:Nat):Int):=by rw[Zaw (by omega) (by omega)];omega
 by_cases hl:d+1=L.length
 ·have hc:ZbM facts f (decide (d+1=L.length)) s key part=(sumE s (ZdJ facts ag0 part),⟨key,0,(ZdJ facts ag0 part).getD ag0⟩):=by
   unfold ZbM;rw[decide_eq_true hl,if_pos rfl]
  rw[hc]
  have w2:(d:Int)=((L.length - 1:Nat):Int):=by omega
  refine Zak hE cf99 (zab rfl) fun Q qr qn=>?_
  have hZ:=an7 h0<|an7 w1<|w2;refine Bz3 ?_
  have hx1:Zaa.Ext H (H.alloc (.cells (ZbE ZcE) 113)):=by exact AXT
  have h8:(H.alloc (.cells (ZbE ZcE) 113)).get H.next=some (.cells (ZbE ZcE) 113):=Zaa.Zae
  have q1:=Zaa.lt hM.out.cell
  have q2:=Zaa.lt hM.out.row
  have q3:=Zaa.lt hM.mp
  refine Zap.use (Zmn t (hM.ext hx1) hp.2.2 (by have:=hp.2.1;have:=hF.few;omega) hF.ag) ?_
  rintro r G2 ⟨rfl,hx2,hM2⟩
  have h8:=hx2.get _ _ (by simp;omega) h8
  have l8:=Zaa.lt h8
  have hZ:=h8;refine Bz1 ?_
  exact Zaq ⟨rfl,((ZcD.of hx1).trans hx2).set (.inr (zaf _)),hM.set hM2 (zaf _)⟩
 ·have hc:ZbM facts f (decide (d+1=L.length)) s key part=((f s part).1,⟨key,(f s part).2,ag0⟩):=by
   unfold ZbM;rw[decide_eq_false hl,if_neg (by simp)]
  rw[hc]
  have w2:((d:Int) == ((L.length - 1:Nat):Int))=false:=by simp;omega
  have w3:IntKind.i64.wrap ((d:Int)+1)=((d+1:Nat):Int):=by rw[Zaw (by omega) (by omega)];omega
  have hx1:Zaa.Ext H (H.alloc (.cells (ZbE ZcE) 113)):=by exact AXT
  have h8:(H.alloc (.cells (ZbE ZcE) 113)).get H.next=some (.cells (ZbE ZcE) 113):=Zaa.Zae
  have q1:=Zaa.lt hM.out.cell
  have q2:=Zaa.lt hM.out.row
  have q3:=Zaa.lt hM.mp
  have hk:=hf hl s part t _ hp (hM.ext hx1)
  refine Zak hE cf99 (zab rfl) fun Q qr qn=>?_
  have hZ:=an7 h0<|an7 w1<|an7 w2<|w3;refine Bz3 ?_
  refine Zap.use hk ?_
  rintro r G2 ⟨rfl,hx2,hM2⟩
  have h8:=hx2.get _ _ (by simp;omega) h8
  have l8:=Zaa.lt h8
  have hZ:=h8;refine Bz1 ?_
  exact Zaq ⟨rfl,((ZcD.of hx1).trans hx2).set (.inr (zaf _)),hM.set hM2 (zaf _)⟩
end
theorem Zhh (key:Nat->Int) (n:Nat) (part:List Nat):(grs key n part).length<=n:=by
 unfold grs
 exact zaB (List.length_filterMap_le _ _) (by simp)
theorem Zfb {key:Nat->Int} {n:Nat} {part:List Nat} {g:Int×List Nat} (h:g∈grs key n part):g.2≠[]/\g.2.length<=part.length/\∀i∈g.2,i∈part:=by
 unfold grs at h
 obtain⟨k,_,h⟩:=zbA.1 h
 split at h
 ·cases h
 ·rename_i hne
  injection h with h
  subst h
  exact⟨hne,zb8 _ _,fun i hi=>(za7.1 hi).1⟩
theorem Zgk (g:BSt->Int->List Nat->BSt×Cel):∀(l:List (Int×List Nat)) (s:BSt),(ZbG g s l).2.length=l.length
 | [],_=>rfl
 | p :: ps,s=>by unfold ZbG;simp only[List.length_cons,Zgk g ps]
theorem Zgn (g:BSt->Int->List Nat->BSt×Cel):∀(l:List (List (Int×List Nat))) (s:BSt),(Zbc g s l).2.length=l.length
 | [],_=>rfl
 | p :: ps,s=>by unfold Zbc;simp only[List.length_cons,Zgn g ps]
theorem ZeC {g:BSt->Int->List Nat->BSt×Cel} {m:Nat}:∀(r:List (List (Int×List Nat))) (s:BSt),(∀t∈r,t.length<=m)->∀l∈(Zbc g s r).2,l.length<=m
 | [],_,_,l,h=>by simp[Zbc]at h
 | t :: r,s,hr,l,h=>by
  unfold Zbc at h
  rcases zal.1 h with rfl|h
  ·rw[Zgk];exact hr _ zae
  ·exact ZeC r _ (fun t ht=>hr t (zad _ ht)) l h
theorem Zh3 {l:List (List Cel)} {m:Nat} (h:∀c∈l,c.length<=m):l.flatten.length<=l.length * m:=by
 induction l with
 | nil=>simp
 | cons c r ih =>
  have h1:=h c zae
  have h2:=ih fun d hd=>h d (zad _ hd)
  simp only[List.flatten_cons,zai,List.length_cons,zaT]
  omega
theorem Zjq {g:BSt->Int->List Nat->BSt×Cel} {gs:List (Int×List Nat)} {k:Nat} (hk:k<gs.length) {s s':BSt} {done:List Cel} (h:ZbG g s gs=((ZbG g s' (gs.drop k)).1,done++(ZbG g s' (gs.drop k)).2)) :
  ZbG g s gs=((ZbG g (g s' gs[k].1 gs[k].2).1 (gs.drop (k+1))).1,(done++[(g s' gs[k].1 gs[k].2).2])++(ZbG g (g s' gs[k].1 gs[k].2).1 (gs.drop (k+1))).2):=by
 rw[h,zao hk,ZbG,zaM];rfl
theorem ZiD {g:BSt->Int->List Nat->BSt×Cel} {gs:List (List (Int×List Nat))} {k:Nat} (hk:k<gs.length) {s s':BSt} {done:List (List Cel)} (h:Zbc g s gs=((Zbc g s' (gs.drop k)).1,done++(Zbc g s' (gs.drop k)).2)) :
  Zbc g s gs=((Zbc g (ZbG g s' gs[k]).1 (gs.drop (k+1))).1,(done++[(ZbG g s' gs[k]).2])++(Zbc g (ZbG g s' gs[k]).1 (gs.drop (k+1))).2):=by
 rw[h,zao hk,Zbc,zaM];rfl
section
variable {mg oid tk mid:Nat} {x:Shp} {tok tf tl:Tok} {L:List (List (List Int))} {facts:List Fct} {most:Int} {s:BSt} {G G' H:Zaa}
theorem Zbz.grs {part:List Nat} (h:Zbz facts part) {key:Nat->Int} {n:Nat} {g:Int×List Nat} (hg:g∈grs key n part):Zbz facts g.2:=by
 obtain⟨h1,h2,h3⟩:=Zfb hg
 exact⟨h1,zaB h2 h.2.1,fun i hi=>h.2.2 i (h3 i hi)⟩
theorem ZbI.Ziy (h:ZbI x L facts) {part:List Nat} (hp:Zbz facts part) {d t:Nat} (hd:d<L.length) (ht:t<L[d].length):Ziy facts (L[d][t]) d (Zdm L facts d t) part/\∀i∈part,0<=Zdm L facts d t i/\Zdm L facts d t i<Zch x d t:=by
 have key:∀i∈part,∃(hi:i<facts.length) (n:Nat) (hn:n<(L[d][t]).length) (ha:d<facts[i].1.length),facts[i].1[d]=(n:Int)/\(L[d][t])[n]=Zdm L facts d t i/\0<=Zdm L facts d t i/\Zdm L facts d t i<Zch x d t:=fun i hi=>by
  have hil:=hp.2.2 i hi
  have hm:=zaq hil
  obtain⟨n,e1,hn,e2,e3⟩:=h.key _ hm d hd t ht
  have hk:=h.keys _ hm
  have e4:Zdm L facts d t i=(L[d][t])[n]:=by
   unfold Zdm
   simp only[zah,zaa hil,Option.getD_some]at e1 ⊢
   rw[e1]
   simp[zaa hd,zaa ht,zaa hn]
  have hdk:d<facts[i].1.length:=by omega
  refine⟨hil,n,hn,hdk,?_,e4.symm,by rw[e4];exact e2,by rw[e4];exact e3⟩
  rw[zah,zaa hdk]at e1
  exact e1
 exact⟨fun i hi=>by obtain⟨a,n,b,c,e1,e2,_⟩:=key i hi;exact⟨a,n,b,c,e1,e2⟩,fun i hi=>by obtain⟨_,_,_,_,_,_,h3,h4⟩:=key i hi;exact⟨h3,h4⟩⟩
theorem Bld.add {G:Zaa} {n:Nod} {id:List UInt8} (h:Bld mg oid tk mid x tok tf tl L facts most s G) (he:s.e=0) (hx:Zqr oid tk G G') (hO:ArO G' oid tk x tok (s.N++[n]) most) (ea:ZbF x most s.N n=0) :
  Bld mg oid tk mid x tok tf tl L facts most ⟨s.N++[n],ZbU id (s.N.length:Int) s.M,0⟩ (G'.set mid (.map (.one .str) (Zgf kS AV.i (ZbU id (s.N.length:Int) s.M)) false)):=by
 obtain⟨n1,n2,n3,n4,n5⟩:=h.ne
 have hN:(s.N.length:Int)<most:=by
  unfold ZbF at ea
  split at ea
  ·omega
  ·split at ea
   ·omega
   ·split at ea<;>omega
 have lm:=Zaa.lt (hx.get _ _ n4 n5 h.mp)
 refine⟨?_,⟨hO.ne,?_,?_⟩,Zaa.Zal lm,?_,h.most⟩
 ·rw[Zaa.Zah n3.symm,hx.get _ _ n1.symm n2.symm h.o,he]
 ·rw[Zaa.Zah n4.symm];exact hO.cell
 ·rw[Zaa.Zah n5.symm];exact hO.row
 ·simp only[zai,List.length_cons,List.length_nil];omega
structure NodI (mg oid tk mid i10 i11 d:Nat) (ts:List (Tok×List Cel)) (H S:Zaa):Prop where
 ext:ZcD [mg,oid,tk,mid] H S
 g10:S.get i10=some (.cells (Ze0 (.own i11) d ts ZcE) 115)
 gt:S.get i11=some (.tok ts.length 120 1)
theorem NodI.mono {i10 i11 d:Nat} {ts:List (Tok×List Cel)} {H S S':Zaa} (h:NodI mg oid tk mid i10 i11 d ts H S) (hx:ZcD [mg,oid,tk,mid] S S') (h1:i10 ∉ [mg,oid,tk,mid]) (h2:i11 ∉ [mg,oid,tk,mid]):NodI mg oid tk mid i10 i11 d ts H S' :=
 ⟨h.ext.trans hx,hx.get _ _ h1 h.g10,hx.get _ _ h2 h.gt⟩
theorem rG_get {gs:List (Int×List Nat)} {k:Nat} (h:k<gs.length):(rG gs)[k]?=some [.i gs[k].1,.sl .no (rP gs[k].2)]:=by simp[h]
set_option maxHeartbeats 4000000 in
theorem ZgM {f:BSt->List Nat->BSt×Int} {d:Nat} (hF:ZbI x L facts) (hsx:ZbS x=true) (hd:d<L.length) (hf:d+1≠L.length->NodK mg oid tk mid x tok tf tl L facts most f (d+1)):NodK mg oid tk mid x tok tf tl L facts most (Zdq x L facts most f d) d:=by
 intro s part t H hp hM
 have h0:=hM.o
 have hmp:=hM.mp
 have l0:=Zaa.lt h0
 have l1:=Zaa.lt hmp
 have q2:=Zaa.lt hM.out.cell
 have q3:=Zaa.lt hM.out.row
 have hfd:=ZbV (vf:=AV.i) Zev (nmP d part) s.M
 have hof:=kS_of (nmP d part)
 have hdl:=hF.dims
 have hpl:=hp.2.1
 have hfl:=hF.few
 have hname:∀G,Zay Tryz.prog 97 [.i (d:Int),.sl t (rP part)] G (Pure G (eS (nmP d part))):=fun G=>Zjy d t part G (by omega) (by omega) (fun i hi=>by have:=hp.2.2 i hi;omega)
 cases e:Zcz (nmP d part) s.M with
 | some i =>
  have hR:Zdq x L facts most f d s part=(s,i):=by unfold Zdq;rw[e]
  rw[hR]
  rw[e,Option.map_some]at hfd
  refine Zak hE cf53 (zab rfl) fun Q qr qn=>?_
  refine Bz0 ?_
  refine qcp (hname _) fun k1=>?_
  have hZ:=an7 h0<|an7 hmp<|an7 hof<|hfd;refine Bz1 ?_
  exact Zaq ⟨rfl,.of (by exact AXT),hM.ext (by exact AXT)⟩
 | none =>
  rw[e,Option.map_none]at hfd
  by_cases he:s.e=0
  ·refine Zak hE cf53 (zab rfl) fun Q qr qn=>?_
   refine Bz0 ?_
   refine qcp (hname _) fun k1=>?_
   have hZ:=an7 h0<|an7 hmp<|an7 hof<|an7 hfd<|he;refine Bz1 ?_
   have hR:Zdq x L facts most f d s part=Zha x most d part (ZbM facts f (decide (d+1=L.length)) (Zbc (ZbM facts f (decide (d+1=L.length))) s (ZaC x L facts d part)).1 0 part) (Zbc (ZbM facts f (decide (d+1=L.length))) s (ZaC x L facts d part)).2:=by
    unfold Zdq
    rw[e]
    exact if_neg (by simp[he])
   rw[hR]at qr qn
   have hC:∀(s2:BSt) (key:Int) (p:List Nat) (t:Tok) (G:Zaa),Zbz facts p->Bld mg oid tk mid x tok tf tl L facts most s2 G->Zay Tryz.prog 99 [.ptr mg 0,.i (d:Int),.i key,.sl t (rP p)] G (fun r H'=>r=.agg (ZbE (ZbM facts f (decide (d+1=L.length)) s2 key p).2)/\ZcD [mg,oid,tk,mid] G H'/\Bld mg oid tk mid x tok tf tl L facts most (ZbM facts f (decide (d+1=L.length)) s2 key p).1 H'):=fun s2 key p t G h1 h2=>ZiO t hF hd h1 hf h2
   obtain⟨t1,t2,t3⟩:=hF.tier d hd
   have hGl:(ZaC x L facts d part).length=L[d].length:=by unfold ZaC;simp[zaa hd]
   have hGg:∀k (h:k<(ZaC x L facts d part).length),(ZaC x L facts d part)[k]=grs (Zdm L facts d k) (Zch x d k) part:=fun k h=>by simp[ZaC]
   generalize ZbM facts f (decide (d+1=L.length))=g at *
   generalize ZaC x L facts d part=GS at *
   have hx1:Zaa.Ext H ((H.bump k1).alloc (.cells (Ze0 .full d [] ZcE) 115)):=by exact AXT
   have g10:((H.bump k1).alloc (.cells (Ze0 .full d [] ZcE) 115)).get (H.next+k1)=some (.cells (Ze0 .full d [] ZcE) 115):=Zaa.Zae (H:=H.bump k1)
   have n10:H.next+k1 ∉ [mg,oid,tk,mid]:=by simp only[zal,zaE,or_false];omega
   have n11:H.next+k1+1 ∉ [mg,oid,tk,mid]:=by simp only[zal,zaE,or_false];omega
   refine ZbJ (N:=L[d].length) (fun k F S=>Fr.get F 48=.i (k:Int)/\Fr.get F 47=.i (L[d].length:Int)/\Fr.get F 0=.ptr mg 0/\Fr.get F 1=.i (d:Int)/\Fr.get F 2=.sl t (rP part)/\Fr.get F 7=eS (nmP d part)/\Fr.get F 10=.ptr (H.next+k1) 0 /\
    ∃s' ts,Bld mg oid tk mid x tok tf tl L facts most s' S/\NodI mg oid tk mid (H.next+k1) (H.next+k1+1) d ts H S/\ts.length=k/\Zbc g s GS=((Zbc g s' (GS.drop k)).1,ts.map (·.2)++(Zbc g s' (GS.drop k)).2)) (by unfold maxLen;omega) (fun k F G h=>⟨h.1,h.2.1⟩)
    ((GStep.fr (F':=[(48,.i ((0:Nat):Int)),(47,.i (L[d].length:Int)),(0,.ptr mg 0),(1,.i (d:Int)),(2,.sl t (rP part)),(7,eS (nmP d part)),(10,.ptr (H.next+k1) 0)]) (by simp[Fr.get,Fr.put])).trans (GStep.ZdO (H.next+k1) 1 115 120 1 g10 rfl)) ?_ ?_ ?_
   ·refine⟨rfl,rfl,rfl,rfl,rfl,rfl,rfl,s,[],?_,?_,rfl,rfl⟩
    ·exact(hM.set (hM.ext hx1) (by omega)).ext (Zaa.Ext.alloc (Zaa.Ext.refl _))
    ·refine⟨((ZcD.of hx1).set (.inr (by omega))).trans (ZcD.of (Zaa.Ext.alloc (Zaa.Ext.refl _))),?_,Zaa.Zae (H:=Zaa.set _ _ _)⟩
     rw[Zaa.Zag (by simp only[nx];omega),Zaa.Zal (by simp only[nx];omega)];rfl
   ·rintro k F S hk ⟨f48,f47,f0,f1,f2,f7,f10,s',ts,hMS,hN,hts,hr⟩
    have hkK:k<GS.length:=by omega
    have hko:=hF.Ziy hp hd hk
    have hgr:Zay Tryz.prog 98 [.ptr mg 0,.i (d:Int),.i (k:Int),.sl t (rP part)] S (Pure S (.sl .no (rG GS[k]))):=by
     rw[hGg k hkK]
     exact Zht hMS.o hd hk hko.1 (by omega) hko.2 hp.1
    have hgl:GS[k].length<=200:=by rw[hGg k hkK];exact zaB (Zhh _ _ _) (hF.size d k)
    have hgp:∀j (h:j<GS[k].length),Zbz facts GS[k][j].2:=fun j h=>hp.grs (key:=Zdm L facts d k) (n:=Zch x d k) (by rw[<- hGg k hkK];exact zaq h)
    obtain hst:=fun done h=>ZiD (done:=done) hkK h
    replace hst:=hst _ hr
    generalize GS[k]=gs at *
    have hs1:=Zaa.lt hN.g10
    have hs2:=Zaa.lt hN.gt
    have v1:=Zaa.lt hMS.o
    have v2:=Zaa.lt hMS.out.cell
    have v3:=Zaa.lt hMS.out.row
    have v4:=Zaa.lt hMS.mp
    have hZ:=an7 f48<|an7 f47<|an7 f0<|an7 f1<|an7 f2<|an7 f7<|f10;refine Bz1 ?_
    refine qcp (hgr) fun k2=>?_
    have hZ:=an7 f48<|an7 f47<|an7 f0<|an7 f1<|an7 f2<|an7 f7<|f10;refine Bz3 ?_
    have hS1:Zaa.Ext S (S.bump k2):=by exact AXT
    have hnS:=hN.ext.next
    have n12:(S.next+k2) ∉ [mg,oid,tk,mid]:=by simp only[nx,zal,zaE,or_false];omega
    refine ZbJ (N:=gs.length) (fun j F S2=>Fr.get F 57=.i (j:Int)/\Fr.get F 56=.i (gs.length:Int)/\Fr.get F 55=.sl .no (rG gs)/\Fr.get F 48=.i (k:Int)/\Fr.get F 47=.i (L[d].length:Int)/\Fr.get F 0=.ptr mg 0/\Fr.get F 1=.i (d:Int)/\Fr.get F 2=.sl t (rP part)/\Fr.get F 7=eS (nmP d part)/\Fr.get F 10=.ptr (H.next+k1) 0 /\
     ∃s2 done,Fr.get F 12=.sl (.own (S.next+k2)) (rC done)/\Bld mg oid tk mid x tok tf tl L facts most s2 S2/\NodI mg oid tk mid (H.next+k1) (H.next+k1+1) d ts H S2/\S2.get (S.next+k2)=some (.tok done.length 113 12)/\done.length=j/\ZbG g s' gs=((ZbG g s2 (gs.drop j)).1,done++(ZbG g s2 (gs.drop j)).2)) (by unfold maxLen;omega) (fun k F G h=>⟨h.1,h.2.1⟩)
     ((GStep.tok 12 113 12 rfl).trans (GStep.fr (F':=[(57,.i ((0:Nat):Int)),(56,.i (gs.length:Int)),(55,.sl .no (rG gs)),(48,.i (k:Int)),(47,.i (L[d].length:Int)),(0,.ptr mg 0),(1,.i (d:Int)),(2,.sl t (rP part)),(7,eS (nmP d part)),(10,.ptr (H.next+k1) 0),(12,.sl (.own (S.next+k2)) [])]) (by simp[Fr.get,Fr.put,f48,f47,f0,f1,f2,f7,f10]))) ?_ ?_ ?_
    ·exact⟨rfl,rfl,rfl,rfl,rfl,rfl,rfl,rfl,rfl,rfl,s',[],rfl,hMS.ext hS1.alloc,hN.mono (ZcD.of hS1.alloc) n10 n11,Zaa.Zae (H:=S.bump k2),rfl,rfl⟩
    ·rintro j F S2 hj ⟨f57,f56,f55,f48,f47,f0,f1,f2,f7,f10,s2,done,f12,hM2,hN2,g12,hdn,hr2⟩
     have hrow:=rG_get hj
     have hpg:=hgp j hj
     have hcs:=Zjq hj hr2
     generalize gs[j]=gp at *
     obtain⟨key,pt⟩:=gp
     have u1:=Zaa.lt hN2.g10
     have u2:=Zaa.lt hN2.gt
     have u3:=Zaa.lt g12
     have u4:=Zaa.lt hM2.o
     have u5:=Zaa.lt hM2.out.cell
     have u6:=Zaa.lt hM2.out.row
     have u7:=Zaa.lt hM2.mp
     have hZ:=an7 f57<|an7 f56<|an7 f55<|an7 f48<|an7 f47<|an7 f0<|an7 f1<|an7 f2<|an7 f7<|an7 f10<|an7 f12<|hrow;refine Bz1 ?_
     have hS3:Zaa.Ext S2 (S2.alloc (.cells [.i key,.sl .no (rP pt)] 176)):=by exact AXT
     refine Zap.use (hC s2 key pt .no _ hpg (hM2.ext hS3)) ?_
     rintro r S4 ⟨rfl,hx4,hM4⟩
     have hS4:=(ZcD.of (S:=[mg,oid,tk,mid]) hS3).trans hx4
     have hN4:=hN2.mono hS4 n10 n11
     have g124:=hS4.get _ _ n12 g12
     have v12:=Zaa.lt g124
     have w1:=Zaa.lt hN4.g10
     have w2:=Zaa.lt hN4.gt
     have hc12:(ZbE (g s2 key pt).2).length=12:=rfl
     have la1:ZaE 12 (rC done)=true:=ZaU (f:=ZbE) (fun _=>rfl) done
     have la2:ZaE 12 [ZbE (g s2 key pt).2]=true:=rfl
     have lm1:done.length+1<=maxLen:=by unfold maxLen;omega
     have lm2:(done.length+1) * 96<=140737488355328:=by omega
     have hap:rC done++[ZbE (g s2 key pt).2]=rC (done++[(g s2 key pt).2]):=by simp
     have hZ:=an7 f57<|an7 f56<|an7 f55<|an7 f48<|an7 f47<|an7 f0<|an7 f1<|an7 f2<|an7 f7<|an7 f10<|an7 f12<|an7 g124<|an7 hc12<|an7 la1<|an7 la2<|an7 lm1<|an7 lm2<|hap;refine Bz5 ?_
     refine⟨_,done++[(g s2 key pt).2],rfl,hMS.set hM4 (by omega),⟨hN4.ext.set (.inr (by omega)),?_,?_⟩,?_,by simp[hdn],hcs⟩
     ·rw[Zaa.Zah (by omega)];exact hN4.g10
     ·rw[Zaa.Zah (by omega)];exact hN4.gt
     ·rw[zai];rfl
    ·rintro F S2 ⟨f57,f56,f55,f48,f47,f0,f1,f2,f7,f10,s2,done,f12,hM2,hN2,g12,hdn,hr2⟩
     rw[zaP]at hr2
     have hr2:ZbG g s' gs=(s2,done):=by rw[hr2];simp[ZbG]
     rw[hr2]at hst
     have g10:=hN2.g10
     have gt:=hN2.gt
     have lg:=Zaa.lt g10
     have lt:=Zaa.lt gt
     unfold Ze0 at g10
     have la1:ZaE 1 (rLt ts)=true:=ZaU (f:=fun p:Tok×List Cel=>[AV.sl p.1 (rC p.2)]) (fun _=>rfl) ts
     have la2:ZaE 1 [[AV.sl (.own (S.next+k2)) (rC done)]]=true:=rfl
     have lm1:ts.length+1<=maxLen:=by unfold maxLen;omega
     have lm2:(ts.length+1) * 24<=140737488355328:=by omega
     have hZ:=an7 f57<|an7 f56<|an7 f55<|an7 f48<|an7 f47<|an7 f0<|an7 f1<|an7 f2<|an7 f7<|an7 f10<|an7 f12<|an7 g10<|an7 gt<|an7 la1<|an7 la2<|an7 lm1<|lm2;refine Bz5 ?_
     refine⟨_,ts++[(.own (S.next+k2),done)],hM.set (hM.set hM2 (by omega)) (by omega),⟨(hN2.ext.set (.inr (by omega))).set (.inr (by omega)),?_,?_⟩,by simp[hts],by rw[zaV];exact hst⟩
     ·rw[Zaa.Zal (by simp only[nx];omega)]
      have hap:rLt (ts++[(.own (S.next+k2),done)])=rLt ts++[[.sl (.own (S.next+k2)) (rC done)]]:=zaV
      unfold Ze0
      rw[hap]
     ·rw[Zaa.Zah (by omega),zai];exact Zaa.Zal (by omega)
   ·rintro F S ⟨f48,f47,f0,f1,f2,f7,f10,s',ts,hMS,hN,hts,hr⟩
    have hKd:GS.drop L[d].length=[]:=List.drop_eq_nil_iff.2 (by omega)
    rw[hKd]at hr
    have hr:Zbc g s GS=(s',ts.map (·.2)):=by rw[hr];simp[Zbc]
    have hsm:∀l∈(ts.map (·.2)),l.length<=200:=fun l hl=>by
     refine ZeC (g:=g) GS s (fun u hu=>?_) l (by rw[hr];exact hl)
     obtain⟨j,hj,rfl⟩:=zay hu
     rw[hGg j hj]
     exact zaB (Zhh _ _ _) (hF.size d j)
    rw[hr]at qr
    have h0S:=hMS.o
    have g9:=hN.g10
    have lg9:=Zaa.lt g9
    have hnS:=hN.ext.next
    unfold Ze0 at g9
    have hZ:=an7 f48<|an7 f47<|an7 f0<|an7 f1<|an7 f2<|an7 f7<|f10;refine Bz1 ?_
    refine Zap.use (hC s' 0 part t S hp hMS) ?_
    rintro r S2 ⟨rfl,hx6,hM6⟩
    have hN6:=hN.mono hx6 n10 n11
    have h06:=hM6.o
    have g96:=hN6.g10
    have lg6:=Zaa.lt g96
    unfold Ze0 at g96
    generalize g s' 0 part=a at *
    have yd:(ZbE ZcE).drop 12=[]:=rfl
    have yl:(ZbE a.2).length=12:=rfl
    have yt:(ZbE a.2).take 12=ZbE a.2:=rfl
    by_cases he3:a.1.e=0
    ·have hT3:Zha x most d part a (ts.map (·.2))=(if ZbF x most a.1.N ⟨d,ts.map (·.2),a.2⟩≠0 then (⟨a.1.N,a.1.M,ZbF x most a.1.N ⟨d,ts.map (·.2),a.2⟩⟩,0) else (⟨a.1.N++[⟨d,ts.map (·.2),a.2⟩],ZbU (nmP d part) (a.1.N.length:Int) a.1.M,0⟩,(a.1.N.length:Int))):=by
      unfold Zha;exact if_neg (by simp[he3])
     rw[hT3]at qr
     have hsn:Zdb ⟨d,ts.map (·.2),a.2⟩:=by
      have:=Zh3 hsm
      have hl4:(ts.map (·.2)).length=L[d].length:=by simp[hts]
      exact⟨by simp only;omega,by simp only;rw[hl4]at this;omega,fun l hl=>by have:=hsm l hl;omega⟩
     have hlen:a.1.N.length<=200000:=by have:=hM6.few;have:=hM6.most;omega
     obtain⟨S3,hS3⟩:∃S3,S3=S2.set (H.next+k1) (.cells (.i d :: .sl (.own (H.next+k1+1)) (rLt ts) :: ZbE a.2) 115):=⟨_,rfl⟩
     have hM7:Bld mg oid tk mid x tok tf tl L facts most a.1 S3:=by rw[hS3];exact hM.set hM6 (by omega)
     have hN7:ZcD [mg,oid,tk,mid] H S3:=by rw[hS3];exact hN6.ext.set (.inr (by omega))
     have h07:=hM7.o
     have hmp7:=hM7.mp
     have hA:Zay Tryz.prog 77 [.ptr oid 0,.agg (.i d :: .sl (.own (H.next+k1+1)) (rLt ts) :: ZbE a.2)] S3 (AddQ x most a.1.N ⟨d,ts.map (·.2),a.2⟩ oid tk tok S3):=by
      refine Zay.wknA (bs:=[.ptr oid 0,.agg (ZbD .no ⟨d,ts.map (·.2),a.2⟩)]) (Zlq .no ⟨d,ts.map (·.2),a.2⟩ hM7.out hsx hlen hsn) rfl fun k u v hu hv=>?_
      match k with
      | 0=>simp at hu hv;subst hu hv;exact .refl _
      | 1 =>
       simp only[List.getElem?_cons_zero,List.getElem?_cons_succ,zac]at hu hv
       subst hu hv
       exact Zp6 _ _ _ _
      | k+2=>simp at hu
     obtain⟨m1,m2,m3,m4,m5⟩:=hM7.ne
     by_cases ea:ZbF x most a.1.N ⟨d,ts.map (·.2),a.2⟩=0
     ·rw[if_neg (by simp[ea])]at qr
      have hs7:=ZcH (vf:=AV.i) Zev (nmP d part) (a.1.N.length:Int) a.1.M
      have hZ:=an7 f48<|an7 f47<|an7 f0<|an7 f1<|an7 f2<|an7 f7<|an7 f10<|an7 h06<|an7 g96<|an7 he3<|an7 yd<|an7 yl<|yt;refine Bz5 ?_
      rw[<- hS3]
      refine Zap.use hA ?_
      rintro r S4 (⟨ne,rfl,hx4⟩|⟨_,rfl,hO,hx4⟩)
      ·exact absurd ea ne
      ·have h08:=hx4.get _ _ m1.symm m2.symm h07
       have hmp8:=hx4.get _ _ m4 m5 hmp7
       have hZ:=an7 f48<|an7 f47<|an7 f0<|an7 f1<|an7 f2<|an7 f7<|an7 f10<|an7 h08<|an7 hmp8<|an7 hof<|hs7;refine Bz1 ?_
       exact Zaq ⟨rfl,⟨zaB hN7.next hx4.next,fun k o hk h=>by
        simp only[zal,zaE,or_false,not_or]at hk
        rw[Zaa.Zah hk.2.2.2]
        exact hx4.get _ _ hk.2.1 hk.2.2.1 (hN7.get _ _ (by simp only[zal,zaE,or_false,not_or];exact hk) h)⟩,hM7.add he3 hx4 hO ea⟩
     ·rw[if_pos ea]at qr
      have d2:(ZbF x most a.1.N ⟨d,ts.map (·.2),a.2⟩ != 0)=true:=by simpa using ea
      have hZ:=an7 f48<|an7 f47<|an7 f0<|an7 f1<|an7 f2<|an7 f7<|an7 f10<|an7 h06<|an7 g96<|an7 he3<|an7 yd<|an7 yl<|yt;refine Bz5 ?_
      rw[<- hS3]
      refine Zap.use hA ?_
      rintro r S4 (⟨_,rfl,hx4⟩|⟨ez,rfl,hO,hx4⟩)
      ·have h08:=hx4.get _ _ h07
       have hM8:=hM7.ext hx4
       have hZ:=an7 f48<|an7 f47<|an7 f0<|an7 f1<|an7 f2<|an7 f7<|an7 f10<|an7 h08<|d2;refine Bz1 ?_
       exact Zaq ⟨rfl,(hN7.trans (ZcD.of hx4)).set (.inl (by simp)),hM8.err _⟩
      ·exact absurd ez ea
    ·have d2:(a.1.e != 0)=true:=by simpa using he3
     have hT2:Zha x most d part a (ts.map (·.2))=(a.1,0):=if_pos he3
     rw[hT2]at qr
     have hZ:=an7 f48<|an7 f47<|an7 f0<|an7 f1<|an7 f2<|an7 f7<|an7 f10<|an7 h06<|an7 g96<|an7 yd<|an7 yl<|an7 yt<|d2;refine Bz5 ?_
     exact Zaq ⟨rfl,hN6.ext.set (.inr (by omega)),hM.set hM6 (by omega)⟩
  ·have d1:(s.e != 0)=true:=by simpa using he
   have hR:Zdq x L facts most f d s part=(s,0):=by unfold Zdq;rw[e];exact if_pos he
   rw[hR]
   refine Zak hE cf53 (zab rfl) fun Q qr qn=>?_
   refine Bz0 ?_
   refine qcp (hname _) fun k1=>?_
   have hZ:=an7 h0<|an7 hmp<|an7 hof<|an7 hfd<|d1;refine Bz1 ?_
   exact Zaq ⟨rfl,.of (by exact AXT),hM.ext (by exact AXT)⟩
theorem ZfW (hF:ZbI x L facts) (hsx:ZbS x=true):∀(n:Nat),n+1<=L.length->NodK mg oid tk mid x tok tf tl L facts most (ZcV x L facts most (n+1)) (L.length - (n+1))
 | 0,h=>by
  have h3:1<=L.length:=h
  have e:L.length - 1+1=L.length:=by omega
  exact ZgM (d:=L.length - 1) hF hsx (by omega) (fun h2=>(h2 e).elim)
 | n+1,h=>ZgM hF hsx (by omega) (fun _=>by
   have:=ZfW hF hsx n (by omega)
   rw[show L.length - (n+1+1)+1=L.length - (n+1) by omega]
   exact this)
end
end Go.Proofs.YtaapiigfmdhobaaGreat
