/- Texts of the walk. -/
import Derived.Test.YtfjjpndoeppbhaaGreatDoorMv
namespace Go.Proofs.YtfjjpndoeppbhaaGreatDoor
set_option linter.defProp false
set_option maxHeartbeats 64000000
set_option linter.unusedSimpArgs false
set_option linter.unusedVariables false
namespace Pop
def pop (x:Nat):Nat:=(List.range 64).countP (fun i=>x.testBit i)
def pop8 (x:Nat):Nat:=(List.range 8).countP (fun i=>x.testBit i)
theorem ZNp (q M r m:Nat) (hr:r<256) (hm:m<256):(q * 256+r) &&& (M * 256+m)=(q &&& M) * 256+(r &&& m):=by
 have hrm:r &&& m<2 ^ 8:=Nat.and_lt_two_pow _ Xa
 apply zcu
 intro i
 have e:(256:Nat)=2 ^ 8:=rfl
 rw[e,za7 q,za7 M,za7 (q &&& M),zb2,zbk q Xa,zbk M Xa,zbk _ hrm]
 by_cases hi:i<8<;>simp[hi]
def s1 (x M:Nat):Nat:=(x / 2 &&& M)+(x &&& M)
def s2 (x M:Nat):Nat:=(x / 4 &&& M)+(x &&& M)
def s3 (x M:Nat):Nat:=(x / 16+x) &&& M
theorem sh_and (k:Nat) (q M r m:Nat) (hr:r<256) (hm:m<256) (hk:k<=8) (hmk:m<2 ^ (8 - k)):(q * 256+r) / 2 ^ k &&& (M * 256+m)=(q / 2 ^ k &&& M) * 256+(r / 2 ^ k &&& m):=by
 have h2:2 ^ k * 2 ^ (8 - k)=256:=by rw[<- Nat.pow_add,show k+(8 - k)=8 by omega]
 have hpos:0<2 ^ k:=Nat.two_pow_pos k
 have h1:(q * 256+r) / 2 ^ k=q * 2 ^ (8 - k)+r / 2 ^ k:=by
  rw[show q * 256+r=r+2 ^ k * (q * 2 ^ (8 - k)) by rw[<- h2];ac_rfl,Nat.add_mul_div_left _ _ hpos,zbN]
 have hrk:r / 2 ^ k<2 ^ (8 - k):=by rw[zcp hpos,za7,h2];exact hr
 have h3:q * 2 ^ (8 - k)=q / 2 ^ k * 256+q % 2 ^ k * 2 ^ (8 - k):=by
  have:=zb0 q (2 ^ k)
  rw[<- h2]
  calc q * 2 ^ (8 - k)=(2 ^ k * (q / 2 ^ k)+q % 2 ^ k) * 2 ^ (8 - k):=by rw[this]
   _=_:=by rw[zaX];ac_rfl
 have hq:q % 2 ^ k<2 ^ k:=zbG _ hpos
 have hlow:q % 2 ^ k * 2 ^ (8 - k)+r / 2 ^ k<256:=by
  have:q % 2 ^ k * 2 ^ (8 - k)+2 ^ (8 - k)<=256:=by
   rw[<- h2,<- Nat.succ_mul]
   exact zbe _ hq
  omega
 rw[h1,h3,zbs,ZNp _ _ _ _ hlow hm]
 congr 1
 apply zcu
 intro i
 rw[zb2,zb2,za7 (q % 2 ^ k),zbk _ hrk]
 by_cases hi:i<8 - k
 ·simp[hi]
 ·have:m.testBit i=false:=zci (zaM hmk (zbt Xa Xa))
  simp[this]
theorem s1_join (q M r:Nat) (hr:r<256):s1 (q * 256+r) (M * 256+85)=s1 q M * 256+s1 r 85:=by
 have h:=sh_and 1 q M r 85 hr Xa Xa Xa
 unfold s1
 simp only[Nat.pow_one]at h
 rw[h,ZNp _ _ _ _ hr Xa];omega
theorem s2_join (q M r:Nat) (hr:r<256):s2 (q * 256+r) (M * 256+51)=s2 q M * 256+s2 r 51:=by
 have h:=sh_and 2 q M r 51 hr Xa Xa Xa
 unfold s2
 rw[show(2:Nat) ^ 2=4 from rfl]at h
 rw[h,ZNp _ _ _ _ hr Xa];omega
theorem s3_join (q M r:Nat) (hq:q % 16<=4) (hr:r % 16<=4) (hr2:r / 16<=4):s3 (q * 256+r) (M * 256+15)=s3 q M * 256+s3 r 15:=by
 unfold s3
 have h1:(q * 256+r) / 16+(q * 256+r)=(q / 16+q) * 256+(q % 16 * 16+(r / 16+r)):=Xa
 rw[h1,ZNp _ _ _ _ Xa Xa]
 congr 1
 apply zcu
 intro i
 have e2:q % 16 * 16+(r / 16+r)=2 ^ 4 * (q % 16+r / 16)+(r / 16+r % 16):=Xa
 have e3:r / 16+r=2 ^ 4 * (r / 16)+(r / 16+r % 16):=Xa
 rw[e2,e3,zb2,zb2,zbk _ Xa,zbk _ Xa]
 by_cases hi:i<4
 ·simp[hi]
 ·have h15:(15:Nat)<2 ^ 4:=Xa
  have:Nat.testBit 15 i=false:=zci (zaM h15 (zbt Xa Xa))
  simp[this]
theorem byte_all:∀r:Fin 256,s1 r.val 85<256/\s2 (s1 r.val 85) 51 % 16<=4/\s2 (s1 r.val 85) 51 / 16<=4/\s3 (s2 (s1 r.val 85) 51) 15=pop8 r.val/\pop8 r.val<=8:=by decide +kernel
def mk (b:Nat):Nat->Nat
 | 0=>0
 | n+1=>mk b n * 256+b
def cs:Nat->Nat->Nat
 | 0,_=>0
 | n+1,x=>cs n (x / 256) * 256+pop8 (x % 256)
def total:Nat->Nat->Nat
 | 0,_=>0
 | n+1,x=>total n (x / 256)+pop8 (x % 256)
theorem steps (n:Nat):∀x,x<256 ^ n->s3 (s2 (s1 x (mk 85 n)) (mk 51 n)) (mk 15 n)=cs n x/\s2 (s1 x (mk 85 n)) (mk 51 n) % 16<=4:=by
 induction n with
 | zero=>intro x _;simp[mk,cs,s3,s2]
 | succ n ih =>
  intro x hx
  have hq:x / 256<256 ^ n:=by rw[zcp Xa];rw[Nat.pow_succ]at hx;exact hx
  have hr:x % 256<256:=zbG _ Xa
  obtain⟨h1,h2⟩:=ih (x / 256) hq
  obtain⟨b1,b2,b3,b4,_⟩:=byte_all ⟨x % 256,hr⟩
  simp only at b1 b2 b3 b4
  have e1:=s1_join (x / 256) (mk 85 n) (x % 256) hr
  rw[show x / 256 * 256+x % 256=x by omega]at e1
  have e2:=s2_join (s1 (x / 256) (mk 85 n)) (mk 51 n) (s1 (x % 256) 85) b1
  have e3:=s3_join (s2 (s1 (x / 256) (mk 85 n)) (mk 51 n)) (mk 15 n) (s2 (s1 (x % 256) 85) 51) h2 b2 b3
  simp only[mk]
  rw[e1,e2,e3,h1,b4]
  refine⟨rfl,?_⟩
  omega
theorem ZMd (p:Nat->Bool) (a b:Nat):(List.range (a+b)).countP p=(List.range a).countP p+(List.range b).countP (fun i=>p (a+i)):=by
 rw[List.range_add,List.countP_append,List.countP_map];rfl
theorem ZL1 (p q:Nat->Bool) (n:Nat) (h:∀i,i<n->p i=q i):(List.range n).countP p=(List.range n).countP q:=by
 apply zce
 intro x hx
 rw[h x (zbb.1 hx)]
theorem total_eq (n:Nat):∀x,total n x=(List.range (8 * n)).countP (fun i=>x.testBit i):=by
 induction n with
 | zero=>intro x;simp[total]
 | succ n ih =>
  intro x
  rw[show 8 * (n+1)=8+8 * n by omega,ZMd,total,ih,zbN]
  congr 1
  ·unfold pop8
   apply ZL1
   intro i hi
   rw[show(256:Nat)=2 ^ 8 from rfl,Nat.testBit_mod_two_pow];simp[hi]
  ·apply ZL1
   intro i _
   rw[show(256:Nat)=2 ^ 8 from rfl,Nat.testBit_div_two_pow,zbN]
theorem ZRv (x:Nat):total 8 x=pop x:=total_eq 8 x
theorem ZMv (x:Nat):pop8 x<=8:=by unfold pop8;exact zaG (List.countP_le_length) Xc
theorem d1 (c X:Nat) (h:c<=8):(c+256 * X) / 256=X:=Xa
theorem d2 (c0 c1 X2 X3 Y c2:Nat) (h0:c0<=8) (h1:c1<=8) (h2:c2<=8) (hY:Y=(c0+256 * (c1+256 * X2))+(c1+256 * (c2+256 * X3))):Y / 65536=X2+X3:=Xa
theorem d3 (c0 c1 c2 c3 c4 c5 c6 X4 X5 X6 X7 Z:Nat) (h0:c0<=8) (h1:c1<=8) (h2:c2<=8) (h3:c3<=8) (h4:c4<=8) (h5:c5<=8) (h6:c6<=8)
 (hZ:Z=(c0+256 * c1+65536 * c2+16777216 * c3+(c1+256 * c2+65536 * c3+16777216 * c4)+(c2+256 * c3+65536 * c4+16777216 * c5)+(c3+256 * c4+65536 * c5+16777216 * c6))+4294967296 * (X4+X5+X6+X7)):Z / 4294967296=X4+X5+X6+X7:=Xa
theorem last (x:Nat):(cs 8 x)+(cs 8 x) / 256+((cs 8 x)+(cs 8 x) / 256) / 65536+((cs 8 x)+(cs 8 x) / 256+((cs 8 x)+(cs 8 x) / 256) / 65536) / 4294967296<4611686018427387904 /\
  ((cs 8 x)+(cs 8 x) / 256+((cs 8 x)+(cs 8 x) / 256) / 65536+((cs 8 x)+(cs 8 x) / 256+((cs 8 x)+(cs 8 x) / 256) / 65536) / 4294967296) % 128=total 8 x /\
  cs 8 x<1000000000000000000:=by
 simp only[cs,total]
 have h0:=ZMv (x % 256)
 have h1:=ZMv (x / 256 % 256)
 have h2:=ZMv (x / 256 / 256 % 256)
 have h3:=ZMv (x / 256 / 256 / 256 % 256)
 have h4:=ZMv (x / 256 / 256 / 256 / 256 % 256)
 have h5:=ZMv (x / 256 / 256 / 256 / 256 / 256 % 256)
 have h6:=ZMv (x / 256 / 256 / 256 / 256 / 256 / 256 % 256)
 have h7:=ZMv (x / 256 / 256 / 256 / 256 / 256 / 256 / 256 % 256)
 generalize pop8 (x % 256)=c0 at *
 generalize pop8 (x / 256 % 256)=c1 at *
 generalize pop8 (x / 256 / 256 % 256)=c2 at *
 generalize pop8 (x / 256 / 256 / 256 % 256)=c3 at *
 generalize pop8 (x / 256 / 256 / 256 / 256 % 256)=c4 at *
 generalize pop8 (x / 256 / 256 / 256 / 256 / 256 % 256)=c5 at *
 generalize pop8 (x / 256 / 256 / 256 / 256 / 256 / 256 % 256)=c6 at *
 generalize pop8 (x / 256 / 256 / 256 / 256 / 256 / 256 / 256 % 256)=c7 at *
 obtain⟨X7,e7⟩:∃X,X=c7:=⟨_,rfl⟩
 obtain⟨X6,e6⟩:∃X,X=c6+256 * X7:=⟨_,rfl⟩
 obtain⟨X5,e5⟩:∃X,X=c5+256 * X6:=⟨_,rfl⟩
 obtain⟨X4,e4⟩:∃X,X=c4+256 * X5:=⟨_,rfl⟩
 obtain⟨X3,e3⟩:∃X,X=c3+256 * X4:=⟨_,rfl⟩
 obtain⟨X2,e2⟩:∃X,X=c2+256 * X3:=⟨_,rfl⟩
 obtain⟨X1,e1⟩:∃X,X=c1+256 * X2:=⟨_,rfl⟩
 obtain⟨X0,e0⟩:∃X,X=c0+256 * X1:=⟨_,rfl⟩
 have ex:(((((((0 * 256+c7) * 256+c6) * 256+c5) * 256+c4) * 256+c3) * 256+c2) * 256+c1) * 256+c0=X0:=by
  rw[e0,e1,e2,e3,e4,e5,e6,e7];clear h0 h1 h2 h3 h4 h5 h6 h7 e0 e1 e2 e3 e4 e5 e6 e7;omega
 rw[ex]
 have f1:X0 / 256=X1:=by rw[e0];exact d1 _ _ h0
 rw[f1]
 have f2:(X0+X1) / 65536=X2+X3:=d2 c0 c1 X2 X3 _ c2 h0 h1 h2 (by rw[e0,e1,e2])
 rw[f2]
 have f3:(X0+X1+(X2+X3)) / 4294967296=X4+X5+X6+X7:=by
  refine d3 c0 c1 c2 c3 c4 c5 c6 X4 X5 X6 X7 _ h0 h1 h2 h3 h4 h5 h6 ?_
  clear f1 f2 ex e7 h0 h1 h2 h3 h4 h5 h6 h7
  omega
 rw[f3]
 clear f1 f2 f3 ex
 have g7:X7<=8:=Xa
 have g6:X6<=2056:=Xa
 have g5:X5<=526344:=Xa
 have g4:X4<=134744072:=Xa
 have g3:X3<=34494482440:=Xa
 have g2:X2<=8830587504648:=Xa
 have g1:X1<=2260630401189896:=Xa
 have g0:X0<=578721382704613384:=Xa
 refine⟨?_,?_,?_⟩
 ·clear e0 e1 e2 e3 e4 e5 e6 e7;omega
 ·clear g0 g1 g2 g3 g4 g5 g6 g7;omega
 ·clear e0 e1 e2 e3 e4 e5 e6 e7;omega
end Pop
def bit (ws:List Nat) (i:Nat):Bool:=(ws.getD (i / 64) 0).testBit (i % 64)
def flip (ws:List Nat) (i:Nat):List Nat:=ws.set (i / 64) (ws.getD (i / 64) 0 ^^^ 2 ^ (i % 64))
theorem ZNy (ws:List Nat) (i:Nat):(flip ws i).length=ws.length:=by simp[flip]
theorem bit_flip (ws:List Nat) (i j:Nat) (hi:i / 64<ws.length):bit (flip ws i) j=(bit ws j ^^ decide (i=j)):=by
 unfold bit flip
 by_cases hd:i / 64=j / 64
 ·rw[<- hd,zai,List.getElem?_set_self hi]
  simp only[Option.getD_some]
  rw[Nat.testBit_xor,Nat.testBit_two_pow]
  have:decide (i % 64=j % 64)=decide (i=j):=by
   by_cases h:i=j
   ·subst h;simp
   ·have:¬i % 64=j % 64:=Xa
    simp[h,this]
  rw[this]
 ·have hne:¬i=j:=by intro h;subst h;exact hd rfl
  rw[zai,zbF hd]
  simp[hne]
def ZMi (ws:List Nat) (n:Nat) (i:Int):Bool:=decide (0<=i)&&decide (i<n)&&bit ws i.toNat
def ZL8 (l:List Int) (x:Int):Bool:=l.any (· == x)
theorem ZMl (l:List Int) (x:Int):ZL8 l x=true ↔ x∈l:=by
 unfold ZL8;simp[List.any_eq_true]
def wrg (inU:Int->Bool) (n:Nat) (must:Bool) (pre:List Int):List Int->Int
 | []=>0
 | x :: r=>if x<0\/(n:Int)<=x then 9 else if (inU x != must) || ZL8 pre x then (if must then 10 else 11) else wrg inU n must (pre++[x]) r
theorem wrg_at (inU:Int->Bool) (n:Nat) (must:Bool) (l:List Int) (k:Nat) (hk:k<l.length) :
  wrg inU n must (l.take k) (l.drop k)=if l[k]<0\/(n:Int)<=l[k] then 9 else if (inU l[k] != must) || ZL8 (l.take k) l[k] then (if must then 10 else 11) else wrg inU n must (l.take (k+1)) (l.drop (k+1)):=by
 rw[List.drop_eq_getElem_cons hk,zas hk]
 rfl
theorem wrg_end (inU:Int->Bool) (n:Nat) (must:Bool) (l:List Int) (k:Nat) (hk:l.length<=k):wrg inU n must (l.take k) (l.drop k)=0:=by
 rw[zbg hk];rfl
theorem ZQE (inU:Int->Bool) (n:Nat) (must:Bool) (l:List Int):∀pre,wrg inU n must pre l=0->(∀x∈l,0<=x/\x<n/\inU x=must/\ZL8 pre x=false)/\l.Nodup:=by
 induction l with
 | nil=>intro pre _;simp
 | cons x r ih =>
  intro pre h
  simp only[wrg]at h
  split at h
  ·cases h
  ·rename_i h1
   split at h
   ·split at h<;>cases h
   ·rename_i h2
    simp only[Bool.or_eq_true,bne_iff_ne,ne_eq,not_or,Decidable.not_not,Bool.not_eq_true]at h2
    obtain⟨i1,i2⟩:=ih _ h
    refine⟨fun y hy=>?_,?_⟩
    ·rcases zay.1 hy with rfl|hy
     ·exact⟨Xa,Xa,h2.1,h2.2⟩
     ·obtain⟨a,b,c,d⟩:=i1 y hy
      refine⟨a,b,c,?_⟩
      unfold ZL8 at d ⊢
      rw[List.any_append,zct]at d
      exact d.1
    ·rw[zaU]
     refine⟨fun hx=>?_,i2⟩
     obtain⟨_,_,_,d⟩:=i1 x hx
     unfold ZL8 at d
     rw[List.any_append,zct]at d
     simp at d
theorem ZSO (f g:Int->Bool) (n:Nat) (must:Bool) (l:List Int) (h:∀x:Int,0<=x->x<(n:Int)->f x=g x):∀pre,wrg f n must pre l=wrg g n must pre l:=by
 induction l with
 | nil=>intro pre;rfl
 | cons x r ih =>
  intro pre
  simp only[wrg]
  split
  ·rfl
  ·rename_i h1
   rw[h x Xa Xa,ih]
def ZMm (ws:List Nat) (l:List Int):List Nat:=l.foldl (fun ws i=>flip ws i.toNat) ws
theorem ZPn (l:List Int):∀ws,(ZMm ws l).length=ws.length:=by
 induction l with
 | nil=>intro ws;rfl
 | cons x r ih=>intro ws;simp only[ZMm,List.foldl_cons]at ih ⊢;rw[ih,ZNy]
def ZL2 (ws:List Nat):Nat:=(ws.map Pop.pop).sum
theorem pop_le (x:Nat):Pop.pop x<=64:=by unfold Pop.pop;exact zaG List.countP_le_length Xc
theorem ZR7 (ws:List Nat):ZL2 ws<=64 * ws.length:=by
 unfold ZL2
 induction ws with
 | nil=>simp
 | cons x r ih=>simp only[zaD,List.sum_cons,List.length_cons];have:=pop_le x;omega
theorem ZPI (ws:List Nat) (k:Nat) (hk:k<ws.length):ZL2 (ws.take (k+1))=ZL2 (ws.take k)+Pop.pop ws[k]:=by
 unfold ZL2
 rw[zas hk,zb1,List.sum_append];simp
theorem ZOn (ws:List Nat) (l:List Int) (k:Nat) (hk:k<l.length):ZMm ws (l.take (k+1))=flip (ZMm ws (l.take k)) l[k].toNat:=by
 unfold ZMm
 rw[zas hk,zcg];rfl
def ZLV (p:Nat->Bool) (i:Nat):List Int:=((List.range i).filter (fun j=>!p j)).map fun(j:Nat)=>(j:Int)
theorem ZNT (p:Nat->Bool) (i:Nat):ZLV p (i+1)=ZLV p i++(if p i then [] else [(i:Int)]):=by
 unfold ZLV
 rw[List.range_succ,List.filter_append,zb1]
 by_cases h:p i<;>simp[h]
theorem ZO0 (p:Nat->Bool) (i:Nat):(ZLV p i).length<=i:=by
 unfold ZLV
 rw[zam]
 exact zaG (List.length_filter_le _ _) Xc
theorem ZQb (p:Nat->Bool) (i j:Nat) (h:i<=j):ZLV p i <+: ZLV p j:=by
 induction j with
 | zero =>
  have:i=0:=Xa
  subst this;exact zcn _
 | succ j ih =>
  by_cases he:i=j+1
  ·subst he;exact zcn _
  ·rw[ZNT]
   exact(ih Xa).trans (zcC _ _)
def Tidy (ws:List Nat) (n:Nat):Prop:=∀i,n<=i->bit ws i=false
theorem pop_bits (ws:List Nat):ZL2 ws=(List.range (64 * ws.length)).countP (bit ws):=by
 induction ws with
 | nil=>simp[ZL2]
 | cons x r ih =>
  have e1:ZL2 (x :: r)=Pop.pop x+ZL2 r:=by simp[ZL2]
  rw[e1,ih,List.length_cons,show 64 * (r.length+1)=64+64 * r.length by omega,Pop.ZMd]
  congr 1
  ·apply Pop.ZL1
   intro i _
   have h1:(64+i) / 64=i / 64+1:=Xa
   have h2:(64+i) % 64=i % 64:=Xa
   simp[bit,h1,h2]
theorem ZQC {ws:List Nat} {n:Nat} (h:Tidy ws n) (hn:n<=64 * ws.length):ZL2 ws=(List.range n).countP (bit ws):=by
 rw[pop_bits,show 64 * ws.length=n+(64 * ws.length - n) by omega,Pop.ZMd]
 have:(List.range (64 * ws.length - n)).countP (fun i=>bit ws (n+i))=0:=by
  rw[List.countP_eq_zero]
  intro i _
  simp[h (n+i) Xa]
 omega
theorem bit_zero (k i:Nat):bit (List.replicate k 0) i=false:=by
 unfold bit
 rw[zai,zcb]
 split<;>simp
theorem ZRh (p:Nat->Bool) (n:Nat):(List.range n).countP p+(ZLV p n).length=n:=by
 unfold ZLV
 rw[zam,<- List.countP_eq_length_filter]
 have:=List.length_eq_countP_add_countP p (l:=List.range n)
 simp only[List.length_range]at this
 have e:(List.range n).countP (fun j=>!p j)=(List.range n).countP (fun a=>decide ¬p a=true):=by
  apply zce;intro x _;simp
 omega
theorem ZOj {ws:List Nat} {n:Nat} (h:Tidy ws n) (hn:n<=64 * ws.length):ZL2 ws+(ZLV (bit ws) n).length=n:=by
 rw[ZQC h hn];exact ZRh _ _
theorem ZRw (p:Nat->Bool) (n:Nat):(∀x∈ZLV p n,0<=x/\x<n/\p x.toNat=false)/\(ZLV p n).Nodup:=by
 unfold ZLV
 refine⟨fun x hx=>?_,?_⟩
 ·obtain⟨j,hj,rfl⟩:=zaH.1 hx
  rw[zbv,zbb]at hj
  exact⟨Xa,Xa,by simpa using hj.2⟩
 ·refine List.Pairwise.map _ (fun a b hab=>?_) (List.nodup_range.sublist List.filter_sublist)
  intro h;exact hab Xa
def RmI (ws:List Nat) (u:List Int) (n:Nat):Prop :=
 (∀j:Nat,bit ws j=ZL8 u j)/\u.Nodup/\(∀x∈u,0<=x/\x<n)/\n<=64 * ws.length
theorem ZMp {l:List Int} {x:Int} (h:x ∉ l):ZL8 l x=false:=by
 rcases hb:ZL8 l x with _|_
 ·rfl
 ·exact absurd ((ZMl l x).1 hb) h
theorem RmI.tidy {ws:List Nat} {u:List Int} {n:Nat} (h:RmI ws u n):Tidy ws n:=by
 intro i hi
 rw[h.1]
 exact ZMp (fun hx=>by have:=h.2.2.1 _ hx;omega)
theorem RmI.used {ws:List Nat} {u:List Int} {n:Nat} (h:RmI ws u n) (x:Int):ZMi ws n x=ZL8 u x:=by
 unfold ZMi
 by_cases h0:0<=x
 ·by_cases h1:x<n
  ·obtain⟨k,rfl⟩:=zaL h0
   simp[h1,h.1]
  ·rw[ZMp (fun hx=>by have:=h.2.2.1 _ hx;omega)]
   simp[h1]
 ·rw[ZMp (fun hx=>by have:=h.2.2.1 _ hx;omega)]
  simp[h0]
theorem RmI.wrg {ws:List Nat} {u:List Int} {n:Nat} (h:RmI ws u n) (must:Bool) (l:List Int):wrg (ZMi ws n) n must [] l=wrg (ZL8 u) n must [] l :=
 ZSO _ _ n must l (fun x _ _=>h.used x) []
theorem ZQW (n:Nat):∀u:List Int,u.Nodup->(∀x∈u,0<=x/\x<n)->(List.range n).countP (fun i:Nat=>ZL8 u (i:Int))=u.length:=by
 intro u
 induction u with
 | nil=>intro _ _;simp[ZL8]
 | cons x r ih =>
  intro hn hr
  rw[zaU]at hn
  obtain⟨h0,h1⟩:=hr x zak
  obtain⟨k,rfl⟩:=zaL h0
  have hk:k<n:=Xa
  have ih':=ih hn.2 (fun y hy=>hr y (zar _ hy))
  have e1:∀i:Nat,ZL8 ((k:Int) :: r) i=(decide (i=k) || ZL8 r i):=by
   intro i
   unfold ZL8
   simp only[List.any_cons]
   congr 1
   by_cases h:i=k
   ·subst h;simp
   ·have:¬(k:Int)=i:=Xa
    simp[h,this]
  have e2:(List.range n).countP (fun i:Nat=>ZL8 ((k:Int) :: r) (i:Int))=(List.range n).countP (fun i=>decide (i=k))+(List.range n).countP (fun i:Nat=>ZL8 r (i:Int)):=by
   have hdis:∀l:List Nat,l.countP (fun i:Nat=>ZL8 ((k:Int) :: r) (i:Int))=l.countP (fun i=>decide (i=k))+l.countP (fun i:Nat=>ZL8 r (i:Int)):=by
    intro l
    induction l with
    | nil=>rfl
    | cons a b ihb =>
     rw[zbB,zbB,zbB,ihb,e1 a]
     by_cases ha:a=k
     ·subst ha
      have:ZL8 r (a:Int)=false:=ZMp hn.1
      simp[this]<;>omega
     ·simp[ha]<;>omega
   exact hdis _
  have e3:(List.range n).countP (fun i=>decide (i=k))=1:=by
   have:(List.range n).countP (fun i=>decide (i=k))=(List.range n).count k:=by
    rw[List.count]
    apply zce
    intro a _
    simp
   rw[this,List.nodup_range.count,if_pos (zbb.2 hk)]
  rw[e2,e3,ih',List.length_cons];omega
theorem RmI.count {ws:List Nat} {u:List Int} {n:Nat} (h:RmI ws u n):ZL2 ws=u.length:=by
 rw[ZQC h.tidy h.2.2.2]
 rw[<- ZQW n u h.2.1 h.2.2.1]
 apply Pop.ZL1
 intro i _
 exact h.1 i
theorem RmI.free {ws:List Nat} {u:List Int} {n:Nat} (h:RmI ws u n):ZLV (bit ws) n=ZLV (fun i=>ZL8 u i) n/\(ZLV (bit ws) n).length+u.length=n:=by
 refine⟨?_,?_⟩
 ·unfold ZLV
  have:bit ws=fun i:Nat=>ZL8 u i:=funext h.1
  rw[this]
 ·have:=ZOj h.tidy h.2.2.2
  rw[h.count]at this
  omega
theorem ZO7 (l:List Int):∀ws:List Nat,(∀x∈l,0<=x/\x.toNat / 64<ws.length)->l.Nodup->∀j:Nat,bit (ZMm ws l) j=(bit ws j ^^ ZL8 l j):=by
 induction l with
 | nil=>intro ws _ _ j;simp[ZMm,ZL8]
 | cons x r ih =>
  intro ws h hn j
  rw[zaU]at hn
  obtain⟨h0,h1⟩:=h x zak
  have e:ZMm ws (x :: r)=ZMm (flip ws x.toNat) r:=rfl
  rw[e,ih (flip ws x.toNat) (fun y hy=>by rw[ZNy];exact h y (zar _ hy)) hn.2,bit_flip _ _ _ h1]
  have e1:ZL8 (x :: r) j=(decide (x.toNat=j) || ZL8 r j):=by
   unfold ZL8
   simp only[List.any_cons]
   congr 1
   by_cases hx:x.toNat=j
   ·have:x=j:=Xa
    simp[this]
   ·have:¬x=j:=Xa
    simp[hx,this]
  rw[e1]
  by_cases hx:x.toNat=j
  ·have hxj:x=j:=Xa
   have:ZL8 r (j:Int)=false:=ZMp (by rw[<- hxj];exact hn.1)
   simp[hx,this]
  ·simp[hx]
theorem RmI.use {ws:List Nat} {u:List Int} {n:Nat} (h:RmI ws u n) (l:List Int) (h0:_root_.Go.Proofs.YtfjjpndoeppbhaaGreatDoor.wrg (ZL8 u) n false [] l=0):RmI (ZMm ws l) (u++l) n:=by
 obtain⟨h1,h2⟩:=ZQE (ZL8 u) n false l [] h0
 have hr:∀x∈l,0<=x/\x.toNat / 64<ws.length:=fun x hx=>by
  have:=h1 x hx
  have:=h.2.2.2
  exact⟨Xa,Xa⟩
 refine⟨fun j=>?_,?_,fun x hx=>?_,by rw[ZPn];exact h.2.2.2⟩
 ·rw[ZO7 l ws hr h2,h.1]
  have e:ZL8 (u++l) (j:Int)=(ZL8 u j || ZL8 l j):=by unfold ZL8;rw[List.any_append]
  rw[e]
  rcases hl:ZL8 l (j:Int)with _|_
  ·simp
  ·have:=(h1 _ ((ZMl l j).1 hl)).2.2.1
   simp[this]
 ·rw[zbl]
  refine⟨h.2.1,h2,fun a ha b hb=>?_⟩
  rintro rfl
  have:=(h1 a hb).2.2.1
  rw[(ZMl u a).2 ha]at this
  cases this
 ·rcases zaw.1 hx with hx|hx
  ·exact h.2.2.1 x hx
  ·have:=h1 x hx;exact⟨this.1,this.2.1⟩
theorem RmI.freed {ws:List Nat} {u:List Int} {n:Nat} (h:RmI ws u n) (l:List Int) (h0:_root_.Go.Proofs.YtfjjpndoeppbhaaGreatDoor.wrg (ZL8 u) n true [] l=0):RmI (ZMm ws l) (u.filter (fun x=>!ZL8 l x)) n:=by
 obtain⟨h1,h2⟩:=ZQE (ZL8 u) n true l [] h0
 have hr:∀x∈l,0<=x/\x.toNat / 64<ws.length:=fun x hx=>by
  have:=h1 x hx
  have:=h.2.2.2
  exact⟨Xa,Xa⟩
 refine⟨fun j=>?_,h.2.1.sublist List.filter_sublist,fun x hx=>h.2.2.1 x (zbv.1 hx).1,by rw[ZPn];exact h.2.2.2⟩
 rw[ZO7 l ws hr h2,h.1]
 have e:ZL8 (u.filter (fun x=>!ZL8 l x)) (j:Int)=(ZL8 u j&&!ZL8 l j):=by
  rw[zbQ]
  rw[ZMl,zbv,zaV,ZMl]
 rw[e]
 rcases hl:ZL8 l (j:Int)with _|_
 ·simp
 ·have:=(h1 _ ((ZMl l j).1 hl)).2.2.1
  simp[this]
theorem ZOw (n:Nat):RmI (List.replicate ((n+63) / 64) 0) [] n :=
 ⟨fun j=>by rw[bit_zero];rfl,Xc,Xc,Xf⟩
open Go.RowKit Go.Lib
theorem wr64 (n:Nat) (h:n<18446744073709551616):IntKind.u64.wrap (n:Int)=n:=by
 rw[show IntKind.u64.wrap (n:Int)=(n:Int) % 18446744073709551616 from rfl]
 omega
theorem of64 (x:Nat) (hx:x<18446744073709551616):(BitVec.ofInt IntKind.u64.bits (x:Int)).toNat=x:=by
 show(BitVec.ofInt 64 (x:Int)).toNat=x
 rw[BitVec.ofInt_natCast,za4]
 exact zaF hx
theorem an64 (x y:Nat) (hx:x<18446744073709551616) (hy:y<18446744073709551616):IntKind.u64.wrap ((BitVec.ofInt IntKind.u64.bits (x:Int) &&& BitVec.ofInt IntKind.u64.bits (y:Int)).toNat:Int)=((x &&& y:Nat):Int):=by
 rw[BitVec.toNat_and,of64 x hx,of64 y hy]
 exact wr64 _ (zbj Nat.and_le_left hx)
theorem xo64 (x y:Nat) (hx:x<18446744073709551616) (hy:y<18446744073709551616):IntKind.u64.wrap ((BitVec.ofInt IntKind.u64.bits (x:Int) ^^^ BitVec.ofInt IntKind.u64.bits (y:Int)).toNat:Int)=((x ^^^ y:Nat):Int):=by
 rw[BitVec.toNat_xor,of64 x hx,of64 y hy]
 exact wr64 _ (Nat.xor_lt_two_pow (n:=64) hx hy)
theorem sh64 (x k:Nat) (hk:k<=64):Int.fdiv (x:Int) (2 ^ min k IntKind.u64.bits)=((x / 2 ^ k:Nat):Int):=by
 rw[show min k IntKind.u64.bits=k from zaP hk,zbY _ (Int.le_of_lt (Int.pow_pos Xb))]
 simp
def M0:Nat:=6148914691236517205
def M1:Nat:=3689348814741910323
def M2:Nat:=1085102592571150095
theorem mk0:Pop.mk 85 8=M0:=Xb
theorem mk1:Pop.mk 51 8=M1:=Xb
theorem mk2:Pop.mk 15 8=M2:=Xb
theorem ZQo (x m:Nat):x &&& m<=m:=Nat.and_le_right
theorem am64 (x y:Nat) (m:Int) (hm:m=(y:Int)) (hx:x<18446744073709551616) (hy:y<18446744073709551616):IntKind.u64.wrap ((BitVec.ofInt IntKind.u64.bits (x:Int) &&& BitVec.ofInt IntKind.u64.bits m).toNat:Int)=((x &&& y:Nat):Int):=by
 subst hm
 exact an64 x y hx hy
theorem ad64 (x y:Nat) (h:x+y<18446744073709551616):IntKind.u64.wrap ((x:Int)+(y:Int))=((x+y:Nat):Int):=by
 rw[show((x:Int)+(y:Int))=((x+y:Nat):Int) by omega]
 exact wr64 _ h
theorem one5 (x:Nat) (hx:x<4611686018427387904):IntKind.i64.wrap ((BitVec.ofInt IntKind.i64.bits (x:Int) &&& BitVec.ofInt IntKind.i64.bits 127).toNat:Int)=((x % 128:Nat):Int):=by
 have e1:(BitVec.ofInt 64 (x:Int)).toNat=x:=by rw[BitVec.ofInt_natCast,za4];exact zaF Xa
 have e2:(BitVec.ofInt 64 (127:Int)).toNat=127:=Xb
 show IntKind.i64.wrap ((BitVec.ofInt 64 (x:Int) &&& BitVec.ofInt 64 (127:Int)).toNat:Int)=_
 rw[BitVec.toNat_and,e1,e2,show x &&& 127=x % 128 from Nat.and_two_pow_sub_one_eq_mod x 7,Zaw Xa Xa]
theorem ZPE (x:Nat) (H:Zaa) (hx:x<18446744073709551616):Zay Tryz.prog 110 [.sc (.int .u64 (x:Int))] H (Pure H (.i (Pop.pop x:Int))):=by
 have hx0:Zaa.Ext H H:=.refl _
 have hs:=(Pop.steps 8 x hx).1
 rw[mk0,mk1,mk2]at hs
 obtain⟨l1,l2,l3⟩:=Pop.last x
 have ht:=Pop.ZRv x
 have a1:=am64 (x / 2 ^ 1) M0 6148914691236517205 rfl Xa (by unfold M0;omega)
 have a2:=am64 x M0 6148914691236517205 rfl hx (by unfold M0;omega)
 have b1:=ZQo (x / 2 ^ 1) M0
 have b2:=ZQo x M0
 have a3:=ad64 (x / 2 ^ 1 &&& M0) (x &&& M0) (by unfold M0 at *;omega)
 have s1:=sh64 x 1 Xa
 obtain⟨y,hy⟩:∃y,y=(x / 2 ^ 1 &&& M0)+(x &&& M0):=⟨_,rfl⟩
 have y0:Pop.s1 x M0=y:=by rw[hy];rfl
 have y1:y<18446744073709551616:=by unfold M0 at *;omega
 rw[<- hy]at a3
 rw[y0]at hs
 have a4:=am64 (y / 2 ^ 2) M1 3689348814741910323 rfl Xa (by unfold M1;omega)
 have a5:=am64 y M1 3689348814741910323 rfl y1 (by unfold M1;omega)
 have b3:=ZQo (y / 2 ^ 2) M1
 have b4:=ZQo y M1
 have a6:=ad64 (y / 2 ^ 2 &&& M1) (y &&& M1) (by unfold M1 at *;omega)
 have s2:=sh64 y 2 Xa
 obtain⟨z,hz⟩:∃z,z=(y / 2 ^ 2 &&& M1)+(y &&& M1):=⟨_,rfl⟩
 have z0:Pop.s2 y M1=z:=by rw[hz];rfl
 have z1:z<9000000000000000000:=by unfold M1 at *;omega
 rw[<- hz]at a6
 rw[z0]at hs
 have s3:=sh64 z 4 Xa
 have a7:=ad64 (z / 2 ^ 4) z Xa
 have a8:=am64 (z / 2 ^ 4+z) M2 1085102592571150095 rfl Xa (by unfold M2;omega)
 have hs:(z / 2 ^ 4+z &&& M2)=Pop.cs 8 x:=hs
 rw[hs]at a8
 rw[ht]at l2
 generalize Pop.cs 8 x=c at *
 have s4:=sh64 c 8 Xa
 have a9:=ad64 c (c / 2 ^ 8) Xa
 have e1:c / 2 ^ 8=c / 256:=rfl
 generalize c / 2 ^ 8=c8 at *
 have s5:=sh64 (c+c8) 16 Xa
 have e2:(c+c8) / 2 ^ 16=(c+c8) / 65536:=rfl
 have a10:=ad64 (c+c8) ((c+c8) / 2 ^ 16) Xa
 generalize (c+c8) / 2 ^ 16=c16 at *
 have s6:=sh64 (c+c8+c16) 32 Xa
 have e3:(c+c8+c16) / 2 ^ 32=(c+c8+c16) / 4294967296:=rfl
 have a11:=ad64 (c+c8+c16) ((c+c8+c16) / 2 ^ 32) Xa
 generalize (c+c8+c16) / 2 ^ 32=c32 at *
 rw[<- e1,<- e2,<- e3]at l1 l2
 have a12:=one5 (c+c8+c16+c32) l1
 rw[l2]at a12
 have a13:IntKind.i64.wrap ((c+c8+c16+c32:Nat):Int)=((c+c8+c16+c32:Nat):Int):=Zaw Xa Xa
 refine fnQ cf110 fun Q qr qn=>?_
 ((have hd:=tv;repeat' first|(first|apply Zad|apply Zac|apply Zab)<;>intro hd<;>try simp only[hd]|simp(disch:=first|assumption|omega|simp only[nx]<;>omega|fail)only[hd,qr,qn,Zpi,↓YA,YY,↓reduceIte,Nat.reduceEqDiff,Nat.reduceAdd,Nat.reduceMul,Nat.reduceLeDiff,Int.reduceToNat,Int.reduceLE,Int.reduceLT,Int.reduceGT,Int.reduceGE,Int.reduceAdd,Int.reduceSub,Int.reduceNeg,Int.reduceBEq,Int.reduceBNe,a1,a2,a3,a4,a5,a6,a7,a8,a9,a10,a11,a12,a13,s1,s2,s3,s4,s5,s6])<;>try revert hd;refine ttr ?_)
 exact ZaW hx0 rfl
open Go.RowKit Go.Lib
abbrev rW (ws:List Nat):List AV:=ws.map fun(x:Nat)=>AV.sc (.int .u64 (x:Int))
structure RmA (ws:List Nat) (n R W:Nat) (H:Zaa):Prop where
 r:H.get R=some (.cells [.arr W 0 ws.length ws.length,.i (n:Int)] 167)
 w:H.get W=some (.cells (rW ws) 149)
 l:ws.length=(n+63) / 64
 n1:1<=n
 n2:n<=2047
 b:∀x∈ws,x<18446744073709551616
theorem ZM0 {ws:List Nat} {n R W:Nat} {H:Zaa} (h:RmA ws n R W H) (i:Int):Zay Tryz.prog 159 [.ptr R 0,.i i] H (Pure H (.b (decide (0<=i)&&decide (i<n)))):=by
 have hx0:Zaa.Ext H H:=.refl _
 have hr:=h.r
 by_cases h0:0<=i
 ·have d0:decide (i≥0)=true:=decide_eq_true h0
  have d1:decide (0<=i)=true:=decide_eq_true h0
  refine fnQ cf159 fun Q qr qn=>?_
  refine Bz1 (X2 hr d0) ?_
  rw[Bool.true_and]
  exact ZaW hx0 rfl
 ·have d0:decide (i≥0)=false:=decide_eq_false h0
  have d1:decide (0<=i)=false:=decide_eq_false h0
  refine fnQ cf159 fun Q qr qn=>?_
  refine Bz1 (X2 hr d0) ?_
  rw[Bool.false_and]
  exact ZaW hx0 rfl
theorem ZRC {ws:List Nat} {k:Nat} (h:k<ws.length):(rW ws)[k]?=some (.sc (.int .u64 (ws[k]:Int))):=by simp[h]
theorem bit_at {ws:List Nat} {k:Nat} (h:k / 64<ws.length):bit ws k=(((ws[k / 64] / 2 ^ (k % 64) &&& 1:Nat):Int) == 1):=by
 unfold bit
 rw[zai,zab h,Option.getD_some,Nat.testBit_eq_decide_div_mod_eq,zcB]
 generalize ws[k / 64] / 2 ^ (k % 64) % 2=y
 by_cases hy:y=1
 ·subst hy;rfl
 ·rw[decide_eq_false hy,eq_comm,beq_eq_false_iff_ne]
  omega
theorem ZNb {ws:List Nat} {n R W:Nat} {H:Zaa} (h:RmA ws n R W H) (i:Int):Zay Tryz.prog 111 [.ptr R 0,.i i] H (Pure H (.b (ZMi ws n i))):=by
 have hx0:Zaa.Ext H H:=.refl _
 have hr:=h.r
 have hw:=h.w
 have hth:=ZM0 h i
 unfold ZMi
 generalize hb:(decide (0<=i)&&decide (i<(n:Int)))=b at *
 cases b with
 | false =>
  rw[Bool.false_and]
  refine fnQ cf111 fun Q qr qn=>?_
  refine Bz0 ?_
  refine qcp (hth) fun k1=>?_
  refine Bz0 ?_
  exact ZaW hx0.bump rfl
 | true =>
  rw[Bool.true_and]
  rw[zaV,decide_eq_true_iff,decide_eq_true_iff]at hb
  obtain⟨k,rfl⟩:=zaL hb.1
  have hk:k<n:=Xa
  have hkl:k / 64<ws.length:=by rw[h.l];omega
  have hg:=ZRC hkl
  have hlt:=h.b _ (zau hkl)
  refine fnQ cf111 fun Q qr qn=>?_
  refine Bz0 ?_
  refine qcp (hth) fun k1=>?_
  have hn2:=h.n2
  have n64:((64:Int)=0)=False:=Xc
  have t1:IntKind.i64.wrap ((k:Int).tdiv 64)=((k / 64:Nat):Int):=by rw[za3 Xa,Zaw Xa Xa];omega
  have t2:(k:Int).tmod 64=((k % 64:Nat):Int):=by rw[zbx Xa];omega
  have z0:(0:Int)<=((k / 64:Nat):Int):=Xa
  have z1:((k / 64:Nat):Int)<((ws.length:Nat):Int):=Xa
  have z2:(((k % 64:Nat):Int)<0)=False:=by simp only[eq_iff_iff,iff_false];omega
  have s1:=sh64 ws[k / 64] (k % 64) Xa
  have s2:=am64 (ws[k / 64] / 2 ^ (k % 64)) 1 1 rfl (zbj (Nat.div_le_self _ _) hlt) Xa
  ((have hd:=tv;repeat' first|(first|apply Zad|apply Zac|apply Zab)<;>intro hd<;>try simp only[hd]|simp(disch:=first|assumption|omega|simp only[nx]<;>omega|fail)only[hd,qr,qn,Zfr,↓YA,YY,↓reduceIte,Nat.reduceEqDiff,Nat.reduceAdd,Nat.reduceMul,Nat.reduceLeDiff,Int.reduceToNat,Int.reduceLE,Int.reduceLT,Int.reduceGT,Int.reduceGE,Int.reduceAdd,Int.reduceSub,Int.reduceNeg,Int.reduceBEq,Int.reduceBNe,hr,hw,n64,t1,t2,z0,z1,z2,hg,s1,s2,Int.toNat_natCast])<;>try revert hd;refine ttr ?_)
  refine ZaW hx0.bump ?_
  rw[bit_at hkl]
  rfl
open Go.RowKit Go.Lib
theorem rW_flip {ws:List Nat} {k:Nat} (h:k / 64<ws.length):List.take (k / 64) (rW ws)++[.sc (.int .u64 ((ws[k / 64] ^^^ 2 ^ (k % 64):Nat):Int))]++List.drop (k / 64+1) (rW ws)=rW (flip ws k):=by
 have hl:k / 64<(rW ws).length:=by simp[h]
 unfold flip
 rw[zai,zab h,Option.getD_some]
 rw[show rW (ws.set (k / 64) (ws[k / 64] ^^^ 2 ^ (k % 64)))=(rW ws).set (k / 64) (.sc (.int .u64 ((ws[k / 64] ^^^ 2 ^ (k % 64):Nat):Int)))from List.map_set]
 rw[zcj,if_pos hl,zan]
 rfl
theorem flip_lt (ws:List Nat) (i:Nat) (h:∀x∈ws,x<18446744073709551616):∀x∈flip ws i,x<18446744073709551616:=by
 intro x hx
 rcases zbI hx with hx|rfl
 ·exact h x hx
 ·refine Nat.xor_lt_two_pow (n:=64) ?_ (zcv Xb (zbG _ Xb))
  rw[zai]
  cases hg:ws[i / 64]? with
  | none=>decide
  | some y=>exact h y (zaN hg)
theorem sl64 (k:Nat) (hk:k<64):IntKind.u64.wrap (1 * 2 ^ min k IntKind.u64.bits)=((2 ^ k:Nat):Int):=by
 rw[show min k IntKind.u64.bits=k from zaP (Nat.le_of_lt hk),Int.one_mul,<- wr64 _ (zcv (n:=64) Xb hk)]
 congr 1
theorem RmA.flip {ws:List Nat} {n R W:Nat} {H K:Zaa} (h:RmA ws n R W H) (i:Nat) (k:KF (·=W) H K) (hw:K.get W=some (.cells (rW (flip ws i)) 149)):RmA (flip ws i) n R W K :=
 ⟨by rw[ZNy];exact k.g _ _ (fun e=>by have:=h.r;rw[e,h.w]at this;simp at this) h.r,hw,by rw[ZNy];exact h.l,h.n1,h.n2,flip_lt _ _ h.b⟩
theorem ZM7 {ws:List Nat} {n R W:Nat} {H:Zaa} (h:RmA ws n R W H) (k:Nat) (hk:k<n):Zay Tryz.prog 107 [.ptr R 0,.i (k:Int)] H fun _ G=>RmA (flip ws k) n R W G/\KF (·=W) H G:=by
 have hr:=h.r
 have hw:=h.w
 have hkl:k / 64<ws.length:=by rw[h.l];omega
 have hg:=ZRC hkl
 have hlt:=h.b _ (zau hkl)
 have hn2:=h.n2
 have n64:((64:Int)=0)=False:=Xc
 have t1:IntKind.i64.wrap ((k:Int).tdiv 64)=((k / 64:Nat):Int):=by rw[za3 Xa,Zaw Xa Xa];omega
 have t2:(k:Int).tmod 64=((k % 64:Nat):Int):=by rw[zbx Xa];omega
 have z0:(0:Int)<=((k / 64:Nat):Int):=Xa
 have z1:((k / 64:Nat):Int)<((ws.length:Nat):Int):=Xa
 have z2:(((k % 64:Nat):Int)<0)=False:=by simp only[eq_iff_iff,iff_false];omega
 have s1:=sl64 (k % 64) (zbG _ Xb)
 have s2:=xo64 ws[k / 64] (2 ^ (k % 64)) hlt (zcv (n:=64) Xb (zbG _ Xb))
 have hsp:=rW_flip hkl
 have hwl:(rW ws).length=ws.length:=Xc
 refine fnQ cf107 fun Q qr qn=>?_
 ((have hd:=tv;repeat' first|(first|apply Zad|apply Zac|apply Zab)<;>intro hd<;>try simp only[hd]|simp(disch:=first|assumption|omega|simp only[nx]<;>omega|fail)only[hd,qr,qn,Zcf,↓YA,YY,↓reduceIte,Nat.reduceEqDiff,Nat.reduceAdd,Nat.reduceMul,Nat.reduceLeDiff,Int.reduceToNat,Int.reduceLE,Int.reduceLT,Int.reduceGT,Int.reduceGE,Int.reduceAdd,Int.reduceSub,Int.reduceNeg,Int.reduceBEq,Int.reduceBNe,hr,hw,n64,t1,t2,z0,z1,z2,hg,s1,s2,hsp,hwl,Zdi,show k / 64+1<=ws.length from hkl,Int.toNat_natCast])<;>try revert hd;refine ttr ?_)
 have hK:KF (·=W) H (H.set W (.cells (rW (flip ws k)) 149)):=(KF.refl _ _).set (.inl rfl)
 exact Zaq ⟨h.flip k hK (Zaa.Zal (Zaa.lt hw)),hK⟩
open Go.RowKit Go.Lib
section
variable {ws:List Nat} {n R W:Nat} {H G:Zaa}
theorem RmA.ext (h:RmA ws n R W H) (k:Zaa.Ext H G):RmA ws n R W G:=⟨k.get _ _ h.r,k.get _ _ h.w,h.l,h.n1,h.n2,h.b⟩
theorem ZL9 (l:List Int) (x:Int):ZL8 l x=decide (x∈l):=by
 rw[zbQ,ZMl,decide_eq_true_iff]
theorem ZM1 (h:RmA ws n R W H) (t:Tok) (l:List Int) (must:Bool) (hl:l.length<=100000):Zay Tryz.prog 106 [.ptr R 0,.sl t (rI l),.b must] H (Pure H (.i (wrg (ZMi ws n) n must [] l))):=by
 have hr:=h.r
 have hrl:(rI l).length=l.length:=Xc
 have hn1:=h.n1
 have dn:((n:Int) == 0)=false:=by simp only[beq_eq_false_iff_ne,ne_eq];omega
 obtain⟨E,hEv⟩:∃E,E=wrg (ZMi ws n) n must [] l:=⟨_,rfl⟩
 rw[<- hEv]
 have hth:∀(K:Zaa) (x:Int),Zaa.Ext H K->Zay Tryz.prog 159 [.ptr R 0,.i x] K (Pure K (.b (decide (0<=x)&&decide (x<n)))):=fun K x hK=>ZM0 (h.ext hK) x
 have hus:∀(K:Zaa) (x:Int),Zaa.Ext H K->Zay Tryz.prog 111 [.ptr R 0,.i x] K (Pure K (.b (ZMi ws n x))):=fun K x hK=>ZNb (h.ext hK) x
 refine fnQ cf106 fun Q qr qn=>?_
 refine Bz1 (X3 hr dn hrl) ?_
 refine ZbJ (N:=l.length) (fun k F G=>Fr.get F 22=.i (k:Int)/\Fr.get F 21=.i (l.length:Int)/\Fr.get F 20=.sl t (rI l)/\Fr.get F 0=.ptr R 0/\Fr.get F 2=.b must/\Fr.get F 7=.mp H.next/\G.get H.next=some (ZN0 (l.take k))/\Zaa.Ext H G/\E=wrg (ZMi ws n) n must (l.take k) (l.drop k)) Xd (fun k F G h=>⟨h.1,h.2.1⟩) (GStep.refl _ _) ⟨rfl,rfl,rfl,rfl,rfl,rfl,Zaa.Zat rfl,by exact AXT,hEv⟩ ?_ ?_
 ·rintro k F G hk ⟨f22,f21,f20,f0,f2,f7,gM,hx,hw⟩
  clear hEv
  have z0:(0:Int)<=(k:Int):=Xa
  have hrr:(rI l)[k]?=some [.i l[k]]:=by simp[hk]
  rw[wrg_at _ _ _ _ _ hk]at hw
  have htk:l.take (k+1)=l.take k++[l[k]]:=zas hk
  have hfind:=ZbV (vf:=AV.i) ZkH l[k] (ZMO (l.take k))
  rw[ZNu]at hfind
  have hof:=ZrS l[k]
  have hlM:=Zaa.lt gM
  rw[ZL9]at hw
  have gM:G.get H.next=some (.map (.one (.int .i64)) (Zgf kI AV.i (ZMO (l.take k))) false):=gM
  have hth:=hth G l[k] hx
  have hus:∀j,Zay Tryz.prog 111 [.ptr R 0,.i l[k]] (G.bump j) (Pure (G.bump j) (.b (ZMi ws n l[k]))):=fun j=>hus (G.bump j) l[k] hx.bump
  rw[htk]at hw
  generalize hms:l.take k=mk at *
  generalize l[k]=x at *
  generalize rI l=Rl at *
  by_cases c0:x<0\/(n:Int)<=x
  ·rw[if_pos c0]at hw
   subst hw
   have hb:(decide (0<=x)&&decide (x<(n:Int)))=false:=by
    rw[Bool.and_eq_false_iff,decide_eq_false_iff_not,decide_eq_false_iff_not]
    omega
   rw[hb]at hth
   skip
   refine Bz1 (X9 f22 f21 f20 f0 f2 f7 gM z0 hrr) ?_
   refine qcp (hth) fun k1=>?_
   refine Bz0 ?_
   exact Zcm rfl
  ·rw[if_neg c0]at hw
   have hb:(decide (0<=x)&&decide (x<(n:Int)))=true:=by
    rw[zaV,decide_eq_true_iff,decide_eq_true_iff]
    omega
   rw[hb]at hth
   by_cases c1:x∈mk
   ·rw[if_pos c1]at hfind
    have hfind:ZdG (kI x) (Zgf kI AV.i (ZMO mk))=some (.i 1):=hfind
    rw[decide_eq_true c1,Bool.or_true,if_pos rfl]at hw
    generalize Zgf kI AV.i (ZMO mk)=e1 at *
    cases must with
    | true =>
     have hw:E=10:=hw
     subst hw
     skip
     refine Bz1 (X11 f22 f21 f20 f0 f2 f7 gM z0 hrr hof hfind) ?_
     refine qcp (hth) fun k1=>?_
     refine Bz1 (X11 f22 f21 f20 f0 f2 f7 gM z0 hrr hof hfind) ?_
     exact Zcm rfl
    | false =>
     have hw:E=11:=hw
     subst hw
     skip
     refine Bz1 (X11 f22 f21 f20 f0 f2 f7 gM z0 hrr hof hfind) ?_
     refine qcp (hth) fun k1=>?_
     refine Bz1 (X11 f22 f21 f20 f0 f2 f7 gM z0 hrr hof hfind) ?_
     exact Zcm rfl
   ·rw[if_neg c1]at hfind
    have hfind:ZdG (kI x) (Zgf kI AV.i (ZMO mk))=none:=hfind
    rw[decide_eq_false c1,Bool.or_false]at hw
    have hset:=ZcH (vf:=AV.i) ZkH x 1 (ZMO mk)
    rw[ZOU c1]at hset
    generalize he2:Zgf kI AV.i (ZMO (mk++[x]))=e2 at *
    generalize Zgf kI AV.i (ZMO mk)=e1 at *
    generalize ZMi ws n x=u at *
    have n01:((0:Int) == 1)=false:=rfl
    by_cases c2:u=must
    ·subst c2
     have hw:E=wrg (ZMi ws n) n u (mk++[x]) (l.drop (k+1)):=by rw[hw];simp
     have hbb:(true ^^ (u == u))=false:=Xc
     skip
     refine Bz1 (X12 f22 f21 f20 f0 f2 f7 gM z0 hrr hof hfind (X2 hset n01)) ?_
     refine qcp (hth) fun k1=>?_
     refine Bz1 (X12 f22 f21 f20 f0 f2 f7 gM z0 hrr hof hfind (X2 hset n01)) ?_
     refine qcp (hus k1) fun k2=>?_
     refine Bz1 (X12 f22 f21 f20 f0 f2 f7 gM z0 hrr hof hfind (X3 hset n01 hbb)) ?_
     rw[htk]
     refine⟨?_,by exact AXT,hw⟩
     show _=some (Zb3.map (.one (.int .i64)) (Zgf kI AV.i (ZMO (mk++[x]))) false)
     rw[he2]
    ·have hbb:(true ^^ (u == must))=true:=by cases u<;>cases must<;>simp_all
     have hw:E=if must=true then 10 else 11:=by rw[hw];cases u<;>cases must<;>simp_all
     cases must with
     | true =>
      have hw:E=10:=hw
      subst hw
      skip
      refine Bz1 (X12 f22 f21 f20 f0 f2 f7 gM z0 hrr hof hfind (X2 hset n01)) ?_
      refine qcp (hth) fun k1=>?_
      refine Bz1 (X12 f22 f21 f20 f0 f2 f7 gM z0 hrr hof hfind (X2 hset n01)) ?_
      refine qcp (hus k1) fun k2=>?_
      refine Bz1 (X12 f22 f21 f20 f0 f2 f7 gM z0 hrr hof hfind (X3 hset n01 hbb)) ?_
      exact Zcm rfl
     | false =>
      have hw:E=11:=hw
      subst hw
      skip
      refine Bz1 (X12 f22 f21 f20 f0 f2 f7 gM z0 hrr hof hfind (X2 hset n01)) ?_
      refine qcp (hth) fun k1=>?_
      refine Bz1 (X12 f22 f21 f20 f0 f2 f7 gM z0 hrr hof hfind (X2 hset n01)) ?_
      refine qcp (hus k1) fun k2=>?_
      refine Bz1 (X12 f22 f21 f20 f0 f2 f7 gM z0 hrr hof hfind (X3 hset n01 hbb)) ?_
      exact Zcm rfl
 ·rintro F G ⟨f22,f21,f20,f0,f2,f7,gM,hx,hw⟩
  rw[wrg_end _ _ _ _ _ (zad _)]at hw
  subst hw
  skip
  refine Bz0 ?_
  exact Zcm rfl
end
open Go.RowKit Go.Lib
section
variable {ws:List Nat} {n R W:Nat} {H G:Zaa}
theorem wrg_in (inU:Int->Bool) (n:Nat) (must:Bool) (l:List Int) (h:wrg inU n must [] l=0) {k:Nat} (hk:k<l.length):0<=l[k]/\l[k]<(n:Int):=by
 obtain⟨h1,h2,_⟩:=(ZQE inU n must l [] h).1 _ (zau hk)
 exact⟨h1,h2⟩
def RmR (ws:List Nat) (n R W:Nat) (must:Bool) (l:List Int) (H:Zaa) (r:AV) (G:Zaa):Prop:=r=.i (wrg (ZMi ws n) n must [] l)/\RmA (if wrg (ZMi ws n) n must [] l=0 then ZMm ws l else ws) n R W G/\KF (·=W) H G
theorem ZNS (h:RmA ws n R W H) (t:Tok) (l:List Int) (hl:l.length<=100000):Zay Tryz.prog 58 [.ptr R 0,.sl t (rI l)] H (RmR ws n R W false l H):=by
 have hck:=ZM1 h t l false hl
 have hwi:=fun hz k hk=>wrg_in (ZMi ws n) n false l hz (k:=k) hk
 unfold RmR
 have hrl:(rI l).length=l.length:=Xc
 generalize wrg (ZMi ws n) n false [] l=E at *
 by_cases hz:E=0
 ·subst hz
  rw[if_pos rfl]
  have hwi:=fun k hk=>hwi rfl k hk
  have d0:((0:Int) == 0)=true:=rfl
  refine fnQ cf58 fun Q qr qn=>?_
  refine Bz0 ?_
  refine qcp (hck) fun k1=>?_
  refine Bz1 (X2 d0 hrl) ?_
  refine ZbJ (N:=l.length) (fun k F G=>Fr.get F 18=.i (k:Int)/\Fr.get F 17=.i (l.length:Int)/\Fr.get F 16=.sl t (rI l)/\Fr.get F 6=.fn 107 [.ptr R 0] []/\Fr.get F 5=.i 0/\RmA (ZMm ws (l.take k)) n R W G/\KF (·=W) H G) Xd (fun k F G h=>⟨h.1,h.2.1⟩) (GStep.refl _ _) ⟨rfl,rfl,rfl,rfl,rfl,by rw[List.take_zero];exact h.ext (by exact AXT),(KF.refl _ _).bump k1⟩ ?_ ?_
  ·rintro k F G hk ⟨f18,f17,f16,f6,f5,hR,kf⟩
   have z0:(0:Int)<=(k:Int):=Xa
   have hrr:(rI l)[k]?=some [.i l[k]]:=by simp[hk]
   obtain⟨b0,b1⟩:=hwi k hk
   obtain⟨m,hm⟩:=zaL b0
   have ht:=ZM7 hR m Xa
   have hft:=ZOn ws l k hk
   generalize l[k]=x at *
   subst hm
   rw[Int.toNat_natCast]at hft
   skip
   refine Bz1 (X7 f18 f17 f16 f6 f5 z0 hrr) ?_
   refine Zap.use ht ?_
   rintro r G1 ⟨hR1,kf1⟩
   refine Bz1 (X5 f18 f17 f16 f6 f5) ?_
   exact⟨by rw[hft];exact hR1,kf.ZeP kf1⟩
  ·rintro F G ⟨f18,f17,f16,f6,f5,hR,kf⟩
   rw[zaz]at hR
   skip
   refine Bz1 (X1 f5) ?_
   exact Zaq ⟨rfl,hR,kf⟩
 ·rw[if_neg hz]
  have d0:(E == 0)=false:=by simpa using hz
  refine fnQ cf58 fun Q qr qn=>?_
  refine Bz0 ?_
  refine qcp (hck) fun k1=>?_
  refine Bz1 (X1 d0) ?_
  exact Zaq ⟨rfl,h.ext (by exact AXT),(KF.refl _ _).bump k1⟩
theorem ZPk (h:RmA ws n R W H) (t:Tok) (l:List Int) (hl:l.length<=100000):Zay Tryz.prog 68 [.ptr R 0,.sl t (rI l)] H (RmR ws n R W true l H):=by
 have hck:=ZM1 h t l true hl
 have hwi:=fun hz k hk=>wrg_in (ZMi ws n) n true l hz (k:=k) hk
 unfold RmR
 have hrl:(rI l).length=l.length:=Xc
 generalize wrg (ZMi ws n) n true [] l=E at *
 by_cases hz:E=0
 ·subst hz
  rw[if_pos rfl]
  have hwi:=fun k hk=>hwi rfl k hk
  have d0:((0:Int) == 0)=true:=rfl
  refine fnQ cf68 fun Q qr qn=>?_
  refine Bz0 ?_
  refine qcp (hck) fun k1=>?_
  refine Bz1 (X2 d0 hrl) ?_
  refine ZbJ (N:=l.length) (fun k F G=>Fr.get F 18=.i (k:Int)/\Fr.get F 17=.i (l.length:Int)/\Fr.get F 16=.sl t (rI l)/\Fr.get F 6=.fn 107 [.ptr R 0] []/\Fr.get F 5=.i 0/\RmA (ZMm ws (l.take k)) n R W G/\KF (·=W) H G) Xd (fun k F G h=>⟨h.1,h.2.1⟩) (GStep.refl _ _) ⟨rfl,rfl,rfl,rfl,rfl,by rw[List.take_zero];exact h.ext (by exact AXT),(KF.refl _ _).bump k1⟩ ?_ ?_
  ·rintro k F G hk ⟨f18,f17,f16,f6,f5,hR,kf⟩
   have z0:(0:Int)<=(k:Int):=Xa
   have hrr:(rI l)[k]?=some [.i l[k]]:=by simp[hk]
   obtain⟨b0,b1⟩:=hwi k hk
   obtain⟨m,hm⟩:=zaL b0
   have ht:=ZM7 hR m Xa
   have hft:=ZOn ws l k hk
   generalize l[k]=x at *
   subst hm
   rw[Int.toNat_natCast]at hft
   skip
   refine Bz1 (X7 f18 f17 f16 f6 f5 z0 hrr) ?_
   refine Zap.use ht ?_
   rintro r G1 ⟨hR1,kf1⟩
   refine Bz1 (X5 f18 f17 f16 f6 f5) ?_
   exact⟨by rw[hft];exact hR1,kf.ZeP kf1⟩
  ·rintro F G ⟨f18,f17,f16,f6,f5,hR,kf⟩
   rw[zaz]at hR
   skip
   refine Bz1 (X1 f5) ?_
   exact Zaq ⟨rfl,hR,kf⟩
 ·rw[if_neg hz]
  have d0:(E == 0)=false:=by simpa using hz
  refine fnQ cf68 fun Q qr qn=>?_
  refine Bz0 ?_
  refine qcp (hck) fun k1=>?_
  refine Bz1 (X1 d0) ?_
  exact Zaq ⟨rfl,h.ext (by exact AXT),(KF.refl _ _).bump k1⟩
theorem ZMt (h:RmA ws n R W H):Zay Tryz.prog 62 [.ptr R 0] H (Pure H (.i ((n:Int) - (ZL2 ws:Int)))):=by
 have hr:=h.r
 have hwl:(rW ws).length=ws.length:=Xc
 have hl:=h.l
 have hn2:=h.n2
 refine fnQ cf62 fun Q qr qn=>?_
 refine Bz1 (X2 hr hwl) ?_
 refine ZbJ (N:=ws.length) (fun k F G=>Fr.get F 17=.i (k:Int)/\Fr.get F 16=.i (ws.length:Int)/\Fr.get F 15=.arr W 0 ws.length ws.length/\Fr.get F 3=.i ((n:Int) - (ZL2 (ws.take k):Int))/\Zaa.Ext H G) Xd (fun k F G h=>⟨h.1,h.2.1⟩) (GStep.refl _ _) ⟨rfl,rfl,rfl,by rw[List.take_zero];show AV.i (n:Int)=AV.i ((n:Int) - ((0:Nat):Int));rw[show(n:Int) - ((0:Nat):Int)=n by omega],by exact AXT⟩ ?_ ?_
 ·rintro k F G hk ⟨f17,f16,f15,f3,hx⟩
  have z0:(0:Int)<=(k:Int):=Xa
  have hg:=ZRC hk
  have gW:=hx.get _ _ h.w
  have ho:=ZPE ws[k] G (h.b _ (zau hk))
  have z1:((k:Nat):Int)<((ws.length:Nat):Int):=Xa
  have hpt:=ZPI ws k hk
  have hle:=ZR7 (ws.take k)
  have hle2:=pop_le ws[k]
  rw[zaj]at hle
  have hw:IntKind.i64.wrap ((n:Int) - (ZL2 (ws.take k):Int) - (Pop.pop ws[k]:Int))=(n:Int) - (ZL2 (ws.take (k+1)):Int):=by
   rw[hpt,Zaw Xa Xa]
   omega
  generalize hp2:ZL2 (ws.take (k+1))=p2 at *
  generalize ZL2 (ws.take k)=p1 at *
  generalize ws[k]=x at *
  skip
  refine Bz1 (X9 f17 f16 f15 f3 z0 z1 gW hg hk) ?_
  refine qcp (ho) fun k1=>?_
  refine Bz1 (X5 f17 f16 f15 f3 hw) ?_
  exact⟨by rw[hp2],by exact AXT⟩
 ·rintro F G ⟨f17,f16,f15,f3,hx⟩
  rw[zaz]at f3
  skip
  refine Bz1 (X1 f3) ?_
  exact Zcm rfl
end
open Go.RowKit Go.Lib
section
variable {ws:List Nat} {n R W:Nat} {H G:Zaa}
theorem ZQc (h:RmA ws n R W H) (N:Nat) (htd:Tidy ws n) (hN:N<=(ZLV (bit ws) n).length):Zay Tryz.prog 64 [.ptr R 0,.i (N:Int)] H (Pure H (.tup [.sl .no (rI ((ZLV (bit ws) n).take N)),.i 0])):=by
 have hr:=h.r
 have hn1:=h.n1
 have hn2:=h.n2
 have hfc:=ZOj htd (by rw[h.l];omega)
 have dn:((n:Int) == 0)=false:=by simp only[beq_eq_false_iff_ne,ne_eq];omega
 have d1:decide ((N:Int)<0)=false:=decide_eq_false Xa
 have hct:=ZMt h
 have d2:decide ((N:Int) > (n:Int) - (ZL2 ws:Int))=false:=decide_eq_false Xa
 refine fnQ cf64 fun Q qr qn=>?_
 ((have hd:=tv;repeat' first|(first|apply Zad|apply Zac|apply Zab)<;>intro hd<;>try simp only[hd]|simp(disch:=first|assumption|omega|simp only[nx]<;>omega|fail)only[hd,qr,qn,ZoS,↓YA,YY,↓reduceIte,Nat.reduceEqDiff,Nat.reduceAdd,Nat.reduceMul,Nat.reduceLeDiff,Int.reduceToNat,Int.reduceLE,Int.reduceLT,Int.reduceGT,Int.reduceGE,Int.reduceAdd,Int.reduceSub,Int.reduceNeg,Int.reduceBEq,Int.reduceBNe,hr,dn,d1])<;>try revert hd;refine ttr ?_)
 refine qcp (hct) fun k1=>?_
 ((have hd:=tv;repeat' first|(first|apply Zad|apply Zac|apply Zab)<;>intro hd<;>try simp only[hd]|simp(disch:=first|assumption|omega|simp only[nx]<;>omega|fail)only[hd,qr,qn,ZoS,↓YA,YY,↓reduceIte,Nat.reduceEqDiff,Nat.reduceAdd,Nat.reduceMul,Nat.reduceLeDiff,Int.reduceToNat,Int.reduceLE,Int.reduceLT,Int.reduceGT,Int.reduceGE,Int.reduceAdd,Int.reduceSub,Int.reduceNeg,Int.reduceBEq,Int.reduceBNe,d2])<;>try revert hd;refine ttr ?_)
 unfold c64_1
 rw[Za8]
 refine Zg1 (fun m F G=>∃s:Nat,s<=n/\m=n - s/\(ZLV (bit ws) s).length<=N/\Fr.get F 7=.i (s:Int)/\Fr.get F 6=.sl (.own (H.next+k1)) (rI (ZLV (bit ws) s))/\Fr.get F 1=.i (N:Int)/\Fr.get F 0=.ptr R 0/\G.get (H.next+k1)=some (.tok (ZLV (bit ws) s).length 3 1)/\Zaa.Ext H G) n (GStep.tok 6 3 1 rfl) ⟨0,Xa,rfl,by simp[ZLV],rfl,rfl,rfl,rfl,Zaa.Zat rfl,by exact AXT⟩ ?_
 rintro m F G ⟨s,hs,rfl,hlen,f7,f6,f1,f0,gT,hx⟩
 have lT:=Zaa.lt gT
 have hrl:(rI (ZLV (bit ws) s)).length=(ZLV (bit ws) s).length:=Xc
 by_cases hc:(ZLV (bit ws) s).length<N
 ·have hsn:s<n:=by
   by_cases e:s=n
   ·rw[e]at hc;omega
   ·omega
  have dl:decide (((ZLV (bit ws) s).length:Int)<(N:Int))=true:=decide_eq_true Xa
  have hu:=ZNb (h.ext hx) (s:Int)
  have hub:ZMi ws n (s:Int)=bit ws s:=by
   unfold ZMi
   rw[decide_eq_true Xa,decide_eq_true Xa,Int.toNat_natCast]
   rfl
  rw[hub]at hu
  have hfs:=ZNT (bit ws) s
  have w1:IntKind.i64.wrap ((s:Int)+1)=((s+1:Nat):Int):=by rw[Zaw Xa Xa];omega
  cases hb:bit ws s with
  | true =>
   rw[hb]at hu hfs
   rw[if_pos rfl,zaI]at hfs
   skip
   refine Bz1 (X6 f7 f6 f1 f0 hrl dl) ?_
   refine qcp (hu) fun k2=>?_
   refine Bz1 (X2 f7 w1) ?_
   refine⟨n - (s+1),Xa,s+1,hsn,rfl,?_⟩
   rw[hfs]
   exact⟨hlen,rfl,f6,f1,f0,by first|exact gT|(rw[Zaa.ZaB];exact gT),by exact AXT⟩
  | false =>
   rw[hb]at hu hfs
   rw[if_neg Xc]at hfs
   have hall:ZaE 1 (rI (ZLV (bit ws) s))=true:=ZaU (f:=fun n:Int=>[AV.i n]) (sz:=1) (fun _=>rfl) _
   have hal1:ZaE 1 [[AV.i (s:Int)]]=true:=rfl
   have hsn2:rI (ZLV (bit ws) s)++[[AV.i (s:Int)]]=rI (ZLV (bit ws) (s+1)):=by rw[hfs];simp
   have hlm:(ZLV (bit ws) s).length<=s:=ZO0 _ _
   have m1:(ZLV (bit ws) s).length+1<=maxLen:=by unfold maxLen;omega
   have m2:((ZLV (bit ws) s).length+1) * 8<=140737488355328:=Xa
   have hl2:(ZLV (bit ws) (s+1)).length=(ZLV (bit ws) s).length+1:=by rw[hfs,zac];rfl
   clear hfs
   generalize ZLV (bit ws) s=out at *
   generalize ho2:ZLV (bit ws) (s+1)=out2 at *
   skip
   refine Bz1 (X6 f7 f6 f1 f0 hrl dl) ?_
   refine qcp (hu) fun k2=>?_
   refine Bz1 (X12 f7 f6 f1 f0 hrl gT hall hal1 hsn2 m1 m2 w1) ?_
   refine⟨n - (s+1),Xa,s+1,hsn,rfl,?_⟩
   rw[ho2]
   exact⟨Xa,rfl,rfl,by rw[hl2],by exact AXT⟩
 ·have dl:decide (((ZLV (bit ws) s).length:Int)<(N:Int))=false:=decide_eq_false Xa
  have hpr:ZLV (bit ws) s=(ZLV (bit ws) n).take N:=by
   have:=ZQb (bit ws) s n hs
   rw[List.prefix_iff_eq_take.1 this]
   congr 1
   omega
  skip
  refine Bz1 (X6 f7 f6 f1 f0 hrl dl) ?_
  rw[hpr]
  exact Zcm rfl
def RmN (n:Nat) (H:Zaa) (r:AV) (G:Zaa):Prop:=∃R W,r=.tup [.ptr R 0,.i 0]/\RmA (List.replicate ((n+63) / 64) 0) n R W G/\H.next<=R/\H.next<=W/\Zaa.Ext H G
theorem ZP5 (n:Nat) (H:Zaa) (h1:1<=n) (h2:n<=2047):Zay Tryz.prog 52 [.i (n:Int)] H (RmN n H):=by
 have d1:decide ((n:Int)<1)=false:=decide_eq_false Xa
 have d2:decide ((n:Int) > 2047)=false:=decide_eq_false Xa
 have w1:IntKind.i64.wrap ((n:Int)+63)=((n+63:Nat):Int):=by rw[Zaw Xa Xa];omega
 have w2:IntKind.i64.wrap (((n+63:Nat):Int).tdiv 64)=(((n+63) / 64:Nat):Int):=by rw[za3 Xa,Zaw Xa Xa];omega
 have n64:((64:Int)=0)=False:=Xc
 have hq1:1<=(n+63) / 64:=Xa
 have hq2:(n+63) / 64<=100:=Xa
 have hz:(List.replicate ((n+63) / 64) [AV.sc (.int .u64 0)]).flatten=rW (List.replicate ((n+63) / 64) 0):=by
  rw[ZNz,rW,List.map_replicate]
  rfl
 have hl:(List.replicate ((n+63) / 64) 0).length=(n+63) / 64:=Xc
 generalize hq:(n+63) / 64=q at *
 have q0:(0:Int)<=(q:Int):=Xa
 have q1:((q:Int)<=(q:Int))=True:=Xc
 have q2:((q:Int)=0)=False:=by simp;omega
 have m1:q<=maxLen:=ZAp Xa
 have m2:q * 8<=140737488355328:=Xa
 refine fnQ cf52 fun Q qr qn=>?_
 ((have hd:=tv;repeat' first|(first|apply Zad|apply Zac|apply Zab)<;>intro hd<;>try simp only[hd]|simp(disch:=first|assumption|omega|simp only[nx]<;>omega|fail)only[hd,qr,qn,Zjp,↓YA,YY,↓reduceIte,Nat.reduceEqDiff,Nat.reduceAdd,Nat.reduceMul,Nat.reduceLeDiff,Int.reduceToNat,Int.reduceLE,Int.reduceLT,Int.reduceGT,Int.reduceGE,Int.reduceAdd,Int.reduceSub,Int.reduceNeg,Int.reduceBEq,Int.reduceBNe,d1,d2,w1,w2,n64,q0,q1,q2,m1,m2,hz,Int.toNat_natCast])<;>try revert hd;refine ttr ?_)
 refine Zaq ⟨H.next+1,H.next,rfl,⟨by rw[hq,hl];exact Zaa.Zat rfl,by rw[hq];exact(Zaa.Ext.refl _).alloc.get _ _ (Zaa.Zat rfl),by rw[hq,hl],h1,h2,fun x hx=>?_⟩,Xa,zad _,by exact AXT⟩
 rw[(zaY.1 hx).2]
 decide
end
end Go.Proofs.YtfjjpndoeppbhaaGreatDoor
