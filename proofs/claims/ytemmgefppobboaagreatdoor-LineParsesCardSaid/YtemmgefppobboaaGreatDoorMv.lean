/- Texts of the walk. -/
import Derived.Test.YtemmgefppobboaaGreatDoorMu
namespace Go.Proofs.YtemmgefppobboaaGreatDoor
set_option linter.defProp false
set_option linter.unusedSimpArgs false
set_option linter.unusedVariables false
open Go.RowKit Go.Lib
def ZHe (k:Int):FuncId:=if k=1 then 46 else if k=2\/k=3 then 47 else if k=5 then 48 else 49
theorem ZCW (k:Int) (H:Zaa):Zay Tryz.prog 27 [.i k] H (Pure H (.fn (ZHe k) [] [])):=by
 have hx0:Zaa.Ext H H:=.refl _
 unfold ZHe
 by_cases h1:k=1
 ·have d1:(k == 1)=true:=by simpa using h1
  rw[if_pos h1]
  refine Zak hE cf27 (zaa rfl) fun Q qr qn=>?_
  have hZ:=d1;refine Bz1 ?_
  exact ZaW hx0 rfl
 have d1:(k == 1)=false:=by simpa using h1
 rw[if_neg h1]
 by_cases h2:k=2
 ·have d2:(k == 2)=true:=by simpa using h2
  rw[if_pos (.inl h2)]
  refine Zak hE cf27 (zaa rfl) fun Q qr qn=>?_
  have hZ:=an7 d1<|d2;refine Bz1 ?_
  exact ZaW hx0 rfl
 have d2:(k == 2)=false:=by simpa using h2
 by_cases h3:k=3
 ·have d3:(k == 3)=true:=by simpa using h3
  rw[if_pos (.inr h3)]
  refine Zak hE cf27 (zaa rfl) fun Q qr qn=>?_
  have hZ:=an7 d1<|an7 d2<|d3;refine Bz1 ?_
  exact ZaW hx0 rfl
 have d3:(k == 3)=false:=by simpa using h3
 rw[if_neg (by omega)]
 by_cases h5:k=5
 ·have d5:(k == 5)=true:=by simpa using h5
  rw[if_pos h5]
  refine Zak hE cf27 (zaa rfl) fun Q qr qn=>?_
  have hZ:=an7 d1<|an7 d2<|an7 d3<|d5;refine Bz1 ?_
  exact ZaW hx0 rfl
 have d5:(k == 5)=false:=by simpa using h5
 rw[if_neg h5]
 refine Zak hE cf27 (zaa rfl) fun Q qr qn=>?_
 have hZ:=an7 d1<|an7 d2<|an7 d3<|d5;refine Bz1 ?_
 exact ZaW hx0 rfl
theorem ZFn {f:FuncId} {xs:List AV} {H:Zaa} {o:Option Tx} (h:Zay Tryz.prog f xs H (Pure H (eRow o))):Zay Tryz.prog f xs H (ZF4 o H):=by
 cases o with
 | none=>exact h.mono fun r G hp=>⟨[],hp⟩
 | some b=>exact h
theorem ZDw (k:Int) (t:Tok) (r:List Tx) (H:Zaa) (hl:r.length<=2300) (hs:ZAr r<=4000):Zay Tryz.prog (ZHe k) [.sl t (rS r)] H (ZF4 (ZDp k r) H):=by
 unfold ZHe ZDp
 by_cases h1:k=1
 ·rw[if_pos h1,if_pos h1];exact ZEJ t r H hl hs
 rw[if_neg h1,if_neg h1]
 by_cases h2:k=2\/k=3
 ·rw[if_pos h2,if_pos h2];exact ZFn (ZEH t r H (by omega) (by omega))
 rw[if_neg h2,if_neg h2]
 by_cases h5:k=5
 ·rw[if_pos h5,if_pos h5];exact ZFn (ZEd t r H (by omega) hs)
 rw[if_neg h5,if_neg h5]
 exact ZFK t r H (by omega)
def eErr (o:Option (Int×Tx)):AV:=match o with
 | some _=>.i 0
 | none=>.i 16
theorem ZFE (h:Tx) (r:List Tx):((rS (h :: r)).take (rS (h :: r)).length).drop 1=rS r:=by
 rw[zas];rfl
theorem fil_any {o:Option Tx} {H:Zaa} {r:AV} {G:Zaa} (h:ZF4 o H r G):∃x bb,Pure H (.tup [eS x,.b bb]) r G:=by
 cases o with
 | none=>obtain⟨x,h⟩:=h;exact⟨x,false,h⟩
 | some b=>exact⟨b,true,h⟩
set_option maxHeartbeats 16000000 in
theorem ZE1 (line:Tx) (H:Zaa) (hl:line.length<=2000):Zay Tryz.prog 11 [eS line] H (Pure H (.tup [eCall (ZDl line),eErr (ZDl line)])):=by
 have hx0:Zaa.Ext H H:=.refl _
 have hsp:=fun H=>ZEV 32 line H (by omega)
 have hcnt:=ZBo 32 line
 have hsum:=ZCt 32 line
 unfold ZDl
 obtain⟨h,r,hp⟩:=ZBd 32 line
 rw[hp]at hsp hcnt hsum ⊢
 have hsum2:h.length+ZAr r<=line.length:=by simpa [ZAr] using hsum
 have hrl:r.length+1<=line.length+1:=hcnt
 have q0:(rS (h :: r))[0]?=some [eS h]:=rfl
 have z0:(0:Int)<=0:=za9 _
 have z1:(0:Int)<=1:=by decide
 have al:ZaE 1 (rS (h :: r))=true:=ZaU (f:=fun s:Tx=>[eS s]) (sz:=1) (fun _=>rfl) _
 have dl:(rS (h :: r)).length=r.length+1:=by simp
 have b1:1<=r.length+1:=by omega
 have b2:r.length+1<=r.length+1:=zae _
 have dr:((rS (h :: r)).take (r.length+1)).drop 1=rS r:=by have:=ZFE h r;rw[dl]at this;exact this
 have hg0:(H.alloc (.cells [.i 0,eS []] 28)).get H.next=some (.cells [.i 0,eS []] 28):=Zaa.Zat rfl
 have hsp:∀H,Zay Tryz.prog 24 [eS line,eS [32]] H (Pure H (.sl .no (rS (h :: r)))):=hsp
 generalize hR0:rS (h :: r)=R0 at *
 simp only
 by_cases hraw:h=tRaw
 ·have d0:decide (h=[114,97,119])=true:=decide_eq_true hraw
  rw[if_pos hraw]
  have hany:=fun t H=>ZGM t r H (by omega) (by omega)
  cases hrp:rawP r with
  | none =>
   rw[hrp]at hany
   refine Zak hE cf11 (zaa rfl) fun Q qr qn=>?_
   refine Bz0 ?_
   refine qcp (hsp _) fun k1=>?_
   ((have hd:=tv;repeat' first|(first|apply Zad|apply Zac|apply Zab)<;>intro hd<;>try simp only[hd]|simp(disch:=first|assumption|omega|simp only[nx]<;>omega|fail)only[hd,qr,qn,ZlE,↓YA,YY,sevalprocAttr,q0,z0,d0,z1,al,dl,b1,b2,dr,Zdi,or_true])<;>try revert hd;refine ttr ?_)
   refine Zap.use (hany _ _) ?_
   rintro _ _ ⟨a,b,rfl,k2,rfl⟩
   have hZ:=hg0;refine Bz1 ?_
   exact ZaW (((hx0.alloc.bump.bump).alloc).set (zae _)) rfl
  | some p =>
   rw[hrp]at hany
   obtain⟨n,s⟩:=p
   refine Zak hE cf11 (zaa rfl) fun Q qr qn=>?_
   refine Bz0 ?_
   refine qcp (hsp _) fun k1=>?_
   ((have hd:=tv;repeat' first|(first|apply Zad|apply Zac|apply Zab)<;>intro hd<;>try simp only[hd]|simp(disch:=first|assumption|omega|simp only[nx]<;>omega|fail)only[hd,qr,qn,ZlE,↓YA,YY,sevalprocAttr,q0,z0,d0,z1,al,dl,b1,b2,dr,Zdi,or_true])<;>try revert hd;refine ttr ?_)
   refine Zap.use (hany _ _) ?_
   rintro _ _ ⟨rfl,k2,rfl⟩
   have hZ:=hg0;refine Bz1 ?_
   exact ZaW (((hx0.alloc.bump.bump).alloc).set (zae _)) rfl
 ·have d0:decide (h=[114,97,119])=false:=decide_eq_false hraw
  rw[if_neg hraw]
  have hkg:=kind_get h
  have kof:(KK.one .str).of (.sc (.string ⟨h.toArray⟩))=some (kS h):=rfl
  by_cases hk:ZBu h=0
  ·rw[if_pos hk]at hkg ⊢
   have hrd:=fun H=>ZCW 0 H
   have hby:=fun t H=>ZDw 0 t r H (by omega) (by omega)
   have n0:((0:Int) == 0)=true:=rfl
   refine Zak hE cf11 (zaa rfl) fun Q qr qn=>?_
   refine Bz0 ?_
   refine qcp (hsp _) fun k1=>?_
   ((have hd:=tv;repeat' first|(first|apply Zad|apply Zac|apply Zab)<;>intro hd<;>try simp only[hd]|simp(disch:=first|assumption|omega|simp only[nx]<;>omega|fail)only[hd,qr,qn,ZlE,↓YA,YY,sevalprocAttr,q0,z0,d0,z1,al,dl,b1,b2,dr,Zdi,or_true])<;>try revert hd;refine ttr ?_)
   refine Zap.use (ZCp _) ?_
   rintro _ _ ⟨rfl,rfl⟩
   ((have hd:=tv;repeat' first|(first|apply Zad|apply Zac|apply Zab)<;>intro hd<;>try simp only[hd]|simp(disch:=first|assumption|omega|simp only[nx]<;>omega|fail)only[hd,qr,qn,ZlE,↓YA,YY,sevalprocAttr,q0,z0,d0,z1,al,dl,b1,b2,dr,Zdi,or_true,kof,hkg])<;>try revert hd;refine ttr ?_)
   refine qcp (hrd _) fun k2=>?_
   refine Bz0 ?_
   refine Zap.use (hby _ _) ?_
   intro v G hv
   obtain⟨x,bb,rfl,k3,rfl⟩:=fil_any hv
   cases bb with
   | false =>
    have hZ:=an7 hg0<|n0;refine Bz1 ?_
    exact ZaW ((((hx0.alloc.bump).alloc.bump).bump).set (zae _)) rfl
   | true =>
    have hZ:=an7 hg0<|n0;refine Bz1 ?_
    exact ZaW ((((hx0.alloc.bump).alloc.bump).bump).set (zae _)) rfl
  ·rw[if_neg hk]at hkg ⊢
   have d1:(ZBu h == 0)=false:=by simpa using hk
   have hrd:=fun H=>ZCW (ZBu h) H
   have hby:=fun t H=>ZDw (ZBu h) t r H (by omega) (by omega)
   generalize hK:ZBu h=K at *
   cases hb:ZDp K r with
   | none =>
    rw[hb]at hby
    refine Zak hE cf11 (zaa rfl) fun Q qr qn=>?_
    refine Bz0 ?_
    refine qcp (hsp _) fun k1=>?_
    ((have hd:=tv;repeat' first|(first|apply Zad|apply Zac|apply Zab)<;>intro hd<;>try simp only[hd]|simp(disch:=first|assumption|omega|simp only[nx]<;>omega|fail)only[hd,qr,qn,ZlE,↓YA,YY,sevalprocAttr,q0,z0,d0,z1,al,dl,b1,b2,dr,Zdi,or_true])<;>try revert hd;refine ttr ?_)
    refine Zap.use (ZCp _) ?_
    rintro _ _ ⟨rfl,rfl⟩
    ((have hd:=tv;repeat' first|(first|apply Zad|apply Zac|apply Zab)<;>intro hd<;>try simp only[hd]|simp(disch:=first|assumption|omega|simp only[nx]<;>omega|fail)only[hd,qr,qn,ZlE,↓YA,YY,sevalprocAttr,q0,z0,d0,z1,al,dl,b1,b2,dr,Zdi,or_true,kof,hkg])<;>try revert hd;refine ttr ?_)
    refine qcp (hrd _) fun k2=>?_
    refine Bz0 ?_
    refine Zap.use (hby _ _) ?_
    rintro _ _ ⟨x,rfl,k3,rfl⟩
    have hZ:=an7 hg0<|d1;refine Bz1 ?_
    exact ZaW ((((hx0.alloc.bump).alloc.bump).bump).set (zae _)) rfl
   | some b =>
    rw[hb]at hby
    have hby:∀t H,Zay Tryz.prog (ZHe K) [.sl t (rS r)] H (Pure H (.tup [eS b,.b true])):=hby
    refine Zak hE cf11 (zaa rfl) fun Q qr qn=>?_
    refine Bz0 ?_
    refine qcp (hsp _) fun k1=>?_
    ((have hd:=tv;repeat' first|(first|apply Zad|apply Zac|apply Zab)<;>intro hd<;>try simp only[hd]|simp(disch:=first|assumption|omega|simp only[nx]<;>omega|fail)only[hd,qr,qn,ZlE,↓YA,YY,sevalprocAttr,q0,z0,d0,z1,al,dl,b1,b2,dr,Zdi,or_true])<;>try revert hd;refine ttr ?_)
    refine Zap.use (ZCp _) ?_
    rintro _ _ ⟨rfl,rfl⟩
    ((have hd:=tv;repeat' first|(first|apply Zad|apply Zac|apply Zab)<;>intro hd<;>try simp only[hd]|simp(disch:=first|assumption|omega|simp only[nx]<;>omega|fail)only[hd,qr,qn,ZlE,↓YA,YY,sevalprocAttr,q0,z0,d0,z1,al,dl,b1,b2,dr,Zdi,or_true,kof,hkg])<;>try revert hd;refine ttr ?_)
    refine qcp (hrd _) fun k2=>?_
    refine Bz0 ?_
    refine qcp (hby _ _) fun k3=>?_
    have hZ:=an7 hg0<|d1;refine Bz1 ?_
    exact ZaW ((((hx0.alloc.bump).alloc.bump).bump).set (zae _)) rfl
open Go.RowKit Go.Lib
def ZFf (l:List Tx):Sc:=l.foldl ZBE ⟨[],[]⟩
def SoOk:Prop:=∀(t:Tok) (l:List Tx) (H:Zaa),l.length<=2300->ZAr l<=4000->Zay Tryz.prog 50 [.sl t (rS l)] H (Pure H (.agg (eSc (ZFf l))))
theorem Gd.fold:∀{l:List Tx} {k m:Nat} {s:Sc},Gd k m s->k+l.length<=100000->Gd (k+l.length) (m+ZAr l+27 * l.length) (l.foldl ZBE s)
 | [],k,m,s,h,_=>by simpa [ZAr] using h
 | w :: r,k,m,s,h,hk=>by
  rw[List.length_cons]at hk
  have h1:=Gd.fold (l:=r) (h.word (w:=w) (by omega)) (by omega)
  have e1:ZAr (w :: r)=w.length+ZAr r:=by simp[ZAr]
  rw[List.foldl_cons,List.length_cons,e1]
  have e2:k+1+r.length=k+(r.length+1):=by omega
  have e3:m+w.length+27+ZAr r+27 * r.length=m+(w.length+ZAr r)+27 * (r.length+1):=by omega
  rw[<- e2,<- e3]
  exact h1
theorem ZGG (l:List Tx) (h:l.length<=100000):Gd l.length (18+ZAr l+27 * l.length) (ZFf l):=by
 have:=Gd.fold (l:=l) Gd.zero (by omega)
 rwa [zaR]at this
theorem schP_eq (l:List Tx):schP l=if scE (ZFf l)=0/\ZBi (ZFf l)=l then some (scB (ZFf l)) else none:=by
 have hb:=ZFT l
 unfold schP
 cases hw:ZBh ⟨[],[]⟩ l with
 | none =>
  rw[if_neg]
  intro hc
  obtain⟨s,h1,_⟩:=hb.2 hc
  rw[hw]at h1;cases h1
 | some s =>
  have:ZFf l=s:=ZCO hw
  rw[this]
def dataR (h:Tx) (r:List Tx):Option (Int×Tx):=if h=ZA8 then (if scE (ZFf r)=0 then some (1,scB (ZFf r)) else none)
 else if ZBu h=0 then none else (ZDp (ZBu h) r).map fun b=>(ZBu h,b)
def DatR (o:Option (Int×Tx)) (H:Zaa) (r:AV) (G:Zaa):Prop:=match o with
 | some (k,b)=>Pure H (.tup [.i k,eS b,.b true]) r G
 | none=>∃a b,Pure H (.tup [.i a,eS b,.b false]) r G
theorem ZCs {a:Int} {b:Tx} {H0 H:Zaa} (hx:Zaa.Ext H0 H):∃r2 H2,Zb6 (.tup [.i a,eS b,.b false]) H r2 H2/\DatR none H0 r2 H2:=by
 obtain⟨r2,H2,h1,h2⟩:=ZaW (r:=.tup [.i a,eS b,.b false]) hx rfl
 exact⟨r2,H2,h1,a,b,h2⟩
theorem ZCq {o:Option (Int×Tx)} {a:Int} {b:Tx} {bb:Bool} {H0 H:Zaa} (ho:o=if bb=true then some (a,b) else none) (hx:Zaa.Ext H0 H):∃r2 H2,Zb6 (.tup [.i a,eS b,.b bb]) H r2 H2/\DatR o H0 r2 H2:=by
 subst ho
 cases bb with
 | false=>exact ZCs hx
 | true=>exact ZaW (r:=.tup [.i a,eS b,.b true]) hx rfl
set_option maxHeartbeats 16000000 in
theorem ZFm {Q:AEx->Fr->Zaa->Prop} {F:Fr} {H G:Zaa} {t:Tok} {l:List Tx} {h0:Tx} {v6:AV} (hl:l.length<=3000) (hs:ZAr l<=5000) (hh:h0.length<=9) (f42:Fr.get F 42=.sl t (rS l)) (f43:Fr.get F 43=.i (l.length:Int)) (f44:Fr.get F 44=.i 0) (f7:Fr.get F 7=eS h0) (f6:Fr.get F 6=v6) (hx0:Zaa.Ext H G)
  (hR:∀F' G',Zaa.Ext H G'->ZCj l=none->Fr.get F' 2=.i 0->Fr.get F' 3=eS []->Fr.get F' 4=.b false->Q .ret F' G')
  (hQ:∀F' G' o,Zaa.Ext H G'->ZCj l=some o->Fr.get F' 7=eS (h0++o)->Fr.get F' 6=v6->Q .normal F' G'):AW Tryz.prog c30_1 Q F G:=by
 have qr:=trivial
 have qn:=trivial
 refine ZbJ (N:=l.length) (fun k F G=>Fr.get F 44=.i (k:Int)/\Fr.get F 43=.i (l.length:Int)/\Fr.get F 42=.sl t (rS l)/\Fr.get F 6=v6/\Zaa.Ext H G/\∃o,Fr.get F 7=eS (h0++o)/\o.length<=10 * ZAr (l.take k)+18 * k/\ZCj l=(ZCj (l.drop k)).map (o++·)) (by unfold maxLen;omega) (fun k F G h=>⟨h.1,h.2.1⟩) (GStep.refl _ _) ⟨f44,f43,f42,f6,hx0,[],by rw[f7];simp,by simp,by rw[zax];simp⟩ ?_ ?_
 ·rintro k F G hk ⟨f44,f43,f42,f6,hx,o,f7,hol,hT⟩
  have hz:(0:Int)<=(k:Int):=by omega
  have hr:(rS l)[k]?=some [eS l[k]]:=by simp[hk]
  obtain⟨s1,s2,s3⟩:=ZCi hk
  rw[zai hk,ZCj]at hT
  have hro:=fun H=>ZEN l[k] H (by omega)
  have hrl:=fun b=>ZFA (w:=l[k]) (b:=b)
  generalize hw:l[k]=w at *
  cases hp:rowP w with
  | none =>
   rw[hp]at hro hT
   have hro:∀H,Zay Tryz.prog 54 [eS w] H (Pure H (.tup [eS [],.b false])):=hro
   skip
   have hZ:=an7 f44<|an7 f43<|an7 f42<|an7 f6<|an7 f7<|an7 hz<|hr;refine Bz1 ?_
   refine qcp (hro _) fun k1=>?_
   have hZ:=an7 f44<|an7 f43<|an7 f42<|an7 f6<|f7;refine Bz1 ?_
   exact hR _ _ hx.bump hT rfl rfl rfl
  | some b =>
   rw[hp]at hro hT
   have hbl:=hrl b hp
   have hro:∀H,Zay Tryz.prog 54 [eS w] H (Pure H (.tup [eS b,.b true])):=hro
   have a1:=Zz9 (h0++o) b
   have f1:(h0++o).length+b.length<=maxLen:=ZAp (by rw[zab];omega)
   have f2:h0.length+o.length+b.length<=maxLen:=ZAp (by omega)
   skip
   have hZ:=an7 f44<|an7 f43<|an7 f42<|an7 f6<|an7 f7<|an7 hz<|hr;refine Bz1 ?_
   refine qcp (hro _) fun k1=>?_
   have hZ:=an7 f44<|an7 f43<|an7 f42<|an7 f6<|an7 f7<|an7 a1<|an7 f1<|f2;refine Bz1 ?_
   exact⟨hx.bump,o++b,by rw[zak],by rw[zab];omega,by rw[hT];simp only[zbf];congr 1;funext q;simp⟩
 ·rintro F G ⟨f44,f43,f42,f6,hx,o,f7,hol,hT⟩
  have hT:ZCj l=some o:=by rw[hT,zaw];simp[ZCj]
  skip
  refine Bz0 ?_
  exact hQ _ _ o hx hT f7 f6
theorem ZGE {w b:Tx} (e:ZCY w=some b):b.length<=20 * w.length+80:=by
 unfold ZCY at e
 cases hf:ZFr (ZyS 47 w).1 with
 | none=>rw[hf]at e;cases e
 | some x =>
  rw[hf]at e
  simp only at e
  have h1:=ZFz hf
  have h2:=ZFx 47 w
  cases hc:(ZyS 47 w).2 with
  | none =>
   rw[hc]at e
   injection e with e
   subst e
   have:=ZBf 0
   rw[zab];omega
  | some q =>
   rw[hc]at e
   simp only at e
   cases hd:ZBU q with
   | none=>rw[hd]at e;cases e
   | some n =>
    rw[hd]at e
    injection e with e
    subst e
    have:=ZBf (n+1)
    rw[zab];omega
set_option maxHeartbeats 16000000 in
theorem ZGa {Q:AEx->Fr->Zaa->Prop} {F:Fr} {H G:Zaa} {t:Tok} {l:List Tx} (hl:l.length<=3000) (hs:ZAr l<=4000) (f64:Fr.get F 64=.sl t (rS l)) (f65:Fr.get F 65=.i (l.length:Int)) (f66:Fr.get F 66=.i 0) (f12:Fr.get F 12=eS []) (hx0:Zaa.Ext H G)
  (hR:∀F' G',Zaa.Ext H G'->ZBI l=none->Fr.get F' 2=.i 0->Fr.get F' 3=eS []->Fr.get F' 4=.b false->Q .ret F' G')
  (hQ:∀F' G' o,Zaa.Ext H G'->ZBI l=some o->Fr.get F' 12=eS o->Q .normal F' G'):AW Tryz.prog c30_2 Q F G:=by
 have qr:=trivial
 have qn:=trivial
 refine ZbJ (N:=l.length) (fun k F G=>Fr.get F 66=.i (k:Int)/\Fr.get F 65=.i (l.length:Int)/\Fr.get F 64=.sl t (rS l)/\Zaa.Ext H G/\∃o,Fr.get F 12=eS o/\o.length<=20 * ZAr (l.take k)+80 * k/\ZBI l=(ZBI (l.drop k)).map (o++·)) (by unfold maxLen;omega) (fun k F G h=>⟨h.1,h.2.1⟩) (GStep.refl _ _) ⟨f66,f65,f64,hx0,[],f12,by simp,by rw[zax];simp⟩ ?_ ?_
 ·rintro k F G hk ⟨f66,f65,f64,hx,o,f12,hol,hT⟩
  have hz:(0:Int)<=(k:Int):=by omega
  have hr:(rS l)[k]?=some [eS l[k]]:=by simp[hk]
  obtain⟨s1,s2,s3⟩:=ZCi hk
  rw[zai hk,ZBI]at hT
  have hro:=fun H=>ZEg l[k] H (by omega)
  have hrl:=fun b=>ZGE (w:=l[k]) (b:=b)
  generalize hw:l[k]=w at *
  cases hp:ZCY w with
  | none =>
   rw[hp]at hro hT
   skip
   have hZ:=an7 f66<|an7 f65<|an7 f64<|an7 f12<|an7 hz<|hr;refine Bz1 ?_
   refine Zap.use (hro _) ?_
   rintro _ _ ⟨x,rfl,k1,rfl⟩
   have hZ:=an7 f66<|an7 f65<|an7 f64<|f12;refine Bz1 ?_
   exact hR _ _ hx.bump hT rfl rfl rfl
  | some b =>
   rw[hp]at hro hT
   have hbl:=hrl b hp
   have hro:∀H,Zay Tryz.prog 55 [eS w] H (Pure H (.tup [eS b,.b true])):=hro
   have a1:=Zz9 o b
   have f1:o.length+b.length<=maxLen:=ZAp (by omega)
   skip
   have hZ:=an7 f66<|an7 f65<|an7 f64<|an7 f12<|an7 hz<|hr;refine Bz1 ?_
   refine qcp (hro _) fun k1=>?_
   have hZ:=an7 f66<|an7 f65<|an7 f64<|an7 f12<|an7 a1<|f1;refine Bz1 ?_
   exact⟨hx.bump,o++b,rfl,by rw[zab];omega,by rw[hT];simp only[zbf];congr 1;funext q;simp⟩
 ·rintro F G ⟨f66,f65,f64,hx,o,f12,hol,hT⟩
  have hT:ZBI l=some o:=by rw[hT,zaw];simp[ZBI]
  skip
  refine Bz0 ?_
  exact hQ _ _ o hx hT f12
set_option maxHeartbeats 16000000 in
theorem ZFQ (hS:SoOk) (t:Tok) (h:Tx) (r:List Tx) (H:Zaa) (hl:r.length<=2300) (hs:ZAr r<=4000):Zay Tryz.prog 30 [.sl t (rS (h :: r))] H (DatR (dataR h r) H):=by
 have hx0:Zaa.Ext H H:=.refl _
 have q0:(rS (h :: r))[0]?=some [eS h]:=rfl
 have z0:(0:Int)<=0:=za9 _
 have z1:(0:Int)<=1:=by decide
 have al:ZaE 1 (rS (h :: r))=true:=ZaU (f:=fun s:Tx=>[eS s]) (sz:=1) (fun _=>rfl) _
 have dl:(rS (h :: r)).length=r.length+1:=by simp
 have b1:1<=r.length+1:=by omega
 have b2:r.length+1<=r.length+1:=zae _
 have dr:((rS (h :: r)).take (r.length+1)).drop 1=rS r:=by have:=ZFE h r;rw[dl]at this;exact this
 have w1:IntKind.i64.wrap (((r.length+1:Nat):Int) - 1)=(r.length:Int):=by rw[Zaw (by omega) (by omega)];omega
 have hnil:(if r=[] then some ([]:Tx) else none)=if (((r.length+1:Nat):Int) == 1)=true then some [] else none:=by
  cases r with
  | nil=>rfl
  | cons a r =>
   have:((((a :: r).length+1:Nat):Int) == 1)=false:=by simp only[beq_eq_false_iff_ne,List.length_cons];omega
   rw[this];rfl
 generalize hR0:rS (h :: r)=R0 at *
 unfold dataR
 by_cases cC:h=ZA8
 ·have dC:decide (h=[99,114,101,97,116,101])=true:=decide_eq_true cC
  rw[if_pos cC]
  have hG:=ZGG r (by omega)
  have hso:=fun t H=>hS t r H hl hs
  generalize ZFf r=s at *
  have hwc:wC s<=100000:=by have:=hG.w;omega
  have hui:∀d∈s.dims,∀t∈d.tiers,UpI t:=fun d hd t ht n hn=>by have:=hG.up d hd t ht n hn;omega
  have hsm:=hG.small (by omega)
  have hput:=fun H=>ZEu s H hwc hui
  have hwr:=fun H=>ZeE s H hsm
  obtain⟨s0,s1,s2,s3⟩:=ZbB s
  refine Zak hE cf30 (zaa rfl) fun Q qr qn=>?_
  ((have hd:=tv;repeat' first|(first|apply Zad|apply Zac|apply Zab)<;>intro hd<;>try simp only[hd]|simp(disch:=first|assumption|omega|simp only[nx]<;>omega|fail)only[hd,qr,qn,ZE3,↓YA,YY,sevalprocAttr,q0,z0,dC,z1,al,dl,b1,b2,dr,Zdi,or_true])<;>try revert hd;refine ttr ?_)
  refine qcp (hso _ _) fun k1=>?_
  have hZ:=an7 s0<|an7 s1<|an7 s2<|s3;refine Bz1 ?_
  refine qcp (hput _) fun k2=>?_
  have hZ:=an7 s0<|an7 s1<|an7 s2<|s3;refine Bz1 ?_
  refine qcp (hwr _) fun k3=>?_
  refine Bz0 ?_
  refine ZCq (o:=if scE s=0 then some (1,scB s) else none) (bb:=(scE s == 0)) ?_ (by first|exact hx0.bump.alloc.bump.bump|exact hx0.bump.alloc.set (by omega))
  by_cases he:scE s=0<;>simp[he]
 have dC:decide (h=[99,114,101,97,116,101])=false:=decide_eq_false cC
 rw[if_neg cC]
 by_cases cL:h=ZBN
 ·have dL:decide (h=[108,111,97,100])=true:=decide_eq_true cL
  have hk:ZBu h=2:=by rw[cL];rfl
  have hpb:=ZBf r.length
  have hpn:=fun H=>ZA6 r.length (by omega) H
  have dM:decide (h=[109,101,114,103,101])=false:=by rw[cL];decide
  rw[hk]
  show Zay _ _ _ _ (DatR (((ZCj r).map (ZA2 r.length++·)).map fun b=>((2:Int),b)) H)
  refine Zak hE cf30 (zaa rfl) fun Q qr qn=>?_
  ((have hd:=tv;repeat' first|(first|apply Zad|apply Zac|apply Zab)<;>intro hd<;>try simp only[hd]|simp(disch:=first|assumption|omega|simp only[nx]<;>omega|fail)only[hd,qr,qn,ZE3,↓YA,YY,sevalprocAttr,q0,z0,dC,dL,z1,al,dl,b1,b2,dr,Zdi,or_true,w1,dM])<;>try revert hd;refine ttr ?_)
  refine qcp (hpn _) fun k1=>?_
  ((have hd:=tv;repeat' first|(first|apply Zad|apply Zac|apply Zab)<;>intro hd<;>try simp only[hd]|simp(disch:=first|assumption|omega|simp only[nx]<;>omega|fail)only[hd,qr,qn,ZE3,↓YA,YY,sevalprocAttr,q0,z0,z1,al,dl,b1,b2,dr,Zdi,or_true,zar])<;>try revert hd;refine ttr ?_)
  refine ZFm (l:=r) (h0:=ZA2 r.length) (v6:=.i 2) (by omega) (by omega) hpb rfl rfl rfl rfl rfl hx0.bump ?_ ?_
  ·intro F' G' hx hn f2 f3 f4
   rw[hn]at qr
   skip
   have hZ:=an7 f2<|an7 f3<|f4;refine Bz1 ?_
   exact ZCs hx
  ·intro F' G' o hx hn f7 f6
   rw[hn]at qr
   skip
   have hZ:=an7 f7<|f6;refine Bz1 ?_
   exact ZCq (bb:=true) rfl hx
 have dL:decide (h=[108,111,97,100])=false:=decide_eq_false cL
 by_cases cM:h=ZBy
 ·have dM:decide (h=[109,101,114,103,101])=true:=decide_eq_true cM
  have hk:ZBu h=3:=by rw[cM];rfl
  have hpb:=ZBf r.length
  have hpn:=fun H=>ZA6 r.length (by omega) H
  rw[hk]
  show Zay _ _ _ _ (DatR (((ZCj r).map (ZA2 r.length++·)).map fun b=>((3:Int),b)) H)
  refine Zak hE cf30 (zaa rfl) fun Q qr qn=>?_
  ((have hd:=tv;repeat' first|(first|apply Zad|apply Zac|apply Zab)<;>intro hd<;>try simp only[hd]|simp(disch:=first|assumption|omega|simp only[nx]<;>omega|fail)only[hd,qr,qn,ZE3,↓YA,YY,sevalprocAttr,q0,z0,dC,dL,dM,z1,al,dl,b1,b2,dr,Zdi,or_true,w1,dM])<;>try revert hd;refine ttr ?_)
  refine qcp (hpn _) fun k1=>?_
  ((have hd:=tv;repeat' first|(first|apply Zad|apply Zac|apply Zab)<;>intro hd<;>try simp only[hd]|simp(disch:=first|assumption|omega|simp only[nx]<;>omega|fail)only[hd,qr,qn,ZE3,↓YA,YY,sevalprocAttr,q0,z0,z1,al,dl,b1,b2,dr,Zdi,or_true,zar])<;>try revert hd;refine ttr ?_)
  refine ZFm (l:=r) (h0:=ZA2 r.length) (v6:=.i 3) (by omega) (by omega) hpb rfl rfl rfl rfl rfl hx0.bump ?_ ?_
  ·intro F' G' hx hn f2 f3 f4
   rw[hn]at qr
   skip
   have hZ:=an7 f2<|an7 f3<|f4;refine Bz1 ?_
   exact ZCs hx
  ·intro F' G' o hx hn f7 f6
   rw[hn]at qr
   skip
   have hZ:=an7 f7<|f6;refine Bz1 ?_
   exact ZCq (bb:=true) rfl hx
 have dM:decide (h=[109,101,114,103,101])=false:=decide_eq_false cM
 by_cases cA:h=ZF3
 ·have dA:decide (h=[97,115,107])=true:=decide_eq_true cA
  have hk:ZBu h=5:=by rw[cA];rfl
  rw[hk]
  show Zay _ _ _ _ (DatR ((ZBI r).map fun b=>((5:Int),b)) H)
  refine Zak hE cf30 (zaa rfl) fun Q qr qn=>?_
  ((have hd:=tv;repeat' first|(first|apply Zad|apply Zac|apply Zab)<;>intro hd<;>try simp only[hd]|simp(disch:=first|assumption|omega|simp only[nx]<;>omega|fail)only[hd,qr,qn,ZE3,↓YA,YY,sevalprocAttr,q0,z0,dC,dL,dM,dA,z1,al,dl,b1,b2,dr,Zdi,or_true,zar])<;>try revert hd;refine ttr ?_)
  refine ZGa (l:=r) (by omega) hs rfl rfl rfl rfl hx0 ?_ ?_
  ·intro F' G' hx hn f2 f3 f4
   rw[hn]at qr
   skip
   have hZ:=an7 f2<|an7 f3<|f4;refine Bz1 ?_
   exact ZCs hx
  ·intro F' G' o hx hn f12
   rw[hn]at qr
   skip
   have hZ:=f12;refine Bz1 ?_
   exact ZCq (bb:=true) rfl hx
 have dA:decide (h=[97,115,107])=false:=decide_eq_false cA
 by_cases cR:h=ZBk
 ·have dR:decide (h=[114,101,98,117,105,108,100])=true:=decide_eq_true cR
  have hk:ZBu h=4:=by rw[cR];rfl
  rw[hk]
  show Zay _ _ _ _ (DatR ((if r=[] then some ([]:Tx) else none).map fun b=>((4:Int),b)) H)
  rw[hnil]
  refine Zak hE cf30 (zaa rfl) fun Q qr qn=>?_
  have hZ:=an7 q0<|an7 z0<|an7 dC<|an7 dL<|an7 dM<|an7 dA<|an7 dR<|dl;refine Bz1 ?_
  refine ZCq ?_ hx0
  split<;>rfl
 have dR:decide (h=[114,101,98,117,105,108,100])=false:=decide_eq_false cR
 by_cases cS:h=ZCB
 ·have dS:decide (h=[115,116,97,116,115])=true:=decide_eq_true cS
  have hk:ZBu h=6:=by rw[cS];rfl
  rw[hk]
  show Zay _ _ _ _ (DatR ((if r=[] then some ([]:Tx) else none).map fun b=>((6:Int),b)) H)
  rw[hnil]
  refine Zak hE cf30 (zaa rfl) fun Q qr qn=>?_
  have hZ:=an7 q0<|an7 z0<|an7 dC<|an7 dL<|an7 dM<|an7 dA<|an7 dR<|an7 dS<|dl;refine Bz1 ?_
  refine ZCq ?_ hx0
  split<;>rfl
 have dS:decide (h=[115,116,97,116,115])=false:=decide_eq_false cS
 by_cases cX:h=ZDA
 ·have dX:decide (h=[99,108,111,115,101])=true:=decide_eq_true cX
  have hk:ZBu h=7:=by rw[cX];rfl
  rw[hk]
  show Zay _ _ _ _ (DatR ((if r=[] then some ([]:Tx) else none).map fun b=>((7:Int),b)) H)
  rw[hnil]
  refine Zak hE cf30 (zaa rfl) fun Q qr qn=>?_
  have hZ:=an7 q0<|an7 z0<|an7 dC<|an7 dL<|an7 dM<|an7 dA<|an7 dR<|an7 dS<|an7 dX<|dl;refine Bz1 ?_
  refine ZCq ?_ hx0
  split<;>rfl
 have dX:decide (h=[99,108,111,115,101])=false:=decide_eq_false cX
 have hk:ZBu h=0:=by unfold ZBu;rw[if_neg cC,if_neg cL,if_neg cM,if_neg cR,if_neg cA,if_neg cS,if_neg cX]
 rw[if_pos hk]
 refine Zak hE cf30 (zaa rfl) fun Q qr qn=>?_
 have hZ:=an7 q0<|an7 z0<|an7 dC<|an7 dL<|an7 dM<|an7 dA<|an7 dR<|an7 dS<|an7 dX<|dl;refine Bz1 ?_
 exact ZCs hx0
open Go.RowKit Go.Lib
theorem kind_one {h:Tx} (hc:h≠ZA8):ZBu h≠1:=by
 unfold ZBu
 rw[if_neg hc]
 repeat' split
 all_goals decide
def eBool (o:Option (Int×Tx)):AV:=.b o.isSome
set_option maxHeartbeats 16000000 in
theorem ZEK (hS:SoOk) (line:Tx) (H:Zaa) (hl:line.length<=2000):Zay Tryz.prog 12 [eS line] H (Pure H (.tup [eCall (ZDl line),eBool (ZDl line)])):=by
 have hx0:Zaa.Ext H H:=.refl _
 have hsp:=fun H=>ZBj 32 line H (by omega)
 have hcnt:=ZBo 32 line
 have hsum:=ZCt 32 line
 unfold ZDl
 obtain⟨h,r,hp⟩:=ZBd 32 line
 rw[hp]at hsp hcnt hsum ⊢
 have hsum2:h.length+ZAr r<=line.length:=by simpa [ZAr] using hsum
 have hrl:r.length+1<=line.length+1:=hcnt
 have q0:(rS (h :: r))[0]?=some [eS h]:=rfl
 have z0:(0:Int)<=0:=za9 _
 have z1:(0:Int)<=1:=by decide
 have z2:(0:Int)<=2:=by decide
 have dl:(rS (h :: r)).length=r.length+1:=by simp
 have hg0:(H.alloc (.cells [.i 0,eS []] 28)).get H.next=some (.cells [.i 0,eS []] 28):=Zaa.Zat rfl
 have hsp:∀H,Zay Tryz.prog 28 [eS line,u8 32] H (Pure H (.sl .no (rS (h :: r)))):=hsp
 have hdat:=fun t H=>ZFQ hS t h r H (by omega) (by omega)
 simp only
 by_cases hraw:h=tRaw
 ·have d0:decide (h=[114,97,119])=true:=decide_eq_true hraw
  rw[if_pos hraw]
  by_cases h2:r.length=2
  ·match r,h2 with
   | [a,b],_ =>
    have q1:(rS (h :: [a,b]))[1]?=some [eS a]:=rfl
    have q2:(rS (h :: [a,b]))[2]?=some [eS b]:=rfl
    have dl:(rS (h :: [a,b])).length=3:=rfl
    have d3:((((3:Nat):Int)) != 3)=false:=rfl
    have hsl:a.length+b.length<=2000:=by simp[ZAr]at hsum2;omega
    obtain⟨u,bu,htu,hul,eu⟩:=ZDc b (by omega)
    have hrp:rawP [a,b]=match numOf a,(if bu=true then some u else none:Option Tx)with
     | some n,some s=>some (n,s)
     | _,_=>none:=by
     show(match numOf a,ZyG b with
      | some n,some s=>some (n,s)
      | _,_=>none:Option (Int×Tx))=_
     rw[eu]
    rw[hrp]
    generalize hR0:rS (h :: [a,b])=R0 at *
    cases hn:numOf a with
    | none =>
     have hno:=fun H=>ZHc a (ZCd hn) H (by omega)
     show Zay _ _ _ _ (Pure H (.tup [.agg [.i 0,eS []],.b false]))
     refine Zak hE cf12 (zaa rfl) fun Q qr qn=>?_
     refine Bz0 ?_
     refine qcp (hsp _) fun k1=>?_
     have hZ:=an7 q0<|an7 z0<|an7 d0<|an7 z1<|an7 z2<|an7 q1<|an7 q2<|an7 dl<|d3;refine Bz1 ?_
     refine Zap.use (hno _) ?_
     rintro v G2 ⟨⟨n,rfl⟩,hx2⟩
     have hg2:=hx2.get _ _ (show((H.alloc (.cells [.i 0,eS []] 28)).bump k1).get H.next=_ from hg0)
     have lt2:=Zaa.lt hg2
     skip
     have hZ:=an7 q0<|an7 z0<|an7 d0<|an7 z1<|an7 z2<|an7 q1<|an7 q2<|an7 dl<|d3;refine Bz1 ?_
     refine qcp (htu _) fun k2=>?_
     have hZ:=hg2;refine Bz1 ?_
     exact ZaW ((hx0.alloc.bump.trans hx2).bump.set (zae _)) rfl
    | some n =>
     obtain⟨hin,hiw⟩:=ZBW hn
     subst hiw
     have hys:=fun H=>ZFp n hin H
     cases bu with
     | false =>
      show Zay _ _ _ _ (Pure H (.tup [.agg [.i 0,eS []],.b false]))
      refine Zak hE cf12 (zaa rfl) fun Q qr qn=>?_
      refine Bz0 ?_
      refine qcp (hsp _) fun k1=>?_
      have hZ:=an7 q0<|an7 z0<|an7 d0<|an7 z1<|an7 z2<|an7 q1<|an7 q2<|an7 dl<|d3;refine Bz1 ?_
      refine qcp (hys _) fun k2=>?_
      have hZ:=an7 q0<|an7 z0<|an7 d0<|an7 z1<|an7 z2<|an7 q1<|an7 q2<|an7 dl<|d3;refine Bz1 ?_
      refine qcp (htu _) fun k3=>?_
      have hZ:=hg0;refine Bz1 ?_
      exact ZaW (hx0.alloc.bump.bump.bump.set (zae _)) rfl
     | true =>
      show Zay _ _ _ _ (Pure H (.tup [.agg [.i n,eS u],.b true]))
      refine Zak hE cf12 (zaa rfl) fun Q qr qn=>?_
      refine Bz0 ?_
      refine qcp (hsp _) fun k1=>?_
      have hZ:=an7 q0<|an7 z0<|an7 d0<|an7 z1<|an7 z2<|an7 q1<|an7 q2<|an7 dl<|d3;refine Bz1 ?_
      refine qcp (hys _) fun k2=>?_
      have hZ:=an7 q0<|an7 z0<|an7 d0<|an7 z1<|an7 z2<|an7 q1<|an7 q2<|an7 dl<|d3;refine Bz1 ?_
      refine qcp (htu _) fun k3=>?_
      have hZ:=hg0;refine Bz1 ?_
      exact ZaW (hx0.alloc.bump.bump.bump.set (zae _)) rfl
  ·have hrp:rawP r=none:=by
    match r,h2 with
    | [],_=>rfl
    | [_],_=>rfl
    | _ :: _ :: _ :: _,_=>rfl
   rw[hrp]
   have d3:(((r.length+1:Nat):Int) != 3)=true:=by simp only[bne_iff_ne];omega
   generalize hR0:rS (h :: r)=R0 at *
   show Zay _ _ _ _ (Pure H (.tup [.agg [.i 0,eS []],.b false]))
   refine Zak hE cf12 (zaa rfl) fun Q qr qn=>?_
   refine Bz0 ?_
   refine qcp (hsp _) fun k1=>?_
   have hZ:=an7 q0<|an7 z0<|an7 d0<|an7 dl<|an7 d3<|hg0;refine Bz1 ?_
   exact ZaW (hx0.alloc.bump.set (zae _)) rfl
 ·have d0:decide (h=[114,97,119])=false:=decide_eq_false hraw
  rw[if_neg hraw]
  generalize hR0:rS (h :: r)=R0 at *
  by_cases hc:h=ZA8
  ·have hk:ZBu h=1:=by rw[hc];rfl
   rw[hk]
   show Zay _ _ _ _ (Pure H (.tup [eCall ((schP r).map fun b=>((1:Int),b)),eBool ((schP r).map fun b=>((1:Int),b))]))
   rw[schP_eq]
   have hG:=ZGG r (by omega)
   unfold dataR at hdat
   rw[if_pos hc]at hdat
   generalize ZFf r=s at *
   by_cases he:scE s=0
   ·rw[if_pos he]at hdat
    have hline:=ZF2 he hp
    rw[hc]at hline
    have hwc:wC s<=100000:=by have:=hG.w;omega
    have hsm:=hG.small (by omega)
    have hsc:=fun H=>ZD8 s H (by have:=scB_len s;omega) hsm he
    have hsj:=fun H=>ZDR s H he
    have hdat:∀t H,Zay Tryz.prog 30 [.sl t R0] H (Pure H (.tup [.i 1,eS (scB s),.b true])):=hdat
    have hjl:(ZBb (ZBi s)).length<=900000:=by
     have h1:=ZCC (l:=s.dims) fun d hd=>ZC4 ((ZCV he).2.1 d hd)
     obtain⟨g1,_,g3,g4⟩:=ZCV he
     have h2:∀l:List Tx,(∀m∈l,m.length<=12)->(ZBb (l.map ((43:UInt8) :: ·))).length<=14 * l.length:=by
      intro l
      induction l with
      | nil=>intro _;simp[ZBb]
      | cons m l ih =>
       intro hm
       have i1:=ih fun x hx=>hm x (by simp[hx])
       have i2:=hm m (by simp)
       rw[zav,ZBS,zab,List.length_cons,List.length_cons,List.length_cons]
       omega
     have h3:=h2 s.meas g4
     unfold ZBi
     rw[ZBx,zab]
     omega
    have a1:=Zz9 ZA8 (ZBb (ZBi s))
    have f1:6+(ZBb (ZBi s)).length<=maxLen:=ZAp (by omega)
    generalize ZBb (ZBi s)=J at *
    have a1:(⟨#[99,114,101,97,116,101]⟩:ByteArray)++⟨J.toArray⟩=⟨(ZA8++J).toArray⟩:=a1
    obtain⟨s0,s1,s2,s3⟩:=ZbB s
    have k1':((1:Int) == 1)=true:=rfl
    by_cases hw:ZBi s=r
    ·have hw2:=hline.1 hw
     rw[if_pos ⟨he,hw⟩]
     have dn:(!decide (ZA8++J=line))=false:=by rw[decide_eq_true hw2];rfl
     show Zay _ _ _ _ (Pure H (.tup [.agg [.i 1,eS (scB s)],.b true]))
     rw[hw2]at a1
     have dn2:decide (line=line)=true:=decide_eq_true rfl
     refine Zak hE cf12 (zaa rfl) fun Q qr qn=>?_
     refine Bz0 ?_
     refine qcp (hsp _) fun k1=>?_
     have hZ:=an7 q0<|an7 z0<|d0;refine Bz1 ?_
     refine qcp (hdat _ _) fun k2=>?_
     have hZ:=k1';refine Bz1 ?_
     refine qcp (hsc _) fun k3=>?_
     have hZ:=an7 s0<|an7 s1<|an7 s2<|s3;refine Bz1 ?_
     refine qcp (hsj _) fun k4=>?_
     have hZ:=an7 a1<|an7 f1<|an7 dn2<|hg0;refine Bz1 ?_
     exact ZaW (hx0.alloc.bump.bump.bump.alloc.bump.set (zae _)) rfl
    ·have hw2:¬ZA8++J=line:=fun e=>hw (hline.2 e)
     rw[if_neg fun hh=>hw hh.2]
     have dn:decide (ZA8++J=line)=false:=decide_eq_false hw2
     show Zay _ _ _ _ (Pure H (.tup [.agg [.i 0,eS []],.b false]))
     refine Zak hE cf12 (zaa rfl) fun Q qr qn=>?_
     refine Bz0 ?_
     refine qcp (hsp _) fun k1=>?_
     have hZ:=an7 q0<|an7 z0<|d0;refine Bz1 ?_
     refine qcp (hdat _ _) fun k2=>?_
     have hZ:=k1';refine Bz1 ?_
     refine qcp (hsc _) fun k3=>?_
     have hZ:=an7 s0<|an7 s1<|an7 s2<|s3;refine Bz1 ?_
     refine qcp (hsj _) fun k4=>?_
     have hZ:=an7 a1<|an7 f1<|an7 dn<|hg0;refine Bz1 ?_
     exact ZaW (hx0.alloc.bump.bump.bump.alloc.bump.set (zae _)) rfl
   ·rw[if_neg he]at hdat
    rw[if_neg fun hh=>he hh.1]
    show Zay _ _ _ _ (Pure H (.tup [.agg [.i 0,eS []],.b false]))
    refine Zak hE cf12 (zaa rfl) fun Q qr qn=>?_
    refine Bz0 ?_
    refine qcp (hsp _) fun k1=>?_
    have hZ:=an7 q0<|an7 z0<|d0;refine Bz1 ?_
    refine Zap.use (hdat _ _) ?_
    rintro _ _ ⟨a,b,rfl,k2,rfl⟩
    have hZ:=hg0;refine Bz1 ?_
    exact ZaW (hx0.alloc.bump.bump.set (zae _)) rfl
  ·unfold dataR at hdat
   rw[if_neg hc]at hdat
   generalize hO:(if ZBu h=0 then none else (ZDp (ZBu h) r).map fun b=>(ZBu h,b):Option (Int×Tx))=O at *
   cases O with
   | none =>
    show Zay _ _ _ _ (Pure H (.tup [.agg [.i 0,eS []],.b false]))
    refine Zak hE cf12 (zaa rfl) fun Q qr qn=>?_
    refine Bz0 ?_
    refine qcp (hsp _) fun k1=>?_
    have hZ:=an7 q0<|an7 z0<|d0;refine Bz1 ?_
    refine Zap.use (hdat _ _) ?_
    rintro _ _ ⟨a,b,rfl,k2,rfl⟩
    have hZ:=hg0;refine Bz1 ?_
    exact ZaW (hx0.alloc.bump.bump.set (zae _)) rfl
   | some p =>
    obtain⟨k,b⟩:=p
    have hk1:(k == 1)=false:=by
     split at hO
     ·cases hO
     ·cases hb:ZDp (ZBu h) r with
      | none=>rw[hb]at hO;cases hO
      | some x =>
       rw[hb]at hO
       injection hO with hO
       injection hO with hO _
       rw[<- hO]
       simpa using kind_one hc
    have hdat:∀t H,Zay Tryz.prog 30 [.sl t R0] H (Pure H (.tup [.i k,eS b,.b true])):=hdat
    show Zay _ _ _ _ (Pure H (.tup [.agg [.i k,eS b],.b true]))
    refine Zak hE cf12 (zaa rfl) fun Q qr qn=>?_
    refine Bz0 ?_
    refine qcp (hsp _) fun k1=>?_
    have hZ:=an7 q0<|an7 z0<|d0;refine Bz1 ?_
    refine qcp (hdat _ _) fun k2=>?_
    have hZ:=an7 hk1<|hg0;refine Bz1 ?_
    exact ZaW (hx0.alloc.bump.bump.set (zae _)) rfl
open Go.RowKit Go.Lib
def DimO (H:Zaa) (b:Nat) (aD:AV) (dims:List Dm):Prop:=(dims=[]/\aD=.sl .full [])\/∃D cap rows tail ds d a T,dims=ds++[d]/\aD=.arr D 0 (rows.length+1) cap/\b<=D/\H.get D=some (.cells ((rows++[[eS d.name,a]]).flatten++tail) 100)/\((rows++[[eS d.name,a]]).flatten++tail).length=cap * 2/\rows.length+1<=cap/\ZBt H b T rows ds/\TsA H b a d.tiers T
structure SchO (H:Zaa) (b is:Nat) (s:Sc):Prop where
 bis:b<=is
 ex:∃aD tok,H.get is=some (.cells [aD,.sl tok (rS s.meas)] 76)/\ZCe b H 9 1 s.meas.length tok/\DimO H b aD s.dims
structure StO (b is i2:Nat) (s':Sc) (H H':Zaa):Prop where
 n:H.next<=H'.next
 old:∀i o,i<b->H.get i=some o->H'.get i=some o
 sch:SchO H' b is s'
 oth:∀cs,H.get i2=some (.cells cs 76)->H'.get i2=some (.cells cs 76)
theorem DimO.keep {H G:Zaa} {b:Nat} {aD:AV} {dims:List Dm} (h:DimO H b aD dims) (hc:∀i cs E,(E=102\/E=100)->H.get i=some (.cells cs E)->G.get i=some (.cells cs E)):DimO G b aD dims:=by
 rcases h with h|⟨D,cap,rows,tail,ds,d,a,T,h1,h2,h3,h4,h5,h6,h7,h8⟩
 ·exact .inl h
 ·refine .inr ⟨D,cap,rows,tail,ds,d,a,T,h1,h2,h3,hc _ _ _ (.inr rfl) h4,h5,h6,h7.keep fun i cs _ hg=>hc _ _ _ (.inl rfl) hg,?_⟩
  rcases h8 with h|⟨c,r,tl,k1,k2,k3,k4⟩
  ·exact .inl h
  ·exact .inr ⟨c,r,tl,k1,k2,hc _ _ _ (.inl rfl) k3,k4⟩
theorem st_at0 {H:Zaa} {b is i2 cap:Nat} {tok:Tok} {s:Sc} {r:Tx} {V tail:List AV} (bis:b<=is) (hbn:b<=H.next) (h2:i2≠is) (gs:H.get is=some (.cells [.sl .full [],.sl tok (rS s.meas)] 76)) (hT:ZCe b H 9 1 s.meas.length tok) (hd0:s.dims=[]) (hcap:1<=cap) (htl:([eS r,.sl .full []]++tail).length=cap * 2) :
  StO b is i2 { s with dims:=s.dims++[⟨r,[]⟩] } H (((H.alloc (.cells V 100)).alloc (.cells (eS r :: .sl .full [] :: tail) 100)).set is (.cells [.arr (H.next+1) 0 1 cap,.sl tok (rS s.meas)] 76)):=by
 have ls:=Zaa.lt gs
 refine⟨by simp only[nx];omega,fun i o hi hg=>?_,⟨bis,_,tok,Zaa.Zal (by simp only[nx];omega),?_,.inr ⟨H.next+1,cap,[],tail,[],⟨r,[]⟩,.sl .full [],is,by rw[hd0],rfl,by omega,?_,htl,hcap,.nil,.inl ⟨rfl,rfl⟩⟩⟩,fun cs hg=>?_⟩
 ·have:=Zaa.lt hg
  rw[Zaa.Zah (by omega),Zaa.Zag (by simp only[nx];omega),Zaa.Zag (by omega)];exact hg
 ·rcases hT with rfl|⟨t',ht',rfl,hg⟩
  ·exact .inl rfl
  ·have:=Zaa.lt hg
   exact .inr ⟨t',ht',rfl,by rw[Zaa.Zah (fun e=>by rw[e,gs]at hg;cases hg),Zaa.Zag (by simp only[nx];omega),Zaa.Zag (by omega)];exact hg⟩
 ·rw[Zaa.Zah (by omega)];exact Zaa.Zat rfl
 ·have:=Zaa.lt hg
  rw[Zaa.Zah h2,Zaa.Zag (by simp only[nx];omega),Zaa.Zag (by omega)];exact hg
theorem st_at1 {H H':Zaa} {b is i2 D D' cap cap' T:Nat} {tok:Tok} {s:Sc} {r:Tx} {rows:List (List AV)} {tail tail':List AV} {ds:List Dm} {d:Dm} {a:AV} (bis:b<=is) (h2:i2≠is) (gs:H.get is=some (.cells [.arr D 0 (rows.length+1) cap,.sl tok (rS s.meas)] 76)) (hT:ZCe b H 9 1 s.meas.length tok)
  (hd:s.dims=ds++[d]) (gD:H.get D=some (.cells ((rows++[[eS d.name,a]]).flatten++tail) 100)) (hbD:b<=D) (hcold:ZBt H b T rows ds) (hhot:TsA H b a d.tiers T) (hn:H.next<=H'.next) (j2:H'.get D'=some (.cells ((rows++[[eS d.name,a]]++[[eS r,.sl .full []]]).flatten++tail') 100)) (j3:b<=D') (j5:∀i o,i≠D->H.get i=some o->H'.get i=some o)
  (hcl':((rows++[[eS d.name,a]]++[[eS r,.sl .full []]]).flatten++tail').length=cap' * 2) (hcap':(rows++[[eS d.name,a]]).length+1<=cap') :
  StO b is i2 { s with dims:=s.dims++[⟨r,[]⟩] } H (H'.set is (.cells [.arr D' 0 ((rows++[[eS d.name,a]]).length+1) cap',.sl tok (rS s.meas)] 76)):=by
 have nD:=ZBn gD gs (by decide)
 have gs':=j5 _ _ nD.symm gs
 have ls':=Zaa.lt gs'
 have j4:=ZBn j2 gs' (by decide)
 have hnT:∀cs,H.get is≠some (.cells cs 102):=fun cs e=>by rw[gs]at e;injection e with h;injection h with _ h;exact absurd h (by decide)
 have hkeep:ZES is H (H'.set is (.cells [.arr D' 0 ((rows++[[eS d.name,a]]).length+1) cap',.sl tok (rS s.meas)] 76)):=fun i cs hi hg=>by
  rw[Zaa.Zah hi]
  exact j5 i _ (ZBn hg gD (by decide)) hg
 have hcold2:ZBt H b is (rows++[[eS d.name,a]]) (ds++[d]):=by
  refine ZBt.snoc (id:=if T=is then is+1 else T) ?_ (by split<;>omega) (hcold.other hnT)
  rcases hhot with h|h
  ·exact .inl h
  ·rw[if_neg (fun e=>by obtain⟨_,_,_,_,_,h,_⟩:=h;exact hnT _ (by rw[<- e];exact h))]
   exact .inr h
 refine⟨hn,fun i o hi hg=>?_,⟨bis,_,tok,Zaa.Zal ls',?_,.inr ⟨D',cap',rows++[[eS d.name,a]],tail',ds++[d],⟨r,[]⟩,.sl .full [],is,by rw[hd],rfl,j3,?_,hcl',hcap',hcold2.keep hkeep,.inl ⟨rfl,rfl⟩⟩⟩,fun cs hg=>?_⟩
 ·rw[Zaa.Zah (by omega)]
  exact j5 i o (by omega) hg
 ·rcases hT with rfl|⟨t',ht',rfl,hg⟩
  ·exact .inl rfl
  ·refine .inr ⟨t',ht',rfl,?_⟩
   rw[Zaa.Zah (fun e=>by rw[e,gs]at hg;cases hg)]
   exact j5 _ _ (fun e=>by rw[e,gD]at hg;cases hg) hg
 ·rw[Zaa.Zah j4];exact j2
 ·rw[Zaa.Zah h2]
  exact j5 _ _ (ZBn hg gD (by decide)) hg
theorem frz_dimO {H:Zaa} {D:Nat->Bool} {b Di cap T:Nat} {aD a:AV} {dims ds:List Dm} {d:Dm} {rows:List (List AV)} {tail:List AV} (h1:dims=ds++[d]) (h2:aD=.arr Di 0 (rows.length+1) cap) (hb:b<=Di) (hg:H.get Di=some (.cells ((rows++[[eS d.name,a]]).flatten++tail) 100)) (hcl:((rows++[[eS d.name,a]]).flatten++tail).length=cap * 2) (hnc:rows.length+1<=cap) (hcold:ZBt H b T rows ds) (hhot:TsA H b a d.tiers T)
  (hD:∀i cs,b<=i->H.get i=some (.cells cs 102)\/H.get i=some (.cells cs 100)->D i=true):Frz H D aD (.sl .no (rD dims)):=by
 subst h1 h2
 have hl:Frz H D a (.sl .no (rT d.tiers)):=ZGQ hhot fun i cs hi hg=>hD i cs hi (.inl hg)
 have hq:∀q∈rows++[[eS d.name,a]],q.length=2:=fun q hq=>by
  rcases zat.1 hq with hq|hq
  ·exact hcold.two q hq
  ·rw[zau.1 hq];rfl
 have hlen:(rows++[[eS d.name,a]]).length=rows.length+1:=by simp
 have hch:chunk 2 (rows.length+1) (((rows++[[eS d.name,a]]).flatten++tail).drop 0)=rows++[[eS d.name,a]]:=by rw[zax,<- hlen];exact ZBF tail hq
 have hk:=ZDg (H:=H) (D:=D) (fun i cs hi hg=>hD i cs hi (.inl hg)) hl hcold
 refine .arr Di 0 2 (rows.length+1) cap _ _ _ (hD _ _ hb (.inr hg)) hg (by omega) (by simp[hcold.len]) (fun i r r' h h'=>?_) (fun i r r' j x y h h' hx hy=>?_)
 ·rw[hch]at h;exact(hk i r r' h h').1
 ·rw[hch]at h;exact(hk i r r' h h').2 j x y hx hy
end Go.Proofs.YtemmgefppobboaaGreatDoor
