/- Texts of the walk. -/
import Derived.Test.YtfjjpndoeppbhaaGreatDoorMz
namespace Go.Proofs.YtfjjpndoeppbhaaGreatDoor
set_option linter.defProp false
set_option maxHeartbeats 64000000
set_option linter.unusedSimpArgs false
set_option linter.unusedVariables false
open Go.RowKit Go.Lib
theorem ZOx {n:Nat}:∀(l pre:List Int),(∀x∈l,0<=x/\x<(n:Int))->(pre++l).Nodup->wrg (ZL8 []) n false pre l=0
 | [],_,_,_=>rfl
 | x :: r,pre,h1,h2=>by
  have hx:=h1 x zak
  unfold wrg
  rw[if_neg Xa,if_neg (by
   rw[ZL9,ZL9]
   have:x ∉ pre:=fun hm=>(zbl.1 h2).2.2 x hm x zak rfl
   simp[this])]
  exact ZOx r (pre++[x]) (fun y hy=>h1 y (zar _ hy)) (by rw[zan];exact h2)
theorem ZP6 {sh:Nat->Tx} {np:Nat} (h:choP (sh 0) (sh 1)=none):opeP sh np=some .nil:=by unfold opeP;rw[h]
theorem ope_bad {sh:Nat->Tx} {np:Nat} {r:Rt} (h:choP (sh 0) (sh 1)=some r) (hf:ZO3 (fun a i=>isP sh np a 77 i) r.pages r.map=none):opeP sh np=none:=by
 unfold opeP
 rw[h]
 unfold ZO3 at hf
 simp only
 split
 ·rename_i own list e
  rw[e]at hf
  simp only at hf
  split at hf
  ·cases hf
  ·rename_i hn
   rw[if_neg fun hi=>hn hi.1]
 ·rfl
open Classical in
theorem ope_fol {sh:Nat->Tx} {np:Nat} {r:Rt} {own list:List Int} (h:choP (sh 0) (sh 1)=some r) (hf:ZO3 (fun a i=>isP sh np a 77 i) r.pages r.map=some (own,list)):opeP sh np=if wrg (ZL8 []) np false [] (own++list)=0 then some ⟨r,own,list⟩ else none:=by
 unfold opeP
 rw[h]
 unfold ZO3 at hf
 simp only
 split at hf
 ·rename_i x e
  split at hf
  ·rename_i hn
   injection hf with hf
   subst hf
   rw[e]
   simp only
   by_cases hw:wrg (ZL8 []) np false [] (own++list)=0
   ·rw[if_pos hw,if_pos]
    obtain⟨h1,h2⟩:=ZQE _ _ _ _ _ hw
    exact⟨h2,fun x hx=>⟨(h1 x hx).1,(h1 x hx).2.1⟩⟩
   ·rw[if_neg hw,if_neg]
    intro hi
    exact hw (ZOx _ _ hi.2 (by rw[List.nil_append];exact hn))
  ·cases hf
 ·cases hf
theorem fol_lenb {rd:Int->Nat->Option Tx} {r:Rt} {own list:List Int} (hr:r.ok=true) (hf:ZO3 rd r.pages r.map=some (own,list)):own.length<=2047/\list.length<=2047:=by
 unfold ZO3 at hf
 split at hf
 ·rename_i x e
  split at hf
  ·injection hf with hf
   subst hf
   have ho:=fol_ok hr e
   have h1:=ho.n
   have h2:=ho.o
   have h3:=ho.l
   simp only at h1 h2 h3
   refine⟨?_,h1⟩
   unfold ZL3 at h2
   split at h2<;>omega
  ·cases hf
 ·cases hf
def OpnR (D:Nat) (d:Dv) (np:Nat) (H:Zaa) (r:AV) (G:Zaa):Prop:=DvX D d G/\KD AKs H G/\match opeP d.sho np with
 | some p=>∃P R C M fet,r=.tup [.ptr P 0,.i 0]/\PgB D P R C M p false [] fet np G
 | none=>r=.tup [.sc (.pointer none),.i 15]
abbrev ZNG (Q:AEx->Fr->Zaa->Prop) (rs:List Zcq) (R:AV->Zaa->Prop):Prop:=∀F H,Q .ret F H=match ZcU F H rs with
 | some r=>∃r2 H2,Zb6 r H r2 H2/\R r2 H2
 | none=>False
def op4:Zar:=.seq (.seq (.drw [ip (im 75 7),ip (io 76 (.nck (.t 75))),ip (io 77 (.fla 9 (.t 76))),ip (io 78 (.ld 1 false (.t 77))),ip (im 79 7),ip (io 80 (.nck (.t 79))),ip (io 81 (.fla 7 (.t 80))),ip (io 82 (.ld 1 false (.t 81))),ip (im 83 7),ip (io 84 (.nck (.t 83))),ip (io 85 (.fla 8 (.t 84))),ip (io 86 (.ld 1 false (.t 85))),ip (io 87 (.bsl 1 [.t 82,.t 86])),(io 88 (.call (jf 59) [.t 87]),[io 78 (.ld 1 false (.t 77))]),ip (io 89 (.call (jf 58) [.t 78,.t 88])),ip (io 90 (.bin .neq (.t 89) (ik 0)))])<|.cond (.t 90) (rr 1 [.O (.mv (.c (.sc (.pointer none)))),.J 15])<|.skip)<|rr 90 [.M 7,.s 2,.j 3 0]
def op3:Zar:=.seq (rs 55 [.M 7,.M 7,.F 2 8,.F 1 8,.M 7,.O (.mkf 57 [.t 62] []),.c 56 [59,61,63],.s 55,.e 55 0,.e 55 1,.e 55 2,.k 56,.f 7 68,.Z 1 69 65,.k 57,.f 8 70,.Z 1 71 66,.m 6 67]<|rs 71 [.i .neq 6 0]<|.cond (.t 73) (rr 73 [.M 6,.o 2 (.mv (.c (.sc (.pointer none)))),.s 3])<|.skip)<|op4
def op2:Zar:=rs 42 [.M 4,.M 5,.c 55 [43,44],.s 42,.e 42 0,.e 42 1,.o 8 (.box 41 (.c za2)),.Z 6 8 46,.s 9]<|ri 47 [.M 9,.u 48] 49 (rr 49 [.M 7,.s 2,.j 3 0])<|rs 50 [.M 7,.L 6 8,.k 51,.f 1 53,.Z 6 54 52]<|op3
def op1:Zar:=rs 25 [.M 7,.M 0,.c 50 [27],.c 53 [28],.c 52 [29],.s 25,.e 25 0,.e 25 1,.k 26,.f 9 33,.Z 1 34 31]<|rs 35 [.M 7,.C 54 [ik 8],.s 35,.e 35 0,.e 35 1,.k 36,.f 10 40,.Z 1 41 38]<|op2
set_option maxRecDepth 100000 in
theorem op_split:ZlE=.seq (.reg [io 2 (.mv (.c (.sc (.pointer none)))),jm 3 0]) (.seq (.seq (.reg [im 10 0,io 11 (.call (jf 50) [.t 10]),io 12 (.bin .eql (.t 11) (ik 0))]) (.cond (.t 12) (.seq (.reg [io 2 (.mv (.c (.sc (.pointer none)))),jm 3 1]) .ret) .skip)) (.seq (.reg [im 14 0,io 15 (.call (jf 51) [.t 14]),im 13 15,io 16 (.ext (.t 13) 0),io 17 (.ext (.t 13) 1),io 18 (.ext (.t 13) 2),im 4 16,im 5 17,im 6 18]) (.seq (.seq (.reg [im 19 6,io 20 (.bin .neq (.t 19) (ik 0))]) (.cond (.t 20) (.seq (.reg [im 21 6,io 2 (.mv (.c (.sc (.pointer none)))),im 3 21]) .ret) .skip)) (.seq (.reg [im 22 0,io 23 (.bld zl6 [(0,(1,.t 22))]),io 24 (.box 106 (.t 23)),im 7 24]) op1)))):=rfl
theorem wkRm {ks:List Nat} {K L:Zaa} {ws:List Nat} {n R W:Nat} (h1:167+3 ∉ ks) (h2:149+3 ∉ ks) (k:KD ks K L) (w:RmA ws n R W K):RmA ws n R W L:=⟨k.g _ _ h1 w.r,k.g _ _ h2 w.w,w.l,w.n1,w.n2,w.b⟩
section
variable {D P R W C M X:Nat} {d:Dv} {H G:Zaa} {F:Fr} {Q:AEx->Fr->Zaa->Prop} {r:Rt} {fet:Int} {own list:List Int} {t1 t2:Tok}
theorem kP2 (cs:List AV):kdO (.cells cs 106)∈[106+3]:=by simp[kdO]
theorem pksD:∀x∈DKs,x ∉ [106+3]:=Xb
theorem pksC:∀x∈CKs,x ∉ [106+3]:=Xb
theorem pksA:∀x∈[106+3],x∈AKs:=Xb
theorem op_use (hc:choP (d.sho 0) (d.sho 1)=some r) (g8:G.get P=some (.cells (pgC D (.i r.gen) (.i r.pages) (.i r.map) (.i r.cat) (.i r.nodes) (.i r.top) (.sl t1 (rI own)) (.sl t2 (rI list)) (.ptr R 0) (.ptr C 0) (.b false) fet) 106)) (w8:RmA (List.replicate ((ofP d.sec.length+63) / 64) 0) (ofP d.sec.length) R W G) (c8:CaS C M [] G) (q8:DvX D d G) (kd8:KD AKs H G) (hl1:own.length<=2047) (hl2:list.length<=2047) (hf:ZO3 (fun a i=>isP d.sho (ofP d.sec.length) a 77 i) r.pages r.map=some (own,list)) (t:Tok) :
  Zay Tryz.prog 58 [.ptr R 0,.sl t (rI (own++list))] G fun u G=>∃e,u=.i e/\DvX D d G/\KD AKs H G/\(((e != 0)=false/\opeP d.sho (ofP d.sec.length)=some ⟨r,own,list⟩/\PgB D P R C M ⟨r,own,list⟩ false [] fet (ofP d.sec.length) G)\/((e != 0)=true/\opeP d.sho (ofP d.sec.length)=none)):=by
 have hop:=ope_fol hc hf
 refine Zay.mono (ZNS w8 t (own++list) (by rw[zac];omega)) ?_
 rintro u G ⟨rfl,hR,kf⟩
 rw[(ZOw (ofP d.sec.length)).wrg]at hR ⊢
 have k8:KD [149+3] _ G:=KD.of kf fun i o hi ho=>by
  subst hi
  rw[w8.w]at ho;injection ho with ho;rw[<- ho];simp[kdO]
 refine⟨_,rfl,q8.keep k8 Xb,kd8.trans (k8.mono Xb),?_⟩
 by_cases hw:wrg (ZL8 []) (ofP d.sec.length) false [] (own++list)=0
 ·rw[if_pos hw]at hR hop
  have hi:=(ZOw (ofP d.sec.length)).use (own++list) hw
  rw[List.nil_append]at hi
  refine .inl ⟨by rw[hw];rfl,hop,⟨t1,t2,k8.g _ _ (show kdO (.cells _ 106) ∉ [149+3] by show 106+3 ∉ [149+3];decide) g8⟩,⟨_,W,hR,hi⟩,c8.keep k8 Xb⟩
 ·rw[if_neg hw]at hop
  exact .inr ⟨by simpa using hw,hop⟩
theorem ZSv (qr:ZNG Q [.tmp 2,.tmp 3] (OpnR D d (ofP d.sec.length) H)) (hc:choP (d.sho 0) (d.sho 1)=some r) (f7:Fr.get F 7=.ptr P 0) (g8:G.get P=some (.cells (pgC D (.i r.gen) (.i r.pages) (.i r.map) (.i r.cat) (.i r.nodes) (.i r.top) (.sl t1 (rI own)) (.sl t2 (rI list)) (.ptr R 0) (.ptr C 0) (.b false) fet) 106)) (w8:RmA (List.replicate ((ofP d.sec.length+63) / 64) 0) (ofP d.sec.length) R W G) (c8:CaS C M [] G) (q8:DvX D d G) (kd8:KD AKs H G) (hl1:own.length<=2047) (hl2:list.length<=2047) (hf:ZO3 (fun a i=>isP d.sho (ofP d.sec.length) a 77 i) r.pages r.map=some (own,list)):AW Tryz.prog op4 Q F G:=by
 have qn:=trivial
 have x0:Zaa.Ext G G:=.refl _
 have hus:=fun(k:Nat) (t:Tok)=>op_use (H:=H) hc ((Zaa.Ext.bump (k:=k) (Zaa.Ext.refl G)).get _ _ g8) (w8.ext (Zaa.Ext.bump (Zaa.Ext.refl G))) (c8.keep (KD.ext (ks:=[]) (Zaa.Ext.bump (Zaa.Ext.refl G))) Xb) (q8.ext (Zaa.Ext.bump (Zaa.Ext.refl G))) (kd8.bump k) hl1 hl2 hf t
 unfold op4
 refine Bz1 (X2 f7 g8) ?_
 refine qcp (ZMY _ t1 t2 own list _ Xa Xa) fun k9=>?_
 refine Bz1 (X1 g8) ?_
 refine Zap.use (hus k9 _) ?_
 rintro _ G9 ⟨e,rfl,q9,kd9,⟨he,hop,hp9⟩|⟨he,hop⟩⟩
 ·refine Bz1 (X2 he f7) ?_
  refine Zaq ⟨q9,kd9,?_⟩
  rw[hop]
  exact⟨P,R,C,M,fet,rfl,hp9⟩
 ·refine Bz1 (X1 he) ?_
  refine Zaq ⟨q9,kd9,?_⟩
  rw[hop]
theorem ZSY (hoff:d.off=false) (hpu:d.puts.length<=1000000) (hok:d.Ok) (qr:ZNG Q [.tmp 2,.tmp 3] (OpnR D d (ofP d.sec.length) H)) (hc:choP (d.sho 0) (d.sho 1)=some r) (f7:Fr.get F 7=.ptr P 0) (f8:Fr.get F 8=.ptr X 0) (gX:G.get X=some (.cells [.i r.gen,.i r.pages,.i r.map,.i r.cat,.i r.nodes,.i r.top] 41)) (gP:G.get P=some (.cells (pgC D (.i r.gen) (.i r.pages) (.i r.map) (.i r.cat) (.i r.nodes) (.i r.top) (.sl .full []) (.sl .full []) (.ptr R 0) (.ptr C 0) (.b false) 0) 106)) (w6:RmA (List.replicate ((ofP d.sec.length+63) / 64) 0) (ofP d.sec.length) R W G) (c6:CaS C M [] G) (q6:DvX D d G) (kd6:KD AKs H G):AW Tryz.prog op3 Q F G:=by
 have qn:=trivial
 obtain⟨a1,a2,a3,a4,a5,a6,a7,a8,a9,a10,a11,a12⟩:=okR (ZPT hc)
 have hpg:0<=r.pages:=by rw[a9];have:=ZNA (show 0<=r.cat by omega) Xa;have:=ZNA a5 Xa;omega
 obtain⟨S,t,rd,hdv⟩:=q6
 have hfol:=ZO5 r.pages r.map (piece_rd (D:=D) (S:=S) (P:=P) (t:=t) (d:=d) (a1:=.i r.gen) (a2:=.i r.pages) (a3:=.i r.map) (a4:=.i r.cat) (a5:=.i r.nodes) (a6:=.i r.top) (a7:=.sl .full []) (a8:=.sl .full []) (a9:=.ptr R 0) (a10:=.ptr C 0) (a12:=.b false) hoff hpu (b:=G.next) (fun i hi=>hdv.old hi) (Zaa.lt gP)) ⟨hok,⟨rd,hdv⟩,0,gP⟩ Xa Xa (ZAs Xa Xa)
 have n0:((0:Int) != 0)=false:=rfl
 have n15:((15:Int) != 0)=true:=rfl
 have facts:∀{K:Zaa},(d.Ok/\PieS D S P t d (pgC D (.i r.gen) (.i r.pages) (.i r.map) (.i r.cat) (.i r.nodes) (.i r.top) (.sl .full []) (.sl .full []) (.ptr R 0) (.ptr C 0) (.b false)) K)->KF (fun i=>i=D\/i=P) G K->∃fet,K.get P=some (.cells (pgC D (.i r.gen) (.i r.pages) (.i r.map) (.i r.cat) (.i r.nodes) (.i r.top) (.sl .full []) (.sl .full []) (.ptr R 0) (.ptr C 0) (.b false) fet) 106)/\(∀cs,DvX D d (K.set P (.cells cs 106))/\KD AKs H (K.set P (.cells cs 106))/\RmA (List.replicate ((ofP d.sec.length+63) / 64) 0) (ofP d.sec.length) R W (K.set P (.cells cs 106))/\CaS C M [] (K.set P (.cells cs 106))/\(K.set P (.cells cs 106)).get P=some (.cells cs 106)):=by
  rintro K ⟨_,⟨rd8,hdv8⟩,fet8,gP8⟩ kf8
  have k8:=ZST hdv gP kf8
  refine⟨fet8,gP8,fun cs=>?_⟩
  have k9:=KD.set (o:=.cells cs 106) (KD.refl [106+3] _) gP8 (kP2 _)
  exact⟨(show DvX D d K from⟨S,t,rd8,hdv8⟩).keep k9 pksD,(kd6.trans (k8.mono Xb)).trans (k9.mono pksA),wkRm Xb Xb k9 (wkRm Xb Xb k8 w6),(c6.keep k8 Xb).keep k9 pksC,Zaa.Zal (Zaa.lt gP8)⟩
 cases hf:ZO3 (fun a i=>isP d.sho (ofP d.sec.length) a 77 i) r.pages r.map with
 | none =>
  rw[hf]at hfol
  have hop:=ope_bad (np:=ofP d.sec.length) hc hf
  unfold op3
  refine Bz1 (X3 f7 f8 gX) ?_
  refine Zap.use hfol ?_
  refine fun u K h=>?_
  have hm:u=.tup [.sl .full [],.sl .full [],.i 15]:=h.2.2
  subst hm
  have hk:=facts h.1 h.2.1
  refine hk.elim fun fet8 hk=>?_
  have gP8:=hk.1
  have lP8:=Zaa.lt gP8
  have hk:=hk.2
  ((have hd:=tv;repeat' first|(first|apply Zad|apply Zac|apply Zab)<;>intro hd<;>try simp only[hd]|simp(disch:=first|assumption|omega|simp only[nx]<;>omega|fail)only[hd,qr,qn,ZlE,↓YA,YY,↓reduceIte,Nat.reduceEqDiff,Nat.reduceAdd,Nat.reduceMul,Nat.reduceLeDiff,Int.reduceToNat,Int.reduceLE,Int.reduceLT,Int.reduceGT,Int.reduceGE,Int.reduceAdd,Int.reduceSub,Int.reduceNeg,Int.reduceBEq,Int.reduceBNe,gP8,f7,n15,ZMs])<;>try revert hd;refine ttr ?_)
  refine Zaq ⟨(hk _).1,(hk _).2.1,?_⟩
  rw[hop]
 | some x =>
  rw[hf]at hfol
  obtain⟨own,list⟩:=x
  obtain⟨hl1,hl2⟩:=fol_lenb (ZPT hc) hf
  unfold op3
  refine Bz1 (X3 f7 f8 gX) ?_
  refine Zap.use hfol ?_
  refine fun u K h=>?_
  have hm:∃t1 t2,u=.tup [.sl t1 (rI own),.sl t2 (rI list),.i 0]:=h.2.2
  refine hm.elim fun t1 hm=>hm.elim fun t2 hm=>?_
  subst hm
  have hk:=facts h.1 h.2.1
  refine hk.elim fun fet8 hk=>?_
  have gP8:=hk.1
  have lP8:=Zaa.lt gP8
  have hk:=hk.2
  clear hfol facts h
  ((have hd:=tv;repeat' first|(first|apply Zad|apply Zac|apply Zab)<;>intro hd<;>try simp only[hd]|simp(disch:=first|assumption|omega|simp only[nx]<;>omega|fail)only[hd,qr,qn,ZlE,↓YA,YY,↓reduceIte,Nat.reduceEqDiff,Nat.reduceAdd,Nat.reduceMul,Nat.reduceLeDiff,Int.reduceToNat,Int.reduceLE,Int.reduceLT,Int.reduceGT,Int.reduceGE,Int.reduceAdd,Int.reduceSub,Int.reduceNeg,Int.reduceBEq,Int.reduceBNe,gP8,f7,n0,ZMs])<;>try revert hd;refine ttr ?_)
  have hk:=hk (pgC D (.i r.gen) (.i r.pages) (.i r.map) (.i r.cat) (.i r.nodes) (.i r.top) (.sl t1 (rI own)) (.sl t2 (rI list)) (.ptr R 0) (.ptr C 0) (.b false) fet8)
  exact ZSv qr hc (by simpa [Fr.get] using f7) hk.2.2.2.2 hk.2.2.1 hk.2.2.2.1 hk.1 hk.2.1 hl1 hl2 hf
theorem ZSQ (hoff:d.off=false) (hpu:d.puts.length<=1000000) (hok:d.Ok) (qr:ZNG Q [.tmp 2,.tmp 3] (OpnR D d (ofP d.sec.length) H)) (f4:Fr.get F 4=eS (d.sho 0)) (f5:Fr.get F 5=eS (d.sho 1)) (f7:Fr.get F 7=.ptr P 0) (gP:G.get P=some (.cells (pgC D (.i 0) (.i 0) (.i 0) (.i 0) (.i 0) (.i 0) (.sl .full []) (.sl .full []) (.ptr R 0) (.ptr C 0) (.b false) 0) 106)) (w6:RmA (List.replicate ((ofP d.sec.length+63) / 64) 0) (ofP d.sec.length) R W G) (c6:CaS C M [] G) (q6:DvX D d G) (kd6:KD AKs H G):AW Tryz.prog op2 Q F G:=by
 have qn:=trivial
 obtain⟨hn1,hn2⟩:=hok.n
 have hch:=fun K=>ZOv (d.sho 0) (d.sho 1) K (by rw[hok.sho Xa];omega) (by rw[hok.sho Xa];omega)
 cases hc:choP (d.sho 0) (d.sho 1)with
 | none =>
  have hop:opeP d.sho (ofP d.sec.length)=some .nil:=ZP6 hc
  rw[hc]at hch
  unfold chV at hch
  unfold op2
  refine Bz1 (X2 f4 f5) ?_
  refine qcp (hch _) fun k4=>?_
  refine Bz1 (X1 f7) ?_
  refine Zaq ⟨q6.ext (by exact AXT),kd6.trans (KD.ext (by exact AXT)),?_⟩
  rw[hop]
  exact⟨P,R,C,M,0,rfl,(show PgB D P R C M .nil false [] 0 (ofP d.sec.length) G from⟨⟨.full,.full,gP⟩,⟨_,W,w6,ZOw _⟩,c6⟩).ext (by exact AXT)⟩
 | some r =>
  rw[hc]at hch
  unfold chV eRt at hch
  have lP:=Zaa.lt gP
  have hne:∀k,P≠(G.bump k).next:=fun k=>by simp only[nx];omega
  have hne2:∀k,P≠G.next+k:=fun k=>by omega
  have x6:∀k,Zaa.Ext G ((G.bump k).alloc (.cells [.i r.gen,.i r.pages,.i r.map,.i r.cat,.i r.nodes,.i r.top] 41)):=fun k=>(Zaa.Ext.refl G).bump.alloc
  unfold op2
  refine Bz1 (X2 f4 f5) ?_
  refine qcp (hch _) fun k4=>?_
  refine Bz1 (X3 f7 gP hne2) ?_
  have gP6:=(x6 k4).get _ _ gP
  have k6:=KD.set (o:=.cells (pgC D (.i r.gen) (.i r.pages) (.i r.map) (.i r.cat) (.i r.nodes) (.i r.top) (.sl .full []) (.sl .full []) (.ptr R 0) (.ptr C 0) (.b false) 0) 106) (KD.refl [106+3] _) gP6 (kP2 _)
  refine ZSY (X:=G.next+k4) (R:=R) (W:=W) (C:=C) (M:=M) hoff hpu hok qr hc (by simpa [Fr.get] using f7) rfl ?_ (Zaa.Zal (Zaa.lt gP6)) (wkRm Xb Xb k6 (w6.ext (x6 k4))) ((c6.keep (KD.ext (ks:=[]) (x6 k4)) Xb).keep k6 pksC) ((q6.ext (x6 k4)).keep k6 pksD) ((kd6.trans (KD.ext (x6 k4))).trans (k6.mono pksA))
  rw[Zaa.Zah (zbn (hne2 k4))]
  exact Zaa.Zat rfl
theorem ZSc (hoff:d.off=false) (hpu:d.puts.length<=1000000) (hok:d.Ok) (qr:ZNG Q [.tmp 2,.tmp 3] (OpnR D d (ofP d.sec.length) H)) (f0:Fr.get F 0=.ptr D 0) (f4:Fr.get F 4=eS (d.sho 0)) (f5:Fr.get F 5=eS (d.sho 1)) (f7:Fr.get F 7=.ptr P 0) (gP:G.get P=some (.cells (pgC D (.i 0) (.i 0) (.i 0) (.i 0) (.i 0) (.i 0) (.sl .full []) (.sl .full []) (.sc (.pointer none)) (.sc (.pointer none)) (.b false) 0) 106)) (q1:DvX D d G) (kd1:KD AKs H G):AW Tryz.prog op1 Q F G:=by
 have qn:=trivial
 obtain⟨hn1,hn2⟩:=hok.n
 obtain⟨hb1,hb2⟩:=ZQH hn1 hn2
 have hsz:=fun(K:Zaa) (hK:DvX D d K)=>ZN9 hK
 have hof:=fun K=>ZPt d.sec.length K Xa
 have hrn:=fun K=>ZP5 (ofP d.sec.length) K Xa hb2
 unfold op1
 refine Bz1 (X2 f0 f7) ?_
 refine qcp (hsz _ q1) fun k2=>?_
 refine Bz0 ?_
 refine qcp (hof _) fun k3=>?_
 refine Bz0 ?_
 refine Zap.use (hrn _) ?_
 rintro _ G3 ⟨R,W,rfl,hRm,_,_,hx3⟩
 have hx13:Zaa.Ext G G3:=Zaa.Ext.trans (Zaa.Ext.bump (Zaa.Ext.bump (Zaa.Ext.refl G))) hx3
 have gP3:=hx13.get _ _ gP
 have lP3:=Zaa.lt gP3
 have q3:DvX D d G3:=q1.ext hx13
 have kd3:KD AKs H G3:=kd1.trans (KD.ext hx13)
 refine Bz1 (X2 gP3 f7) ?_
 refine Zap.use (ZQS _) ?_
 rintro _ G4 ⟨C,M,rfl,hCa,_,_,hx4⟩
 have gP4:=hx4.get _ _ (Zaa.Zal lP3)
 have k34:=KD.set (o:=.cells (pgC D (.i 0) (.i 0) (.i 0) (.i 0) (.i 0) (.i 0) (.sl .full []) (.sl .full []) (.ptr R 0) (.sc (.pointer none)) (.b false) 0) 106) (KD.refl [106+3] G3) gP3 (kP2 _)
 have q4:DvX D d G4:=(q3.keep k34 pksD).ext hx4
 have kd4:KD AKs H G4:=(kd3.trans (k34.mono pksA)).trans (KD.ext hx4)
 have w4:=(wkRm Xb Xb k34 hRm).ext hx4
 refine Bz1 (X2 gP4 f7) ?_
 have k45:=KD.set (o:=.cells (pgC D (.i 0) (.i 0) (.i 0) (.i 0) (.i 0) (.i 0) (.sl .full []) (.sl .full []) (.ptr R 0) (.ptr C 0) (.b false) 0) 106) (KD.refl [106+3] G4) gP4 (kP2 _)
 exact ZSQ (R:=R) (W:=W) (C:=C) (M:=M) hoff hpu hok qr (by simpa [Fr.get] using f4) (by simpa [Fr.get] using f5) (by simpa [Fr.get] using f7) (Zaa.Zal (Zaa.lt gP4)) (wkRm Xb Xb k45 w4) (hCa.keep k45 pksC) (q4.keep k45 pksD) (kd4.trans (k45.mono pksA))
theorem ZMq (hd:DvX D d H) (hoff:d.off=false) (hpu:d.puts.length<=1000000):Zay Tryz.prog 11 [.ptr D 0] H (OpnR D d (ofP d.sec.length) H):=by
 have hok:d.Ok:=by obtain⟨S,t,rd,h⟩:=hd;exact h.ok
 obtain⟨hn1,hn2⟩:=hok.n
 have hsz:=fun(K:Zaa) (hK:DvX D d K)=>ZN9 hK
 have hh:=fun(K:Zaa) (hK:DvX D d K)=>ZPG hK hoff hpu Xa
 have d0:((d.sec.length:Int) == 0)=false:=by simp only[beq_eq_false_iff_ne,ne_eq];omega
 have n0:((0:Int) != 0)=false:=rfl
 have dks:∀x∈[100+3],x∈AKs:=Xb
 refine fnQ cf11 fun Q qr qn=>?_
 rw[op_split]
 refine Bz0 ?_
 refine qcp (hsz _ hd) fun k1=>?_
 refine Bz1 (X1 d0) ?_
 refine Zap.use (hh _ (hd.ext (by exact AXT))) ?_
 rintro _ G1 ⟨rfl,q1,kd1⟩
 refine Bz1 (X1 n0) ?_
 exact ZSc hoff hpu hok qr rfl rfl rfl rfl (Zaa.Zat rfl) (q1.ext (by exact AXT)) (((KD.ext (Zaa.Ext.refl _).bump).trans (kd1.mono dks)).trans (KD.ext (by exact AXT)))
end
open Go.RowKit Go.Lib
theorem ZQn (l m:List (Int×Tx)):∀d:Dv,d.ZL4 (l++m)=ZL6 (d.ZL4 l) fun d=>d.ZL4 m:=by
 induction l with
 | nil=>intro d;rfl
 | cons q l ih =>
  intro d
  show(if (d.wrt q.1 q.2).2=0 then (d.wrt q.1 q.2).1.ZL4 (l++m) else d.wrt q.1 q.2)=ZL6 (if (d.wrt q.1 q.2).2=0 then (d.wrt q.1 q.2).1.ZL4 l else d.wrt q.1 q.2) _
  by_cases h:(d.wrt q.1 q.2).2=0
  ·rw[if_pos h,if_pos h,ih]
  ·rw[if_neg h,if_neg h]
   unfold ZL6
   rw[if_neg h]
theorem wrts_one (d:Dv) (q:Int×Tx):d.ZL4 [q]=d.wrt q.1 q.2:=by
 show(if (d.wrt q.1 q.2).2=0 then ((d.wrt q.1 q.2).1,0) else d.wrt q.1 q.2)=_
 split
 ·rename_i h;rw[<- h]
 ·rfl
theorem ZRV {d:Dv} {L:List (Int×Tx)} {j:Nat} (hj:j<L.length) (h0:(d.ZL4 (L.take j)).2=0):d.ZL4 (L.take (j+1))=(d.ZL4 (L.take j)).1.wrt L[j].1 L[j].2:=by
 rw[zas hj,ZQn,ZL6,if_pos h0,wrts_one]
theorem ZR2 {d:Dv} {L:List (Int×Tx)} (j:Nat) (h0:(d.ZL4 (L.take j)).2≠0):d.ZL4 L=d.ZL4 (L.take j):=by
 conv=>lhs;rw[<- zaS j L]
 rw[ZQn,ZL6,if_neg h0]
theorem ZQD (d:Dv) (i:Int) (s:Tx):(d.wrt i s).1.puts.length<=d.puts.length+1:=by
 obtain⟨h1,h2,_⟩:=ZMz d
 unfold Dv.wrt
 split
 ·simp
 ·split
  ·simp
  ·split
   ·simp
   ·rw[h2];omega
theorem ZMV:∀(L:List (Int×Tx)) (d:Dv),(d.ZL4 L).1.puts.length<=d.puts.length+L.length
 | [],d=>by simp[Dv.ZL4]
 | q :: L,d=>by
  unfold Dv.ZL4
  have h:=ZQD d q.1 q.2
  split
  ·have:=ZMV L (d.wrt q.1 q.2).1
   rw[List.length_cons]
   omega
  ·rw[List.length_cons]
   omega
theorem ZPV (d:Dv) (i:Int) (s:Tx):(d.wrt i s).1.sec.length=d.sec.length:=by
 obtain⟨h1,h2,_⟩:=ZMz d
 unfold Dv.wrt
 split
 ·rfl
 ·split
  ·rfl
  ·split
   ·simp only[h1]
   ·rw[h1]
theorem ZOA:∀(L:List (Int×Tx)) (d:Dv),(d.ZL4 L).1.sec.length=d.sec.length
 | [],d=>rfl
 | q :: L,d=>by
  unfold Dv.ZL4
  split
  ·rw[ZOA L,ZPV]
  ·exact ZPV ..
theorem ZNW:∀(places:List Int) (pages:List Tx),pages.length<=places.length->(ZL7 places pages).length=2 * pages.length
 | _,[],_=>by simp[ZL7]
 | [],_ :: _,h=>by simp at h
 | a :: as_,p :: ps,h=>by
  have:=ZNW as_ ps (by simpa using h)
  unfold ZL7 at this ⊢
  rw[List.zip_cons_cons,zbu,zac,this,List.length_cons]
  simp
  omega
theorem ZPD:∀(places:List Int) (pages:List Tx) (h:pages.length<=places.length) (k:Nat) (hk:k<pages.length),(ZL7 places pages)[2 * k]?=some (2+2 * places[k],pages[k].take 128)/\(ZL7 places pages)[2 * k+1]?=some (2+2 * places[k]+1,pages[k].drop 128)
 | _,[],_,k,hk=>by simp at hk
 | [],_ :: _,h,_,_=>by simp at h
 | a :: as_,p :: ps,h,0,_=>⟨rfl,rfl⟩
 | a :: as_,p :: ps,h,k+1,hk=>by
  obtain⟨h1,h2⟩:=ZPD as_ ps (by simpa using h) k (by simpa using hk)
  exact⟨h1,h2⟩
section
variable {D P:Nat} {d:Dv} {H G:Zaa} {a1 a2 a3 a4 a5 a6 a7 a8 a9 a10 a12:AV} {fet:Int}
theorem ZNf (hd:DvX D d H) (hpu:d.puts.length<=1000000) (i:Int) (s:Tx):Zay Tryz.prog 27 [.ptr D 0,.i i,eS s] H fun r G=>r=.i (d.wrt i s).2/\DvX D (d.wrt i s).1 G/\KD DKs H G:=by
 obtain⟨S,t,rd,hd⟩:=hd
 refine Zay.mono (ZPm hd i s hpu) ?_
 rintro r G ⟨rfl,⟨t',rd',h1,_⟩,kf⟩
 exact⟨rfl,⟨S,t',rd',h1⟩,hd.kd kf⟩
theorem ZNP (hd:DvX D d H) (hpu:d.puts.length<=1000000):Zay Tryz.prog 29 [.ptr D 0] H fun r G=>r=.i d.syn.2/\DvX D d.syn.1 G/\KD DKs H G:=by
 obtain⟨S,t,rd,hd⟩:=hd
 refine Zay.mono (ZP8 hd hpu) ?_
 rintro r G ⟨rfl,⟨t',rd',h1,_⟩,kf⟩
 exact⟨rfl,⟨S,t',rd',h1⟩,hd.kd kf⟩
theorem dkP (cs:List AV):kdO (.cells cs 106) ∉ DKs:=by show 106+3 ∉ DKs;decide
def WrtR (D:Nat) (d:Dv) (L:List (Int×Tx)) (H:Zaa) (r:AV) (G:Zaa):Prop:=r=.i (d.ZL4 L).2/\DvX D (d.ZL4 L).1 G/\KD DKs H G
theorem ZNe (hd:DvX D d H) (g:H.get P=some (.cells (pgC D a1 a2 a3 a4 a5 a6 a7 a8 a9 a10 a12 fet) 106)) (t1 t2:Tok) (places:List Int) (pages:List Tx) (hl:pages.length<=places.length) (hpl:∀x∈places,0<=x/\x<=2046) (hpg:∀s∈pages,s.length=256) (hpu:d.puts.length+2 * pages.length<=1000000) :
  Zay Tryz.prog 116 [.ptr P 0,.sl t1 (rI places),.sl t2 (rS pages)] H (WrtR D d (ZL7 places pages) H):=by
 have hrl:(rS pages).length=pages.length:=Xc
 have hL:=ZNW places pages hl
 have hgt:=ZPD places pages hl
 obtain⟨L,hLe⟩:∃L,L=ZL7 places pages:=⟨_,rfl⟩
 rw[<- hLe]at hL hgt ⊢
 clear hLe
 refine fnQ cf116 fun Q qr qn=>?_
 refine Bz1 (X1 hrl) ?_
 refine ZbJ (N:=pages.length) (fun k F G=>Fr.get F 14=.i (k:Int)/\Fr.get F 13=.i (pages.length:Int)/\Fr.get F 12=.sl t2 (rS pages)/\Fr.get F 0=.ptr P 0/\Fr.get F 1=.sl t1 (rI places)/\(d.ZL4 (L.take (2 * k))).2=0/\DvX D (d.ZL4 (L.take (2 * k))).1 G/\KD DKs H G) Xd (fun k F G h=>⟨h.1,h.2.1⟩) (GStep.refl _ _) ⟨rfl,rfl,rfl,rfl,rfl,rfl,hd,KD.refl _ _⟩ ?_ ?_
 ·rintro k F G hk ⟨f14,f13,f12,f0,f1,h0,hdv,kd⟩
  have hkp:k<places.length:=Xa
  have z0:(0:Int)<=(k:Int):=Xa
  have hr:(rS pages)[k]?=some [eS pages[k]]:=by simp[hk]
  have hr2:(rI places)[k]?=some [.i places[k]]:=by simp[hkp]
  obtain⟨g1,g2⟩:=hgt k hk
  have hs:=hpg _ (zau hk)
  obtain⟨b1,b2⟩:=hpl _ (zau hkp)
  have hsc:=fun K=>ZOC pages[k] K hs
  obtain⟨n,hn⟩:=zaL b1
  have hf:=fun K=>ZNa n K Xa
  rw[<- hn]at hf
  generalize places[k]=q at *
  generalize pages[k]=s at *
  subst hn
  skip
  refine Bz1 (X7 f14 f13 f12 f0 f1 z0 hr) ?_
  refine qcp (hsc _) fun k1=>?_
  refine Bz0 ?_
  refine ZbJ (N:=2) (fun j F G=>Fr.get F 21=.i (j:Int)/\Fr.get F 20=.agg [eS (s.take 128),eS (s.drop 128)]/\Fr.get F 7=.i (k:Int)/\Fr.get F 14=.i (k:Int)/\Fr.get F 13=.i (pages.length:Int)/\Fr.get F 12=.sl t2 (rS pages)/\Fr.get F 0=.ptr P 0/\Fr.get F 1=.sl t1 (rI places)/\(d.ZL4 (L.take (2 * k+j))).2=0/\DvX D (d.ZL4 (L.take (2 * k+j))).1 G/\KD DKs H G) Xb (fun k F G h=>⟨h.1,rfl⟩) (GStep.refl _ _) ⟨rfl,rfl,by simpa [Fr.get] using f14,by simpa [Fr.get] using f14,by simpa [Fr.get] using f13,by simpa [Fr.get] using f12,by simpa [Fr.get] using f0,by simpa [Fr.get] using f1,h0,hdv.ext (Zaa.Ext.refl _).bump,kd.bump k1⟩ ?_ ?_
  ·clear h0 hdv kd f14 f13 f12 f0 f1
   rintro j F G hj ⟨f21,f20,f7,f14,f13,f12,f0,f1,h0,hdv,kd⟩
   have gP:=kd.g _ _ (dkP _) g
   have zj:(0:Int)<=(j:Int):=Xa
   have hjl:2 * k+j<L.length:=Xa
   have hq:L[2 * k+j]?=some (2+2 * (n:Int)+(j:Int),if j=0 then s.take 128 else s.drop 128):=by
    rcases zbh.1 hj with hj0|rfl
    ·obtain rfl:j=0:=Xa
     exact g1.trans Xc
    ·exact g2.trans Xc
   have hgt1:L[2 * k+j]=(2+2 * (n:Int)+(j:Int),if j=0 then s.take 128 else s.drop 128):=by
    rw[zab hjl]at hq
    injection hq
   have hix:([eS (s.take 128),eS (s.drop 128)]:List AV)[j]?=some (eS (if j=0 then s.take 128 else s.drop 128)):=by
    rcases zbh.1 hj with hj0|rfl
    ·obtain rfl:j=0:=Xa
     rfl
    ·rfl
   have hbp:=ZMV (L.take (2 * k+j)) d
   rw[zaj]at hbp
   have hw:=fun(K:Zaa) (hK:DvX D (d.ZL4 (L.take (2 * k+j))).1 K)=>ZNf hK Xa (2+2 * (n:Int)+(j:Int)) (if j=0 then s.take 128 else s.drop 128)
   have hst:=ZRV hjl h0
   rw[hgt1]at hst
   simp only at hst
   rw[<- hst]at hw
   have w1:IntKind.i64.wrap (2+2 * (n:Int)+(j:Int))=2+2 * (n:Int)+(j:Int):=Zaw Xa Xa
   have zj2:((j:Int)<((2:Nat):Int))=True:=by simp;omega
   generalize (if j=0 then s.take 128 else s.drop 128)=h at *
   generalize ([eS (s.take 128),eS (s.drop 128)]:List AV)=ag at *
   by_cases he:(d.ZL4 (L.take (2 * k+j+1))).2=0
   ·have d1:((d.ZL4 (L.take (2 * k+j+1))).2 != 0)=false:=by rw[he];rfl
    skip
    ((have hd:=tv;repeat' first|(first|apply Zad|apply Zac|apply Zab)<;>intro hd<;>try simp only[hd]|simp(disch:=first|assumption|omega|simp only[nx]<;>omega|fail)only[hd,qr,qn,ZqY,↓YA,YY,↓reduceIte,Nat.reduceEqDiff,Nat.reduceAdd,Nat.reduceMul,Nat.reduceLeDiff,Int.reduceToNat,Int.reduceLE,Int.reduceLT,Int.reduceGT,Int.reduceGE,Int.reduceAdd,Int.reduceSub,Int.reduceNeg,Int.reduceBEq,Int.reduceBNe,f21,f20,f7,f14,f13,f12,f0,f1,zj,zj2,hj,hix,gP,z0,hr2,Int.toNat_natCast])<;>try revert hd;refine ttr ?_)
    refine qcp (hf _) fun k2=>?_
    refine Bz1 (X10 gP w1 f21 f20 f7 f14 f13 f12 f0 f1) ?_
    refine Zap.use (hw _ (hdv.ext (Zaa.Ext.refl _).bump)) ?_
    rintro _ G2 ⟨rfl,q1,q2⟩
    ((have hd:=tv;repeat' first|(first|apply Zad|apply Zac|apply Zab)<;>intro hd<;>try simp only[hd]|simp(disch:=first|assumption|omega|simp only[nx]<;>omega|fail)only[hd,qr,qn,ZqY,↓YA,YY,↓reduceIte,Nat.reduceEqDiff,Nat.reduceAdd,Nat.reduceMul,Nat.reduceLeDiff,Int.reduceToNat,Int.reduceLE,Int.reduceLT,Int.reduceGT,Int.reduceGE,Int.reduceAdd,Int.reduceSub,Int.reduceNeg,Int.reduceBEq,Int.reduceBNe,f21,f20,f7,f14,f13,f12,f0,f1,d1])<;>try revert hd;refine ttr ?_)
    exact⟨he,q1,(kd.bump k2).trans q2⟩
   ·have d1:((d.ZL4 (L.take (2 * k+j+1))).2 != 0)=true:=by simpa using he
    have hall:=ZR2 (L:=L) (2 * k+j+1) he
    skip
    ((have hd:=tv;repeat' first|(first|apply Zad|apply Zac|apply Zab)<;>intro hd<;>try simp only[hd]|simp(disch:=first|assumption|omega|simp only[nx]<;>omega|fail)only[hd,qr,qn,ZqY,↓YA,YY,↓reduceIte,Nat.reduceEqDiff,Nat.reduceAdd,Nat.reduceMul,Nat.reduceLeDiff,Int.reduceToNat,Int.reduceLE,Int.reduceLT,Int.reduceGT,Int.reduceGE,Int.reduceAdd,Int.reduceSub,Int.reduceNeg,Int.reduceBEq,Int.reduceBNe,f21,f20,f7,f14,f13,f12,f0,f1,zj,zj2,hj,hix,gP,z0,hr2,Int.toNat_natCast])<;>try revert hd;refine ttr ?_)
    refine qcp (hf _) fun k2=>?_
    refine Bz1 (X10 gP w1 f21 f20 f7 f14 f13 f12 f0 f1) ?_
    refine Zap.use (hw _ (hdv.ext (Zaa.Ext.refl _).bump)) ?_
    rintro _ G2 ⟨rfl,q1,q2⟩
    ((have hd:=tv;repeat' first|(first|apply Zad|apply Zac|apply Zab)<;>intro hd<;>try simp only[hd]|simp(disch:=first|assumption|omega|simp only[nx]<;>omega|fail)only[hd,qr,qn,ZqY,↓YA,YY,↓reduceIte,Nat.reduceEqDiff,Nat.reduceAdd,Nat.reduceMul,Nat.reduceLeDiff,Int.reduceToNat,Int.reduceLE,Int.reduceLT,Int.reduceGT,Int.reduceGE,Int.reduceAdd,Int.reduceSub,Int.reduceNeg,Int.reduceBEq,Int.reduceBNe,f21,f20,f7,f14,f13,f12,f0,f1,d1])<;>try revert hd;refine ttr ?_)
    exact Zaq ⟨by rw[hall],by rw[hall];exact q1,(kd.bump k2).trans q2⟩
  ·clear h0 hdv kd f14 f13 f12 f0 f1
   rintro F G ⟨f21,f20,f7,f14,f13,f12,f0,f1,h0,hdv,kd⟩
   skip
   refine Bz1 (X5 f14 f13 f12 f0 f1) ?_
   exact⟨h0,hdv,kd⟩
 ·rintro F G ⟨f14,f13,f12,f0,f1,h0,hdv,kd⟩
  rw[zav Xa]at h0 hdv
  skip
  refine Bz0 ?_
  refine Zaq ⟨?_,hdv,kd⟩
  rw[h0]
end
open Go.RowKit Go.Lib
theorem ZMM (c n:Int) (H:Zaa) (h1:0<=c/\c<=9223372036854775807) (h2:0<=n/\n<=9223372036854775807):Zay Tryz.prog 46 [.i c,.i n] H (Pure H (.i (ZMh c n))):=by
 have hx0:Zaa.Ext H H:=.refl _
 have a1:=fun K=>ZLZ c K Xa Xa
 have a2:=fun K=>ZLZ n K Xa Xa
 have b1:0<=ZLU c/\ZLU c<=40000000000000000:=by unfold ZLU;split<;>omega
 have b2:0<=ZLU n/\ZLU n<=40000000000000000:=by unfold ZLU;split<;>omega
 unfold ZMh
 generalize ZLU c=x at *
 generalize ZLU n=y at *
 have w1:IntKind.i64.wrap (x+y)=x+y:=Zaw Xa Xa
 have a3:=fun K=>ZMj (x+y) K Xa Xa
 have b3:0<=ZL3 (x+y)/\ZL3 (x+y)<=1000000000000000:=by unfold ZL3;split<;>omega
 generalize ZL3 (x+y)=z at *
 have w2:IntKind.i64.wrap (x+y+z)=x+y+z:=Zaw Xa Xa
 refine fnQ cf46 fun Q qr qn=>?_
 refine Bz0 ?_
 refine qcp (a1 _) fun k1=>?_
 refine Bz0 ?_
 refine qcp (a2 _) fun k2=>?_
 refine Bz1 (X1 w1) ?_
 refine qcp (a3 _) fun k3=>?_
 refine Bz1 (X1 w2) ?_
 exact Zcm rfl
theorem ZPW:∀(l:List Tx) (i:Nat),(ZNx i l).length=l.length
 | [],_=>rfl
 | s :: l,i=>by rw[ZNx,List.length_cons,ZPW l,List.length_cons]
theorem ZSx:∀(l m:List Tx) (i:Nat),ZNx i (l++m)=ZNx i l++ZNx (i+l.length) m
 | [],m,i=>by simp[ZNx]
 | s :: l,m,i=>by rw[List.cons_append,ZNx,ZNx,ZSx l,List.cons_append,List.length_cons,show i+1+l.length=i+(l.length+1) by omega]
theorem map_take (l:List Tx) {k:Nat} (hk:k<l.length):ZNx 0 (l.take (k+1))=ZNx 0 (l.take k)++[pgP 77 k l[k]]:=by
 rw[zas hk,ZSx,zaj,zaP (Nat.le_of_lt hk),zax]
 rfl
theorem ZCe.ext {b:Nat} {G K:Zaa} {E:TypeId} {sz n:Nat} {t:Tok} (h:ZCe b G E sz n t) (k:Zaa.Ext G K):ZCe b K E sz n t:=by
 rcases h with h|⟨i,h1,h2,h3⟩
 ·exact .inl h
 ·exact .inr ⟨i,h1,h2,k.get _ _ h3⟩
theorem ZNQ (l:List Tx):ZaE 1 (rS l)=true:=ZaU (f:=fun s:Tx=>[eS s]) (sz:=1) (fun _=>rfl) _
def PagV (data maps:List Tx) (H:Zaa) (r:AV) (G:Zaa):Prop:=Zaa.Ext H G/\∃t1 t2,r=.tup [.sl t1 (rS data),.sl t2 (rS maps),.i 0]
def pv2:Zar:=rr 63 [.M 11,.M 12,.a 9 1 16 64 65,.M 9,.m 8 66,.s 9,.j 10 0]
def pv1:Zar:=.seq (rs 42 [.R 13,.J 0]<|c66_1)<|pv2
set_option maxRecDepth 100000 in
theorem pv_split:ZlH=.seq (.reg [io 8 (.mv jn),io 9 (.mv jn),jm 10 0]) (.seq (.reg [im 19 0,io 20 (.call (jf 112) [.c (.sc (.int .u8 67)),ik 0,.t 19]),im 18 20,io 21 (.ext (.t 18) 0),io 22 (.ext (.t 18) 1),im 11 21,im 10 22]) (.seq (.seq (.reg [im 23 10,io 24 (.bin .neq (.t 23) (ik 0))]) (.cond (.t 24) (.seq (.reg [im 25 10,io 8 (.mv jn),io 9 (.mv jn),im 10 25]) .ret) .skip)) (.seq (.reg [im 27 1,io 28 (.call (jf 112) [.c (.sc (.int .u8 78)),ik 0,.t 27]),im 26 28,io 29 (.ext (.t 26) 0),io 30 (.ext (.t 26) 1),im 12 29,im 10 30]) (.seq (.seq (.reg [im 31 10,io 32 (.bin .neq (.t 31) (ik 0))]) (.cond (.t 32) (.seq (.reg [im 33 10,io 8 (.mv jn),io 9 (.mv jn),im 10 33]) .ret) .skip)) (.seq (.reg [im 35 2,im 36 3,io 37 (.call (jf 113) [.t 35,.t 36]),im 34 37,io 38 (.ext (.t 34) 0),io 39 (.ext (.t 34) 1),im 13 38,im 10 39]) (.seq (.seq (.reg [im 40 10,io 41 (.bin .neq (.t 40) (ik 0))]) (.cond (.t 41) (.seq (.reg [im 42 10,io 8 (.mv jn),io 9 (.mv jn),im 10 42]) .ret) .skip)) pv1)))))):=rfl
section
variable {H G:Zaa} {F:Fr} {Q:AEx->Fr->Zaa->Prop} {a b m:List Tx} {t1 t2 t3:Tok}
theorem ZSi (qr:ZNG Q [.tmp 8,.tmp 9,.tmp 10] (PagV (a++b) m H)) (f11:Fr.get F 11=.sl t1 (rS a)) (f12:Fr.get F 12=.sl t2 (rS b)) (f9:Fr.get F 9=.sl t3 (rS m)) (hx:Zaa.Ext H G) (hT:ZCe H.next G 9 1 a.length t1) (ha:a.length<=1000000) (hb:b.length<=1000000):AW Tryz.prog pv2 Q F G:=by
 have qn:=trivial
 have la:=ZNQ a
 have lb:=ZNQ b
 have ra:(rS a).length=a.length:=Xc
 have rb:(rS b).length=b.length:=Xc
 have m1:a.length+b.length<=maxLen:=by unfold maxLen;omega
 have m2:(a.length+b.length) * 16<=140737488355328:=Xa
 have hap:rS a++rS b=rS (a++b):=Xc
 rcases hT with rfl|⟨i,hi,rfl,hg⟩
 ·cases b with
  | nil =>
   rw[zaI]at qr
   have m1:a.length<=maxLen:=m1
   have m2:a.length * 16<=140737488355328:=m2
   have f12:Fr.get F 12=.sl t2 []:=f12
   have lb:ZaE 1 ([]:List (List AV))=true:=rfl
   unfold pv2
   refine Bz1 (X8 f11 f12 f9 la lb ra m1 m2) ?_
   exact Zaq ⟨hx,.full,t3,rfl⟩
  | cons x b =>
   have hcons:rS (x :: b)=[eS x] :: rS b:=rfl
   have rb:(rS b).length=b.length:=Xc
   have m1:a.length+(b.length+1)<=maxLen:=m1
   have m2:(a.length+(b.length+1)) * 16<=140737488355328:=m2
   rw[hcons]at f12 lb hap
   generalize rS b=rb0 at *
   generalize b.length=bl at *
   unfold pv2
   refine Bz5 (X10 f11 f12 f9 la lb ra rb m1 m2 hap) ?_
   exact Zaq ⟨by exact AXT,_,t3,rfl⟩
 ·have hil:=Zaa.lt hg
  unfold pv2
  refine Bz1 (X11 f11 f12 f9 la lb ra rb m1 m2 hap hg) ?_
  exact Zaq ⟨by exact AXT,_,t3,rfl⟩
theorem ZSh {ps:List Tx} (qr:ZNG Q [.tmp 8,.tmp 9,.tmp 10] (PagV (a++b) (ZNx 0 ps) H)) (f11:Fr.get F 11=.sl t1 (rS a)) (f12:Fr.get F 12=.sl t2 (rS b)) (f9:Fr.get F 9=.sl .full []) (f13:Fr.get F 13=.sl t3 (rS ps)) (hx:Zaa.Ext H G) (hT:ZCe H.next G 9 1 a.length t1) (ha:a.length<=1000000) (hb:b.length<=1000000) (hps:ps.length<=1000000) (hpl:∀s∈ps,s.length<=246):AW Tryz.prog pv1 Q F G:=by
 have qn:=trivial
 have rp:(rS ps).length=ps.length:=Xc
 unfold pv1
 refine Bz1 (X2 f13 rp) ?_
 refine ZbJ (N:=ps.length) (fun k F K=>Fr.get F 45=.i (k:Int)/\Fr.get F 44=.i (ps.length:Int)/\Fr.get F 43=.sl t3 (rS ps)/\Fr.get F 11=.sl t1 (rS a)/\Fr.get F 12=.sl t2 (rS b)/\Fr.get F 9=.sl (.own G.next) (rS (ZNx 0 (ps.take k)))/\K.get G.next=some (.tok k 9 1)/\Zaa.Ext H K/\Zaa.Ext G K) Xd (fun k F G h=>⟨h.1,h.2.1⟩) ((GStep.tok 9 9 1 (by simpa [Fr.get] using f9))) ⟨rfl,rfl,rfl,by simpa [Fr.get,Fr.put] using f11,by simpa [Fr.get,Fr.put] using f12,rfl,Zaa.Zat rfl,by exact AXT,by exact AXT⟩ ?_ ?_
 ·clear f11 f12 f9 f13
  rintro k F K hk ⟨f45,f44,f43,f11,f12,f9,hg,hxk,hxg⟩
  have z0:(0:Int)<=(k:Int):=Xa
  have hr:(rS ps)[k]?=some [eS ps[k]]:=by simp[hk]
  have hput:=fun L=>ZOq 77 k ps[k] L rfl Xa (hpl _ (zau hk))
  have hmt:=map_take ps hk
  have hml:(ZNx 0 (ps.take k)).length=k:=by rw[ZPW,zaj];omega
  have hsn:=ZQO (ZNx 0 (ps.take k)) (pgP 77 k ps[k])
  rw[<- hmt]at hsn
  have hal:=ZNQ (ZNx 0 (ps.take k))
  have hal2:ZaE 1 [[eS (pgP 77 k ps[k])]]=true:=rfl
  have hrl:(rS (ZNx 0 (ps.take k))).length=k:=by rw[zam,hml]
  have m1:k+1<=maxLen:=by unfold maxLen;omega
  have m2:(k+1) * 16<=140737488355328:=Xa
  have lK:=Zaa.lt hg
  have hHG:=hx.next
  have n0:((0:Int) != 0)=false:=rfl
  clear hmt hml
  generalize hR1:rS (ZNx 0 (ps.take (k+1)))=R1 at hsn
  generalize rS (ZNx 0 (ps.take k))=R0 at *
  generalize pgP 77 k ps[k]=pg at *
  generalize ps[k]=s at *
  skip
  refine Bz1 (X8 f45 f44 f43 f11 f12 f9 z0 hr) ?_
  refine qcp (hput _) fun k2=>?_
  refine Bz1 (X12 f45 f44 f43 f11 f12 f9 n0 hg hsn hal hal2 (X3 hrl m1 m2)) ?_
  exact⟨by rw[hR1],by exact AXT,by exact AXT⟩
 ·clear f11 f12 f9 f13
  rintro F K ⟨f45,f44,f43,f11,f12,f9,hg,hxk,hxg⟩
  rw[zaz]at f9
  exact ZSi qr (by simpa [Fr.get] using f11) (by simpa [Fr.get] using f12) (by simpa [Fr.get] using f9) hxk (hT.ext hxg) ha hb
end
theorem ZQd (k:UInt8):∀(m first:Nat) (s:Tx),(ZNE k first m s).length<=m
 | 0,_,_=>by simp[ZNE]
 | m+1,first,s=>by
  unfold ZNE
  split
  ·simp
  ·have:=ZQd k m (first+1) (s.drop 246)
   rw[List.length_cons]
   omega
theorem ZPZ (own:List Int):∀(m i:Nat) (l:List Int),(ZPB own m i l).length=m
 | 0,_,_=>rfl
 | m+1,i,l=>by rw[ZPB,List.length_cons,ZPZ]
theorem ZSF (own:List Int):∀(m i:Nat) (l:List Int),∀s∈ZPB own m i l,s.length<=246
 | 0,_,_,s,hs=>by cases hs
 | m+1,i,l,s,hs=>by
  rw[ZPB]at hs
  rcases zay.1 hs with rfl|hs
  ·rw[ZOY,zaj];omega
  ·exact ZSF own m (i+1) _ s hs
theorem ZPu (t1 t2:Tok) (c n:Tx) (own list:List Int) (H:Zaa) (hc:c.length<=900000) (hn:n.length<=900000) (hl:list.length<=100000) (ho:(own.length:Int)=ZL3 list.length) (h1:∀x∈own,0<=x/\x<=2046) (h2:∀x∈list,0<=x/\x<=2046):Zay Tryz.prog 66 [eS c,eS n,.sl t1 (rI own),.sl t2 (rI list)] H (PagV (ZMF c n) (ZM2 own list) H):=by
 have s1:=fun K=>ZEV 67 0 c K rfl Xa
 have s2:=fun K=>ZEV 78 0 n K rfl Xa
 have s3:=fun K=>ZRc t1 t2 own list K hl ho h1 h2
 have hol:own.length<=100000:=by
  have:ZL3 list.length<=list.length:=by unfold ZL3;split<;>omega
  omega
 have l1:=ZQd 67 c.length 0 c
 have l2:=ZQd 78 n.length 0 n
 have l3:=ZPZ own own.length 0 list
 have l4:=ZSF own own.length 0 list
 have n0:((0:Int) != 0)=false:=rfl
 unfold ZM2 ZMF
 generalize ZNE 67 0 c.length c=a at *
 generalize ZNE 78 0 n.length n=b at *
 generalize ZPB own own.length 0 list=ps at *
 refine fnQ cf66 fun Q qr qn=>?_
 rw[pv_split]
 refine Bz0 ?_
 refine Zap.use (s1 _) ?_
 rintro _ G1 ⟨x1,k1,rfl,hT⟩
 refine Bz1 (X1 n0) ?_
 refine Zap.use (s2 _) ?_
 rintro _ G2 ⟨x2,k2,rfl,_⟩
 refine Bz1 (X1 n0) ?_
 refine Zap.use (s3 _) ?_
 rintro _ G3 ⟨x3,k3,rfl,_⟩
 refine Bz1 (X1 n0) ?_
 exact ZSh qr rfl rfl rfl rfl ((x1.trans x2).trans x3) ((hT.ext x2).ext x3) Xa Xa Xa l4
end Go.Proofs.YtfjjpndoeppbhaaGreatDoor
