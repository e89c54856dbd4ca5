/- Texts of the walk. -/
import Derived.Test.YtemmgefppobboaaGreatDoorMv
namespace Go.Proofs.YtemmgefppobboaaGreatDoor
set_option linter.defProp false
set_option linter.unusedSimpArgs false
set_option linter.unusedVariables false
open Go.RowKit Go.Lib
def ZDZ:Zar:=rd 137 [.F 0 3,.M 6,.x 2 139 140,.F 1 141,.L 3 10,.O (.ixa 3 (.t 143) (ik 0)),.Z 3 145 144]
def ZDm:Zar:=ri 104 [.R 7,.B .eql 106 2,.y 107,.F 0 3,.M 6,.x 2 110 111,.N 1 112,.B .gtr 115 1,.z] 117 (.drw [ip (io 118 (.bsl 1 [])),ip (io 119 (.fla 2 (.t 10))),ip (io 120 (.ld 1 false (.t 119))),ip (io 122 (.fla 0 (.t 3))),ip (io 123 (.ld 1 false (.t 122))),ip (im 124 6),ip (io 125 (.ixa 2 (.t 123) (.t 124))),ip (io 126 (.fla 1 (.t 125))),ip (io 127 (.ld 1 false (.t 126))),ip (io 128 (.ixa 3 (.t 127) (ik 1))),ip (io 129 (.fla 1 (.t 128))),ip (io 130 (.ld 1 false (.t 129))),ip (im 131 7),ip (io 132 (.ixa 1 (.t 131) (ik 1))),ip (io 133 (.ld 1 false (.t 132))),(io 121 (.app 3 1 8 (.t 118) (.t 120)),[io 123 (.ld 1 false (.t 122)),io 127 (.ld 1 false (.t 126)),io 130 (.ld 1 false (.t 129)),io 133 (.ld 1 false (.t 132))]),ip (io 134 (.call (jf 80) [.t 130,.t 133])),ip (io 135 (.bsl 1 [.t 134])),ip (io 136 (.app 3 1 8 (.t 121) (.t 135))),ip (io 137 (.fla 2 (.t 10))),ip (iz (.st 1 (.t 137) (.t 136)))])<|ZDZ
def ZC1:Zar:=rs 96 [.O (.bsl 1 []),.F 1 10,.a 9 1 16 97 99,.M 8,.A 9 1 16 100 101,.f 1 10,.Z 1 104 103]<|ZDm
theorem so_split:v50_1=.blk 0 (.loop (.seq (.reg [io 14 (.bin .lss (.t 13) (.t 12))]) (.seq (.cond (.t 14) .skip (.exit 0)) (.seq (.blk 1 (.seq (.reg [io 15 (.ixa 1 (.t 11) (.t 13)),io 16 (.ld 1 false (.t 15)),im 5 16]) (.seq (.seq (.reg [im 17 5,io 18 (.len true (.t 17)),io 19 (.bin .eql (.t 18) (ik 0))]) (.cond (.t 19) (.exit 1) .skip)) (.seq (.reg [io 20 (.fla 0 (.t 3)),io 21 (.ld 1 false (.t 20)),io 22 (.len false (.t 21)),io 23 (.bin .sub (.t 22) (ik 1)),im 6 23]) (.seq (.reg [im 24 5,io 25 (.ixs (.t 24) (ik 0))]) (.blk 2 (.seq (.reg [io 27 (.bin .eql (.t 25) (.c (.sc (.int .u8 64)))),im 26 27]) (.cond (.t 26) (.drw [ip (io 28 (.fla 0 (.t 3))),ip (io 29 (.ld 1 false (.t 28))),ip (im 30 5),ip (io 31 (.slS (.t 30) (some (ik 1)) none)),ip (io 32 (.bld [.sc (.string ⟨#[]⟩),.sl .full []] [(0,(1,.t 31))])),(io 33 (.bsv 100 2 [.t 32]),[io 29 (.ld 1 false (.t 28))]),ip (io 34 (.apv 100 2 40 [.sc (.string ⟨#[]⟩),.sl .full []] (.t 29) (.t 33))),ip (io 35 (.fla 0 (.t 3))),ip (iz (.st 1 (.t 35) (.t 34)))]) (.seq (.reg [io 37 (.bin .eql (.t 25) (.c (.sc (.int .u8 43)))),im 36 37]) (.cond (.t 36) (.drw [ip (io 38 (.fla 1 (.t 3))),ip (io 39 (.ld 1 false (.t 38))),ip (im 40 5),ip (io 41 (.slS (.t 40) (some (ik 1)) none)),ip (io 42 (.bsl 1 [.t 41])),ip (io 43 (.app 9 1 16 (.t 39) (.t 42))),ip (io 44 (.fla 1 (.t 3))),ip (iz (.st 1 (.t 44) (.t 43)))]) (.seq (.reg [io 46 (.bin .eql (.t 25) (.c (.sc (.int .u8 94)))),im 45 46]) (.cond (.t 45) (.seq (.reg [im 47 6,io 48 (.bin .geq (.t 47) (ik 0))]) (.cond (.t 48) (.drw [ip (io 49 (.fla 0 (.t 3))),ip (io 50 (.ld 1 false (.t 49))),ip (im 51 6),ip (im 52 5),ip (io 53 (.slS (.t 52) (some (ik 1)) none)),ip (io 54 (.bld [.sc (.string ⟨#[]⟩),.sl .full [],.sl .full []] [(0,(1,.t 53))])),ip (io 56 (.fla 0 (.t 3))),ip (io 57 (.ld 1 false (.t 56))),ip (im 58 6),ip (io 59 (.ixa 2 (.t 57) (.t 58))),ip (io 60 (.fla 1 (.t 59))),ip (io 61 (.ld 1 false (.t 60))),(io 55 (.bsv 102 3 [.t 54]),[io 50 (.ld 1 false (.t 49)),io 57 (.ld 1 false (.t 56)),io 61 (.ld 1 false (.t 60))]),(io 62 (.apv 102 3 64 [.sc (.string ⟨#[]⟩),.sl .full [],.sl .full []] (.t 55) (.t 61)),[io 50 (.ld 1 false (.t 49))]),ip (io 63 (.ixa 2 (.t 50) (.t 51))),ip (io 64 (.fla 1 (.t 63))),ip (iz (.st 1 (.t 64) (.t 62)))]) .skip)) (.seq (.reg [io 66 (.bin .eql (.t 25) (.c (.sc (.int .u8 46)))),im 65 66]) (.cond (.t 65) (.seq (.seq (.reg [im 67 6,io 68 (.bin .lss (.t 67) (ik 0)),im 69 68,ih 69 70 (.fla 0 (.t 3)),ih 69 71 (.ld 1 false (.t 70)),ih 69 72 (.mv (.t 6)),ih 69 73 (.ixa 2 (.t 71) (.t 72)),ih 69 74 (.fla 1 (.t 73)),ih 69 75 (.ld 1 false (.t 74)),ih 69 76 (.len false (.t 75)),ih 69 77 (.bin .eql (.t 76) (ik 0)),io 78 (.pick (.t 69) (ib true) (.t 77))]) (.cond (.t 78) (.exit 1) .skip)) (.seq (.reg [im 79 5,io 80 (.slS (.t 79) (some (ik 1)) none),io 81 (.call (jf 28) [.t 80,.c (.sc (.int .u8 62))]),im 7 81]) (.seq (.reg [im 83 7,io 84 (.ixa 1 (.t 83) (ik 0)),io 85 (.ld 1 false (.t 84)),io 86 (.call (jf 9) [.t 85]),im 82 86,io 87 (.ext (.t 82) 0),io 88 (.ext (.t 82) 1),im 8 87,im 9 88]) (.seq (.reg [io 89 (.fla 0 (.t 3)),io 90 (.ld 1 false (.t 89)),im 91 6,io 92 (.ixa 2 (.t 90) (.t 91)),io 93 (.fla 1 (.t 92)),io 94 (.ld 1 false (.t 93)),io 95 (.ixa 3 (.t 94) (ik 0)),io 96 (.ld 3 true (.t 95)),io 10 (.box 102 (.c zvd0)),iz (.st 3 (.t 10) (.t 96))]) ZC1)))) .skip)))))))))))))) (.reg [io 146 (.bin .add (.t 13) (ik 1)),im 13 146]))))):=rfl
def KpO (T i10:Nat) (H G:Zaa):Prop:=H.next<=G.next/\∀i o,i≠T->i≠i10->H.get i=some o->G.get i=some o
theorem KpO.trans {T i10:Nat} {H G K:Zaa} (h:KpO T i10 H G) (k:KpO T i10 G K):KpO T i10 H K:=⟨zbd h.1 k.1,fun i o h1 h2 h3=>k.2 i o h1 h2 (h.2 i o h1 h2 h3)⟩
structure FrO (F:Fr) (is i2 i10 n:Nat) (tw:Tok) (l:List Tx) (k:Nat) (ps:List Tx):Prop where
 f2:Fr.get F 2=.ptr i2 0
 f3:Fr.get F 3=.ptr is 0
 f6:Fr.get F 6=.i (n:Int)
 f7:Fr.get F 7=.sl .no (rS ps)
 f10:Fr.get F 10=.ptr i10 0
 f11:Fr.get F 11=.sl tw (rS l)
 f12:Fr.get F 12=.i (l.length:Int)
 f13:Fr.get F 13=.i (k:Int)
structure LsO (G:Zaa) (is D T cap capT:Nat) (tm:AV) (rows:List (List AV)) (nm:Tx) (tail rest:List AV) (t:Tir) (t1 t2:Tok) (m:Nat):Prop where
 gs:G.get is=some (.cells [.arr D 0 (rows.length+1) cap,tm] 76)
 gD:G.get D=some (.cells ((rows++[[eS nm,.arr T 0 m capT]]).flatten++tail) 100)
 hrt:∀r∈rows,r.length=2
 hnc:((rows++[[eS nm,.arr T 0 m capT]]).flatten++tail).length=cap * 2/\rows.length+1<=cap
 gT:G.get T=some (.cells (trC t t1 t2++rest) 102)
theorem LsO.keep {G G':Zaa} {is D T i10 cap capT:Nat} {tm:AV} {rows:List (List AV)} {nm:Tx} {tail rest:List AV} {t:Tir} {t1 t2:Tok} {m:Nat} (h:LsO G is D T cap capT tm rows nm tail rest t t1 t2 m) (hk:∀i o,i≠i10->G.get i=some o->G'.get i=some o) (h1:is≠i10) (h2:D≠i10) (h3:T≠i10):LsO G' is D T cap capT tm rows nm tail rest t t1 t2 m :=
 ⟨hk _ _ h1 h.gs,hk _ _ h2 h.gD,h.hrt,h.hnc,hk _ _ h3 h.gT⟩
set_option maxHeartbeats 16000000 in
theorem ZCL {Q:AEx->Fr->Zaa->Prop} {F:Fr} {G:Zaa} {is i2 i10 D T cap capT m k:Nat} {tw t1 t2 s1 s2:Tok} {l ps:List Tx} {tm:AV} {rows:List (List AV)} {nm:Tx} {tail rest:List AV} {t t':Tir} (hF:FrO F is i2 i10 rows.length tw l k ps) (hL:LsO G is D T cap capT tm rows nm tail rest t t1 t2 m) (hm:0<m)
  (g10:G.get i10=some (.cells (trC t' s1 s2) 102)) (hne:T≠i10) (hn:rows.length<=5000)
  (hQ:∀F' G',FrO F' is i2 i10 rows.length tw l k ps->G'.get T=some (.cells (trC t' s1 s2++rest) 102)->KpO T i10 G G'->Q .normal F' G'):AW Tryz.prog ZDZ Q F G:=by
 have qr:=trivial
 have qn:=trivial
 obtain⟨f2,f3,f6,f7,f10,f11,f12,f13⟩:=hF
 obtain⟨gs,gD,hrt,hnc,gT⟩:=hL
 have lT:=Zaa.lt gT
 have i1:(0:Int)<=(rows.length:Int):=by omega
 have i2':((rows.length:Nat):Int)<((rows.length+1:Nat):Int):=by omega
 have i3:(((rows.length:Nat):Int)).toNat=rows.length:=by omega
 have i4:(0:Int)<((m:Nat):Int):=by omega
 have z0:(0:Int)<=0:=za9 _
 have ga:=get_at (rows:=rows) (x:=eS nm) (y:=.arr T 0 m capT) (tail:=tail) hrt
 have tk3:(trC t' s1 s2).take 3=trC t' s1 s2:=rfl
 have tl3:(trC t' s1 s2).length=3:=rfl
 have sp:splice (trC t t1 t2++rest) 0 (trC t' s1 s2)=trC t' s1 s2++rest:=rfl
 have gl:3<=(trC t t1 t2++rest).length:=by simp
 have gl2:0+3<=(trC t t1 t2++rest).length:=by simp
 generalize trC t t1 t2++rest=C0 at *
 generalize hR:trC t' s1 s2=R0 at *
 unfold ZDZ
 ((have hd:=tv;repeat' first|(first|apply Zad|apply Zac|apply Zab)<;>intro hd<;>try simp only[hd]|simp(disch:=first|assumption|omega|simp only[nx]<;>omega|fail)only[hd,qr,qn,ZBp,↓YA,YY,sevalprocAttr,f2,f3,f6,f7,f10,f11,f12,f13,gs,gD,gT,g10,i1,i2',i3,i4,z0,ga,tk3,tl3,sp,gl,gl2])<;>try revert hd;refine ttr ?_)
 exact hQ _ _ ⟨f2,f3,f6,f7,f10,f11,f12,f13⟩ (Zaa.Zal lT) ⟨zae _,fun i o h1 _ h=>by rw[Zaa.Zah h1];exact h⟩
set_option maxHeartbeats 16000000 in
theorem ZGu {Q:AEx->Fr->Zaa->Prop} {F:Fr} {G:Zaa} {is i2 i10 D T cap capT k:Nat} {tw t1 t2 s1:Tok} {l ps:List Tx} {tm:AV} {rows:List (List AV)} {nm:Tx} {tail tl:List AV} {t t':Tir} {q:List Tir} {rowsQ:List (List AV)} (hF:FrO F is i2 i10 rows.length tw l k ps) (hL:LsO G is D T cap capT tm rows nm tail (rowsQ.flatten++tl) t t1 t2 (q.length+1)) (hRQ:ZBQ rowsQ q)
  (g10:G.get i10=some (.cells (trC t' s1 t2) 102)) (h1:is≠i10) (h2:D≠i10) (h3:T≠i10) (hn:rows.length<=5000) (hup:t'.up.length<=100000) (hq:∀u∈q,u.terms.length<=100000) (hps:∀p∈ps,p.length<=100000) (hpl:ps.length<=100000) (hql:q.length<=100000)
  (hQ:∀F' G' s1 s2,FrO F' is i2 i10 rows.length tw l k ps->G'.get T=some (.cells (trC { t' with up:=t'.up++ZFU q ps } s1 s2++(rowsQ.flatten++tl)) 102)->KpO T i10 G G'->Q .normal F' G'):AW Tryz.prog ZDm Q F G:=by
 have qr:=trivial
 have qn:=trivial
 have hF':=hF
 obtain⟨f2,f3,f6,f7,f10,f11,f12,f13⟩:=hF
 have hL':=hL
 obtain⟨gs,gD,hrt,hnc,gT⟩:=hL
 have l10:=Zaa.lt g10
 have i1:(0:Int)<=(rows.length:Int):=by omega
 have i2':((rows.length:Nat):Int)<((rows.length+1:Nat):Int):=by omega
 have i3:(((rows.length:Nat):Int)).toNat=rows.length:=by omega
 have ga:=get_at (rows:=rows) (x:=eS nm) (y:=.arr T 0 (q.length+1) capT) (tail:=tail) hrt
 by_cases hp:ps.length=2
 ·have d2:(((ps.length:Nat):Int) == 2)=true:=by rw[hp];rfl
  cases q with
  | nil =>
   have d3:decide ((((0+1:Nat)):Int) > 1)=false:=rfl
   have hu:ZFU [] ps=[]:=by
    match ps with
    | []=>rfl
    | [_]=>rfl
    | [_,_]=>rfl
    | _ :: _ :: _ :: _=>rfl
   have ga':((rows++[[eS nm,.arr T 0 1 capT]]).flatten++tail)[rows.length * 2+1]?=some (.arr T 0 1 capT):=ga
   have d3':decide (((1:Nat):Int) > 1)=false:=rfl
   rw[hu]at hQ
   have hQ2:∀F' G' s1 s2,FrO F' is i2 i10 rows.length tw l k ps->G'.get T=some (.cells (trC t' s1 s2++(rowsQ.flatten++tl)) 102)->KpO T i10 G G'->Q .normal F' G':=by
    intro F' G' a b x y z
    exact hQ F' G' a b x (by rw[zaB];exact y) z
   unfold ZDm
   ((have hd:=tv;repeat' first|(first|apply Zad|apply Zac|apply Zab)<;>intro hd<;>try simp only[hd]|simp(disch:=first|assumption|omega|simp only[nx]<;>omega|fail)only[hd,qr,qn,ZBp,↓YA,YY,sevalprocAttr,f2,f3,f6,f7,f10,f11,f12,f13,gs,gD,gT,i1,i2',i3,ga,ga',d2,d3,d3',zar,List.length_nil])<;>try revert hd;refine ttr ?_)
   exact ZCL ⟨f2,f3,f6,f7,f10,f11,f12,f13⟩ hL' (by simp) g10 h3 hn fun F' G' x y z=>hQ2 F' G' _ _ x y z
  | cons u q =>
   obtain⟨u1,u2,rest,rfl⟩:=hRQ.head
   match ps,hp with
   | [pa,pb],_ =>
    have d3:decide ((((q.length+1+1:Nat)):Int) > 1)=true:=by simp only[decide_eq_true_eq];omega
    have ga':((rows++[[eS nm,.arr T 0 (q.length+1+1) capT]]).flatten++tail)[rows.length * 2+1]?=some (.arr T 0 (q.length+1+1) capT):=ga
    have hu:ZFU (u :: q) [pa,pb]=[upP u.terms pb]:=rfl
    rw[hu]at hQ
    have hpb:=hps pb (by simp)
    have hut:=hq u (by simp)
    have i5:(1:Int)<((q.length+1+1:Nat):Int):=by omega
    have z1:(0:Int)<=1:=by decide
    have gu:(trC t t1 t2++((trC u u1 u2 :: rest).flatten++tl))[3+1]?=some (.sl u1 (rS u.terms)):=rfl
    have gu':∀h:3+1<(trC t t1 t2++((trC u u1 u2 :: rest).flatten++tl)).length,(trC t t1 t2++((trC u u1 u2 :: rest).flatten++tl))[3+1]'h=.sl u1 (rS u.terms):=fun _=>rfl
    have gu1:((trC u u1 u2 :: rest).flatten++tl)[1]?=some (.sl u1 (rS u.terms)):=rfl
    have g2:(trC t' s1 t2)[2]?=some (.sl t2 (rI t'.up)):=rfl
    have gl2:2+1<=(trC t' s1 t2).length:=by simp
    have q1:(rS [pa,pb])[1]?=some [eS pb]:=rfl
    have d2':(((2:Nat):Int) == 2)=true:=rfl
    have hupS:=fun H=>up_sound u1 u.terms pb H (by omega) hpb
    generalize hNN:upP u.terms pb=nn at *
    have hal:ZaE 1 (rI t'.up)=true:=ZaU (f:=fun s:Int=>[AV.i s]) (sz:=1) (fun _=>rfl) _
    have hrl:(rI t'.up).length=t'.up.length:=by simp
    have hal2:ZaE 1 [[AV.i nn]]=true:=rfl
    have hsn:rI t'.up++[[AV.i nn]]=rI (t'.up++[nn]):=by simp
    have hsp:∀tok,splice (trC t' s1 t2) 2 [.sl tok (rI (t'.up++[nn]))]=trC { t' with up:=t'.up++[nn] } s1 tok:=fun _=>rfl
    have hm1:t'.up.length+1<=maxLen:=ZAp (by omega)
    have hm2:(t'.up.length+1) * 8<=140737488355328:=by omega
    have hm3:t'.up.length<=maxLen:=ZAp (by omega)
    have hm4:0+t'.up.length<=maxLen:=by omega
    have hm5:(0+t'.up.length) * 8<=140737488355328:=by omega
    have ls:=Zaa.lt gs
    have lD:=Zaa.lt gD
    have lT:=Zaa.lt gT
    have hz00:0<=maxLen:=zaA _
    have hm6:t'.up.length * 8<=140737488355328:=by omega
    have hnil:ZaE 1 ([]:List (List AV))=true:=rfl
    have hle:G.next<=G.next:=zae _
    have hdone:∀F' G' tok,FrO F' is i2 i10 rows.length tw l k [pa,pb]->(∀i o,i≠i10->G.get i=some o->G'.get i=some o)->G.next<=G'.next->G'.get i10=some (.cells (trC { t' with up:=t'.up++[nn] } s1 tok) 102)->AW Tryz.prog ZDZ Q F' G':=fun F' G' tok x y yn z =>
     ZCL x (hL'.keep y h1 h2 h3) (by simp) z h3 hn fun F2 G2 a b c=>hQ F2 G2 _ _ a b (KpO.trans ⟨yn,fun i o _ h10 hg=>y i o h10 hg⟩ c)
    cases hup0:t'.up with
    | nil =>
     have hri:rI t'.up=[]:=by rw[hup0];rfl
     have hr0:t'.up.length=0:=by rw[hup0];rfl
     have hsn2:[[AV.i nn]]=rI (t'.up++[nn]):=by rw[<- hsn,hri];rfl
     have hm7:1<=maxLen:=ZAp (by omega)
     have hsp0:∀tok,splice (trC t' s1 t2) 2 [.sl tok [[AV.i nn]]]=trC { t' with up:=t'.up++[nn] } s1 tok:=fun tok=>by rw[hsn2];rfl
     unfold ZDm
     ((have hd:=tv;repeat' first|(first|apply Zad|apply Zac|apply Zab)<;>intro hd<;>try simp only[hd]|simp(disch:=first|assumption|omega|simp only[nx]<;>omega|fail)only[hd,qr,qn,ZBp,↓YA,YY,sevalprocAttr,f2,f3,f6,f7,f10,f11,f12,f13,gs,gD,gT,g10,i1,i2',i3,ga,ga',d2,d2',d3,i5,z1,gu,gu',gu1,g2,gl2,q1,hri,hal2,hsp0,hm7,hz00,hnil,zar,List.length_cons,List.length_nil])<;>try revert hd;refine ttr ?_)
     refine qcp (hupS _) fun k1=>?_
     ((have hd:=tv;repeat' first|(first|apply Zad|apply Zac|apply Zab)<;>intro hd<;>try simp only[hd]|simp(disch:=first|assumption|omega|simp only[nx]<;>omega|fail)only[hd,qr,qn,ZBp,↓YA,YY,sevalprocAttr,f2,f3,f6,f7,f10,f11,f12,f13,gs,gD,gT,g10,gl2,hri,hal2,hsp0,hm7,hz00,hnil,zar,List.length_cons,List.length_nil])<;>try revert hd;refine ttr ?_)
     refine hdone _ _ (.own (G.next+k1)) ⟨f2,f3,f6,f7,f10,f11,f12,f13⟩ (fun i o hi hg=>?_) (by simp only[nx];omega) (Zaa.Zal (by simp only[nx];omega))
     have:=Zaa.lt hg
     rw[Zaa.Zah hi,Zaa.Zag (by simp only[nx];omega),Zaa.ZaB];exact hg
    | cons n0 ns =>
     have hri:rI t'.up=[AV.i n0] :: rI ns:=by rw[hup0];rfl
     have hr0:(rI ns).length+1=t'.up.length:=by rw[hup0];simp
     have hr1:ns.length+1=t'.up.length:=by rw[hup0];simp
     rw[hri]at hal hsn
     have hm8:ns.length+1<=maxLen:=by omega
     have hm9:(ns.length+1) * 8<=140737488355328:=by omega
     have hm10:ns.length+1+1<=maxLen:=by omega
     have hm11:(ns.length+1+1) * 8<=140737488355328:=by omega
     unfold ZDm
     ((have hd:=tv;repeat' first|(first|apply Zad|apply Zac|apply Zab)<;>intro hd<;>try simp only[hd]|simp(disch:=first|assumption|omega|simp only[nx]<;>omega|fail)only[hd,qr,qn,ZBp,↓YA,YY,sevalprocAttr,f2,f3,f6,f7,f10,f11,f12,f13,gs,gD,gT,g10,i1,i2',i3,ga,ga',d2,d2',d3,i5,z1,gu,gu',gu1,g2,gl2,q1,hri,hal,hal2,hsn,hsp,hm8,hm9,hm10,hm11,hnil,zar,List.length_cons])<;>try revert hd;refine ttr ?_)
     refine qcp (hupS _) fun k1=>?_
     ((have hd:=tv;repeat' first|(first|apply Zad|apply Zac|apply Zab)<;>intro hd<;>try simp only[hd]|simp(disch:=first|assumption|omega|simp only[nx]<;>omega|fail)only[hd,qr,qn,ZBp,↓YA,YY,sevalprocAttr,f2,f3,f6,f7,f10,f11,f12,f13,gs,gD,gT,g10,gl2,hri,hal,hal2,hsn,hsp,hm8,hm9,hm10,hm11,hnil,zar,List.length_cons])<;>try revert hd;refine ttr ?_)
     refine hdone _ _ (.own G.next) ⟨f2,f3,f6,f7,f10,f11,f12,f13⟩ (fun i o hi hg=>?_) (by simp only[nx];omega) (Zaa.Zal (by simp only[nx];omega))
     have:=Zaa.lt hg
     rw[Zaa.Zah hi,Zaa.Zah (by omega),Zaa.ZaB,Zaa.Zag (by omega)];exact hg
 ·have d2:(((ps.length:Nat):Int) == 2)=false:=by simp only[beq_eq_false_iff_ne];omega
  have hu:ZFU q ps=[]:=by
   unfold ZFU
   split
   ·exact absurd rfl hp
   ·rfl
  rw[hu]at hQ
  have hQ2:∀F' G' s1 s2,FrO F' is i2 i10 rows.length tw l k ps->G'.get T=some (.cells (trC t' s1 s2++(rowsQ.flatten++tl)) 102)->KpO T i10 G G'->Q .normal F' G':=by
   intro F' G' a b x y z
   exact hQ F' G' a b x (by rw[zaB];exact y) z
  unfold ZDm
  ((have hd:=tv;repeat' first|(first|apply Zad|apply Zac|apply Zab)<;>intro hd<;>try simp only[hd]|simp(disch:=first|assumption|omega|simp only[nx]<;>omega|fail)only[hd,qr,qn,ZBp,↓YA,YY,sevalprocAttr,f2,f3,f6,f7,f10,f11,f12,f13,d2,zar])<;>try revert hd;refine ttr ?_)
  exact ZCL ⟨f2,f3,f6,f7,f10,f11,f12,f13⟩ hL' (by omega) g10 h3 hn fun F' G' x y z=>hQ2 F' G' _ _ x y z
set_option maxHeartbeats 16000000 in
theorem ZE2 {Q:AEx->Fr->Zaa->Prop} {F:Fr} {G:Zaa} {is i2 i10 D T cap capT k:Nat} {tw t1 t2:Tok} {l ps:List Tx} {tm:AV} {rows:List (List AV)} {nm text:Tx} {tail tl:List AV} {t:Tir} {q:List Tir} {rowsQ:List (List AV)} (hF:FrO F is i2 i10 rows.length tw l k ps) (f8:Fr.get F 8=eS text) (hL:LsO G is D T cap capT tm rows nm tail (rowsQ.flatten++tl) t t1 t2 (q.length+1)) (hRQ:ZBQ rowsQ q)
  (g10:G.get i10=some (.cells (trC t t1 t2) 102)) (h1:is≠i10) (h2:D≠i10) (h3:T≠i10) (hn:rows.length<=5000) (htl:t.terms.length<=100000) (hup:t.up.length<=100000) (hq:∀u∈q,u.terms.length<=100000) (hps:∀p∈ps,p.length<=100000) (hpl:ps.length<=100000) (hql:q.length<=100000)
  (hQ:∀F' G' s1 s2,FrO F' is i2 i10 rows.length tw l k ps->G'.get T=some (.cells (trC { t with terms:=t.terms++[text],up:=t.up++ZFU q ps } s1 s2++(rowsQ.flatten++tl)) 102)->KpO T i10 G G'->Q .normal F' G'):AW Tryz.prog ZC1 Q F G:=by
 have qr:=trivial
 have qn:=trivial
 obtain⟨f2,f3,f6,f7,f10,f11,f12,f13⟩:=hF
 have l10:=Zaa.lt g10
 have g1:(trC t t1 t2)[1]?=some (.sl t1 (rS t.terms)):=rfl
 have gl1:1+1<=(trC t t1 t2).length:=by simp
 have hal2:ZaE 1 [[eS text]]=true:=rfl
 have hnil:ZaE 1 ([]:List (List AV))=true:=rfl
 have hz00:0<=maxLen:=zaA _
 have hdone:∀F' G' tok,FrO F' is i2 i10 rows.length tw l k ps->(∀i o,i≠i10->G.get i=some o->G'.get i=some o)->G.next<=G'.next->G'.get i10=some (.cells (trC { t with terms:=t.terms++[text] } tok t2) 102)->AW Tryz.prog ZDm Q F' G':=fun F' G' tok x y yn z =>
  ZGu (t':={ t with terms:=t.terms++[text] }) x (hL.keep y h1 h2 h3) hRQ z h1 h2 h3 hn hup hq hps hpl hql fun F2 G2 a b c d e=>hQ F2 G2 a b c d (KpO.trans ⟨yn,fun i o _ h10 hg=>y i o h10 hg⟩ e)
 cases ht0:t.terms with
 | nil =>
  have hri:rS t.terms=[]:=by rw[ht0];rfl
  have hm7:1<=maxLen:=ZAp (by omega)
  have hsp0:∀tok,splice (trC t t1 t2) 1 [.sl tok [[eS text]]]=trC { t with terms:=t.terms++[text] } tok t2:=fun tok=>by
   have:[[eS text]]=rS (t.terms++[text]):=by rw[ht0];rfl
   rw[this];rfl
  unfold ZC1
  ((have hd:=tv;repeat' first|(first|apply Zad|apply Zac|apply Zab)<;>intro hd<;>try simp only[hd]|simp(disch:=first|assumption|omega|simp only[nx]<;>omega|fail)only[hd,qr,qn,ZBp,↓YA,YY,sevalprocAttr,f2,f3,f6,f7,f8,f10,f11,f12,f13,g10,g1,gl1,hri,hal2,hsp0,hm7,hz00,hnil,List.length_cons,List.length_nil])<;>try revert hd;refine ttr ?_)
  refine hdone _ _ (.own G.next) ⟨f2,f3,f6,f7,f10,f11,f12,f13⟩ (fun i o hi hg=>?_) (by simp only[nx];omega) (Zaa.Zal (by simp only[nx];omega))
  have:=Zaa.lt hg
  rw[Zaa.Zah hi,Zaa.Zag (by omega)];exact hg
 | cons n0 ns =>
  have hri:rS t.terms=[eS n0] :: rS ns:=by rw[ht0];rfl
  have hr1:ns.length+1=t.terms.length:=by rw[ht0];simp
  have hal:ZaE 1 ([eS n0] :: rS ns)=true:=by rw[<- hri];exact ZaU (f:=fun s:Tx=>[eS s]) (sz:=1) (fun _=>rfl) _
  have hsn:([eS n0] :: rS ns)++[[eS text]]=rS (t.terms++[text]):=by rw[<- hri];simp
  have hsp:∀tok,splice (trC t t1 t2) 1 [.sl tok (rS (t.terms++[text]))]=trC { t with terms:=t.terms++[text] } tok t2:=fun _=>rfl
  have hm8:ns.length+1<=maxLen:=by unfold maxLen;omega
  have hm9:(ns.length+1) * 16<=140737488355328:=by omega
  have hm10:ns.length+1+1<=maxLen:=by unfold maxLen;omega
  have hm11:(ns.length+1+1) * 16<=140737488355328:=by omega
  unfold ZC1
  ((have hd:=tv;repeat' first|(first|apply Zad|apply Zac|apply Zab)<;>intro hd<;>try simp only[hd]|simp(disch:=first|assumption|omega|simp only[nx]<;>omega|fail)only[hd,qr,qn,ZBp,↓YA,YY,sevalprocAttr,f2,f3,f6,f7,f8,f10,f11,f12,f13,g10,g1,gl1,hri,hal,hal2,hsn,hsp,hm8,hm9,hm10,hm11,hnil,zar,List.length_cons])<;>try revert hd;refine ttr ?_)
  refine hdone _ _ (.own G.next) ⟨f2,f3,f6,f7,f10,f11,f12,f13⟩ (fun i o hi hg=>?_) (by simp only[nx];omega) (Zaa.Zal (by simp only[nx];omega))
  have:=Zaa.lt hg
  rw[Zaa.Zah hi,Zaa.Zag (by omega)];exact hg
open Go.RowKit Go.Lib
theorem ZDU {H H1:Zaa} {b is i2:Nat} {aD:AV} {tok tok':Tok} {s:Sc} {r:Tx} (bis:b<=is) (h2:i2≠is) (gs:H.get is=some (.cells [aD,.sl tok (rS s.meas)] 76)) (hD:DimO H b aD s.dims) (hn:H.next<=H1.next) (hk:∀i cs E,H.get i=some (.cells cs E)->H1.get i=some (.cells cs E)) (hold:∀i o,i<b->H.get i=some o->H1.get i=some o) (hT':ZCe b H1 9 1 (s.meas++[r]).length tok') :
  StO b is i2 { s with meas:=s.meas++[r] } H (H1.set is (.cells [aD,.sl tok' (rS (s.meas++[r]))] 76)):=by
 have gs1:=hk _ _ _ gs
 refine⟨hn,fun i o hi hg=>?_,⟨bis,aD,tok',Zaa.Zal (Zaa.lt gs1),?_,hD.keep fun i cs E hE hg=>?_⟩,fun cs hg=>?_⟩
 ·rw[Zaa.Zah (by omega)];exact hold i o hi hg
 ·rcases hT' with rfl|⟨t',ht',rfl,hg⟩
  ·exact .inl rfl
  ·exact .inr ⟨t',ht',rfl,by rw[Zaa.Zah (fun e=>by rw[e,gs1]at hg;cases hg)];exact hg⟩
 ·rw[Zaa.Zah (ZBn hg gs (by rcases hE with rfl|rfl<;>decide))];exact hk _ _ _ hg
 ·rw[Zaa.Zah h2];exact hk _ _ _ hg
theorem ZB3 {s:Sc} {c:UInt8} {r:Tx} (h1:c≠64) (h2:c≠43) (h:s.dims=[]\/(c≠94/\c≠46)\/(c=46/\∃ds d,s.dims=ds++[d]/\d.tiers=[])):ZBE s (c :: r)=s:=by
 simp only[ZBE,if_neg h1,if_neg h2]
 rcases zbT s.dims with hd|⟨ds,d,hd⟩
 ·rw[hd];rfl
 ·rw[zbU]at hd
  rw[hd,ZnA,ZBH]
  rcases h with h|⟨h3,h4⟩|⟨rfl,ds',d',h3,h4⟩
  ·rw[h]at hd;exact absurd hd (by simp)
  ·simp only[ZCG,if_neg h3,if_pos h4]
   rw[<- hd]
  ·obtain⟨_,hdd⟩:=List.append_inj' (hd.symm.trans h3) rfl
   injection hdd with hdd _
   subst hdd
   have e:ZCG (46 :: r) d=d:=by
    simp only[ZCG]
    rw[if_neg (by decide),if_neg (by decide),h4]
   simp only[e]
   rw[<- hd]
theorem ZBQ.tail {x:List AV} {rows:List (List AV)} {u:Tir} {q:List Tir} (h:ZBQ (x :: rows) (u :: q)):ZBQ rows q:=by
 cases h
 assumption
theorem apv_rows {H:Zaa} {V:Nat} {r0:List AV} {rows:List (List AV)} {x:AV} {zero:List AV} {K:AV->Zaa->Prop} (ho:H.get V=some (.cells r0 102)) (h0:r0.length=3) (hr:∀r∈rows,r.length=3) (hx:ZaL H 3 x=some rows) (hn:rows.length<=5000) (hz:zero.length=3)
  (k:∀T' cap tail H',((T'=V/\H'=H/\rows=[]/\tail=[])\/(T'=H.next/\H'=H.alloc (.cells ((r0 :: rows).flatten++tail) 102)))->((r0 :: rows).flatten++tail).length=cap * 3->rows.length+1<=cap->K (.arr T' 0 (rows.length+1) cap) H') :
  Zk3 H 102 3 64 zero (.arr V 0 1 1) x K:=by
 unfold Zk3
 rw[hx]
 cases rows with
 | nil=>exact⟨by omega,zae _,k V 1 [] H (.inl ⟨rfl,rfl,rfl,rfl⟩) (by simp[h0]) (zae _)⟩
 | cons a q =>
  simp only[ho]
  have hal:ZaE 3 (a :: q)=true:=by
   unfold ZaE
   rw[zaF]
   intro r hr'
   simpa using hr r hr'
  refine⟨⟨trivial,trivial,by simp,hal,h0,zae _,by unfold maxLen;simp only[List.length_cons]at hn ⊢;omega,by simp only[List.length_cons]at hn ⊢;omega⟩,fun h1=>?_,fun h1 c h2 h3=>?_⟩
  ·simp only[List.length_cons]at h1;omega
  ·have e:r0.take (1 * 3)++((a :: q).flatten++(List.replicate (c - (1+(a :: q).length)) zero).flatten)=(r0 :: a :: q).flatten++(List.replicate (c - (1+(a :: q).length)) zero).flatten:=by
    rw[zaX (by omega),List.flatten_cons (L:=a :: q),zak]
   rw[e,show 1+(a :: q).length=(a :: q).length+1 by omega]
   refine k H.next c _ _ (.inr ⟨rfl,rfl⟩) ?_ (by omega)
   rw[zab,Zc7 (sz:=3) (rows:=List.replicate (c - ((a :: q).length+1)) zero) (fun q hq=>by rw[(zbc.1 hq).2];exact hz),zbb,flat3 (fun r hr'=>by
    rcases zaq.1 hr' with rfl|hr'
    ·exact h0
    ·exact hr r hr'),<- zaT]
   congr 1
   simp only[List.length_cons]at h2 ⊢
   omega
def HasC (G:Zaa) (i:Nat):Prop:=G.get i=some (.cells [.sl .full [],.sl .full []] 76)
set_option maxHeartbeats 16000000 in
theorem ZG5 (tw:Tok) (l:List Tx) (H:Zaa) (hl:l.length<=2300) (hs:ZAr l<=4000):Zay Tryz.prog 50 [.sl tw (rS l)] H (Pure H (.agg (eSc (ZFf l)))):=by
 have hx0:Zaa.Ext H H:=.refl _
 refine Zak hEd vf50 (zaa rfl) fun Q qr qn=>?_
 ((have hd:=tv;repeat' first|(first|apply Zad|apply Zac|apply Zab)<;>intro hd<;>try simp only[hd]|simp(disch:=first|assumption|omega|simp only[nx]<;>omega|fail)only[hd,qr,qn,ZBp,↓YA,YY,sevalprocAttr,zar])<;>try revert hd;refine ttr ?_)
 rw[so_split]
 refine ZbJ (N:=l.length) (fun k F G=>Fr.get F 13=.i (k:Int)/\Fr.get F 12=.i (l.length:Int)/\Fr.get F 11=.sl tw (rS l)/\Fr.get F 2=.ptr H.next 0/\Fr.get F 3=.ptr (H.next+1) 0/\Zaa.Ext H G/\HasC G H.next/\∃s,SchO G H.next (H.next+1) s/\Gd k (18+ZAr (l.take k)+27 * k) s/\ZFf l=(l.drop k).foldl ZBE s) (by unfold maxLen;omega) (fun k F G h=>⟨h.1,h.2.1⟩) (GStep.refl _ _) ⟨rfl,rfl,rfl,rfl,rfl,hx0.alloc.alloc,?_,⟨[],[]⟩,?_,by simpa [ZAr] using Gd.zero,by rw[zax];rfl⟩ ?_ ?_
 ·unfold HasC
  rw[Zaa.Zag (by simp only[nx];omega)];exact Zaa.Zat rfl
 ·exact⟨by omega,.sl .full [],.full,Zaa.Zat rfl,.inl rfl,.inl ⟨rfl,rfl⟩⟩
 ·rintro k F G hk ⟨f13,f12,f11,f2,f3,hx,g2,s,hS,hG,hT⟩
  have hz:(0:Int)<=(k:Int):=by omega
  have hr:(rS l)[k]?=some [eS l[k]]:=by simp[hk]
  obtain⟨s1,s2,s3⟩:=ZCi hk
  rw[zai hk,List.foldl_cons]at hT
  have hG2:=hG.word (w:=l[k]) (by omega)
  generalize l[k]=w at *
  -- how a round ends
  have fin:∀G',StO H.next (H.next+1) H.next (ZBE s w) G G'->Zaa.Ext H G'/\HasC G' H.next/\∃s,SchO G' H.next (H.next+1) s/\Gd (k+1) (18+ZAr (l.take (k+1))+27 * (k+1)) s/\ZFf l=(l.drop (k+1)).foldl ZBE s:=fun G' ⟨c1,c2,c3,c4⟩ =>
   ⟨⟨by have:=hx.next;omega,fun i o hg=>c2 i o (Zaa.lt hg) (hx.get i o hg)⟩,c4 _ g2,ZBE s w,c3,by rw[s1];exact⟨hG2.bd,by have:=hG2.w;omega,hG2.up⟩,hT⟩
  cases w with
  | nil =>
   have d0:((((0:Nat)):Int) == 0)=true:=rfl
   skip
   ((have hd:=tv;repeat' first|(first|apply Zad|apply Zac|apply Zab)<;>intro hd<;>try simp only[hd]|simp(disch:=first|assumption|omega|simp only[nx]<;>omega|fail)only[hd,qr,qn,ZBp,↓YA,YY,sevalprocAttr,f13,f12,f11,f2,f3,hz,hr,d0,List.length_nil])<;>try revert hd;refine ttr ?_)
   exact fin _ ⟨zae _,fun _ _ _ h=>h,hS,fun _ h=>h⟩
  | cons c r =>
   have hwl:r.length<=4000:=by simp at s2;omega
   obtain⟨d1,x2,y3,b1,hb⟩:=ZBG c r
   have d0:((((r.length+1:Nat)):Int) == 0)=false:=by simp only[beq_eq_false_iff_ne];omega
   obtain⟨bis,aD,tok,gs,hTk,hD⟩:=hS
   have ls:=Zaa.lt gs
   by_cases c1:c=64
   ·have q64:(((c.toNat:Nat):Int) == 64)=true:=ZDs c1
    rcases hD with⟨hd0,rfl⟩|⟨D,cap,rows,tail,ds,d,a,T,hd,rfl,hbD,gD,hcl,hnc,hcold,hhot⟩
    ·skip
     ((have hd:=tv;repeat' first|(first|apply Zad|apply Zac|apply Zab)<;>intro hd<;>try simp only[hd]|simp(disch:=first|assumption|omega|simp only[nx]<;>omega|fail)only[hd,qr,qn,ZBp,↓YA,YY,sevalprocAttr,f13,f12,f11,f2,f3,hz,hr,d0,d1,Zdi,x2,y3,b1,hb,gs,q64])<;>try revert hd;refine ttr ?_)
     refine ZE5 (r:=[eS r,.sl .full []]) ?_ rfl rfl (by omega) ?_
     ·simp only[ZaL,Zaa.Zae]
      rfl
     intro cap tail hcap htl
     simp only[nx]
     ((have hd:=tv;repeat' first|(first|apply Zad|apply Zac|apply Zab)<;>intro hd<;>try simp only[hd]|simp(disch:=first|assumption|omega|simp only[nx]<;>omega|fail)only[hd,qr,qn,ZBp,↓YA,YY,sevalprocAttr,f13,f12,f11,f2,f3,gs])<;>try revert hd;refine ttr ?_)
     refine fin _ ?_
     simp only[ZBE,if_pos c1]
     exact st_at0 bis hx.next (by omega) gs hTk hd0 hcap htl
    ·have hrt:=hcold.two
     have hrl:=hcold.len
     have hdl:rows.length+1<=k:=by have:=hG.bd.dims;rw[hd]at this;simp at this;omega
     have nD:=ZBn gD gs (by decide)
     have lD:=Zaa.lt gD
     have hq:∀q∈rows++[[eS d.name,a]],q.length=2:=fun q hq=>by
      rcases zat.1 hq with hq|hq
      ·exact hrt q hq
      ·rw[zau.1 hq];rfl
     skip
     ((have hd:=tv;repeat' first|(first|apply Zad|apply Zac|apply Zab)<;>intro hd<;>try simp only[hd]|simp(disch:=first|assumption|omega|simp only[nx]<;>omega|fail)only[hd,qr,qn,ZBp,↓YA,YY,sevalprocAttr,f13,f12,f11,f2,f3,hz,hr,d0,d1,Zdi,x2,y3,b1,hb,gs,q64])<;>try revert hd;refine ttr ?_)
     rw[show rows.length+1=(rows++[[eS d.name,a]]).length from by simp]
     refine Zp3 (rows:=rows++[[eS d.name,a]]) (tail:=tail) (r:=[eS r,.sl .full []]) (id:=D) (cap:=cap) ?_ hq ?_ rfl hcl (by simpa using hnc) (by unfold maxLen;simp;omega) (by simp;omega) rfl ?_
     ·rw[Zaa.Zag (by omega)];exact gD
     ·simp only[ZaL,Zaa.Zae]
      rfl
     intro D' cap' tail' G' hH hcl' hcap' _
     have hxn:=hx.next
     have hH2:G.next<=G'.next/\G'.get D'=some (.cells ((rows++[[eS d.name,a]]++[[eS r,.sl .full []]]).flatten++tail') 100)/\H.next<=D'/\(∀i o,i≠D->G.get i=some o->G'.get i=some o):=by
      rcases hH with⟨rfl,rfl⟩|⟨rfl,rfl⟩
      ·exact⟨by simp only[nx];omega,Zaa.Zal (by simp only[nx];omega),hbD,fun i o hi hg=>by have:=Zaa.lt hg;rw[Zaa.Zah hi,Zaa.Zag (by omega)];exact hg⟩
      ·exact⟨by simp only[nx];omega,Zaa.Zat rfl,by simp only[nx];omega,fun i o hi hg=>by have:=Zaa.lt hg;rw[Zaa.Zag (by simp only[nx];omega),Zaa.Zag (by omega)];exact hg⟩
     obtain⟨j1,j2,j3,j5⟩:=hH2
     clear hH
     have gs':=j5 _ _ nD.symm gs
     ((have hd:=tv;repeat' first|(first|apply Zad|apply Zac|apply Zab)<;>intro hd<;>try simp only[hd]|simp(disch:=first|assumption|omega|simp only[nx]<;>omega|fail)only[hd,qr,qn,ZBp,↓YA,YY,sevalprocAttr,f13,f12,f11,f2,f3,gs'])<;>try revert hd;refine ttr ?_)
     refine fin _ ?_
     simp only[ZBE,if_pos c1]
     exact st_at1 bis (by omega) gs hTk hd gD hbD hcold hhot j1 j2 j3 j5 hcl' hcap'
   have q64:(((c.toNat:Nat):Int) == 64)=false:=ZCm c1
   by_cases c2:c=43
   ·have q43:(((c.toNat:Nat):Int) == 43)=true:=ZDs c2
    have hml:=hG.bd.meas
    have hrl:(rS s.meas).length=s.meas.length:=by simp
    have hal:ZaE 1 (rS s.meas)=true:=ZaU (f:=fun s:Tx=>[eS s]) (sz:=1) (fun _=>rfl) _
    have hm1:s.meas.length+1<=maxLen:=ZAp (by omega)
    have hm2:(s.meas.length+1) * 16<=140737488355328:=by omega
    have hal2:ZaE 1 [[eS r]]=true:=rfl
    have hsn:rS s.meas++[[eS r]]=rS (s.meas++[r]):=by simp
    have hwr:ZBE s (c :: r)={ s with meas:=s.meas++[r] }:=by simp only[ZBE,if_neg c1,if_pos c2]
    rw[hwr]at fin
    have hl1:(s.meas++[r]).length=s.meas.length+1:=by simp
    have hD0:=hD
    rcases hTk with rfl|⟨t',ht',rfl,hgt⟩
    ·rcases hD0 with⟨_,rfl⟩|⟨D,cap,rows,tail,ds,d,a,T,_,rfl,_⟩
     ·skip
      ((have hd:=tv;repeat' first|(first|apply Zad|apply Zac|apply Zab)<;>intro hd<;>try simp only[hd]|simp(disch:=first|assumption|omega|simp only[nx]<;>omega|fail)only[hd,qr,qn,ZBp,↓YA,YY,sevalprocAttr,f13,f12,f11,f2,f3,hz,hr,d0,d1,Zdi,x2,y3,b1,hb,gs,q64,q43,hrl,hal,hm1,hm2,hal2,hsn])<;>try revert hd;refine ttr ?_)
      refine fin _ ?_
      refine ZDU bis (by omega) gs hD ?_ (fun i cs E hg=>?_) (fun i o hi hg=>?_) (.inr ⟨G.next,hx.next,rfl,?_⟩)
      ·simp only[nx];omega
      ·have:=Zaa.lt hg
       rw[Zaa.Zag (by omega)];exact hg
      ·have:=Zaa.lt hg
       rw[Zaa.Zag (by omega)];exact hg
      ·rw[hl1];exact Zaa.Zat rfl
     ·skip
      ((have hd:=tv;repeat' first|(first|apply Zad|apply Zac|apply Zab)<;>intro hd<;>try simp only[hd]|simp(disch:=first|assumption|omega|simp only[nx]<;>omega|fail)only[hd,qr,qn,ZBp,↓YA,YY,sevalprocAttr,f13,f12,f11,f2,f3,hz,hr,d0,d1,Zdi,x2,y3,b1,hb,gs,q64,q43,hrl,hal,hm1,hm2,hal2,hsn])<;>try revert hd;refine ttr ?_)
      refine fin _ ?_
      refine ZDU bis (by omega) gs hD ?_ (fun i cs E hg=>?_) (fun i o hi hg=>?_) (.inr ⟨G.next,hx.next,rfl,?_⟩)
      ·simp only[nx];omega
      ·have:=Zaa.lt hg
       rw[Zaa.Zag (by omega)];exact hg
      ·have:=Zaa.lt hg
       rw[Zaa.Zag (by omega)];exact hg
      ·rw[hl1];exact Zaa.Zat rfl
    ·have lt':=Zaa.lt hgt
     have hne:H.next+1≠t':=fun e=>by rw[<- e,gs]at hgt;cases hgt
     have hne2:=hne.symm
     rcases hD0 with⟨_,rfl⟩|⟨D,cap,rows,tail,ds,d,a,T,_,rfl,_⟩
     ·skip
      ((have hd:=tv;repeat' first|(first|apply Zad|apply Zac|apply Zab)<;>intro hd<;>try simp only[hd]|simp(disch:=first|assumption|omega|simp only[nx]<;>omega|fail)only[hd,qr,qn,ZBp,↓YA,YY,sevalprocAttr,f13,f12,f11,f2,f3,hz,hr,d0,d1,Zdi,x2,y3,b1,hb,gs,q64,q43,hrl,hal,hm1,hm2,hal2,hsn,hgt])<;>try revert hd;refine ttr ?_)
      refine fin _ ?_
      refine ZDU bis (by omega) gs hD ?_ (fun i cs E hg=>?_) (fun i o hi hg=>?_) (.inr ⟨t',ht',rfl,?_⟩)
      ·exact zae _
      ·rw[Zaa.Zah (fun e=>by rw[e,hgt]at hg;cases hg)];exact hg
      ·rw[Zaa.Zah (by omega)];exact hg
      ·rw[hl1];exact Zaa.Zal lt'
     ·skip
      ((have hd:=tv;repeat' first|(first|apply Zad|apply Zac|apply Zab)<;>intro hd<;>try simp only[hd]|simp(disch:=first|assumption|omega|simp only[nx]<;>omega|fail)only[hd,qr,qn,ZBp,↓YA,YY,sevalprocAttr,f13,f12,f11,f2,f3,hz,hr,d0,d1,Zdi,x2,y3,b1,hb,gs,q64,q43,hrl,hal,hm1,hm2,hal2,hsn,hgt])<;>try revert hd;refine ttr ?_)
      refine fin _ ?_
      refine ZDU bis (by omega) gs hD ?_ (fun i cs E hg=>?_) (fun i o hi hg=>?_) (.inr ⟨t',ht',rfl,?_⟩)
      ·exact zae _
      ·rw[Zaa.Zah (fun e=>by rw[e,hgt]at hg;cases hg)];exact hg
      ·rw[Zaa.Zah (by omega)];exact hg
      ·rw[hl1];exact Zaa.Zal lt'
   have q43:(((c.toNat:Nat):Int) == 43)=false:=ZCm c2
   have hS0:SchO G H.next (H.next+1) s:=⟨bis,aD,tok,gs,hTk,hD⟩
   have skip:ZBE s (c :: r)=s->Zaa.Ext H G/\HasC G H.next/\∃s,SchO G H.next (H.next+1) s/\Gd (k+1) (18+ZAr (l.take (k+1))+27 * (k+1)) s/\ZFf l=(l.drop (k+1)).foldl ZBE s:=fun e=>fin G (by rw[e];exact⟨zae _,fun _ _ _ h=>h,hS0,fun _ h=>h⟩)
   have w0:IntKind.i64.wrap (((0:Nat):Int) - 1) = -1:=by rw[Zaw (by omega) (by omega)];rfl
   have dg:decide ((-1:Int)≥0)=false:=by decide
   have dg2:decide ((-1:Int)<0)=true:=by decide
   by_cases c3:c=94
   ·have q94:(((c.toNat:Nat):Int) == 94)=true:=ZDs c3
    rcases hD with⟨hd0,rfl⟩|⟨D,cap,rows,tail,ds,d,a,T,hd,rfl,hbD,gD,hcl,hnc,hcold,hhot⟩
    ·skip
     ((have hd:=tv;repeat' first|(first|apply Zad|apply Zac|apply Zab)<;>intro hd<;>try simp only[hd]|simp(disch:=first|assumption|omega|simp only[nx]<;>omega|fail)only[hd,qr,qn,ZBp,↓YA,YY,sevalprocAttr,f13,f12,f11,f2,f3,hz,hr,d0,d1,Zdi,x2,y3,b1,hb,gs,q64,q43,q94,w0,dg])<;>try revert hd;refine ttr ?_)
     exact skip (ZB3 c1 c2 (.inl hd0))
    ·have hrt:=hcold.two
     have hrl:=hcold.len
     have lD:=Zaa.lt gD
     have hdl:rows.length+1<=k:=by have:=hG.bd.dims;rw[hd]at this;simp at this;omega
     have w1:IntKind.i64.wrap (((rows.length+1:Nat):Int) - 1)=(rows.length:Int):=by rw[Zaw (by omega) (by omega)];omega
     have dk:decide ((rows.length:Int)≥0)=true:=by simp
     have i1:(0:Int)<=(rows.length:Int):=by omega
     have i2:((rows.length:Nat):Int)<((rows.length+1:Nat):Int):=by omega
     have i3:(((rows.length:Nat):Int)).toNat=rows.length:=by omega
     have ga:=get_at (rows:=rows) (x:=eS d.name) (y:=a) (tail:=tail) hrt
     skip
     ((have hd:=tv;repeat' first|(first|apply Zad|apply Zac|apply Zab)<;>intro hd<;>try simp only[hd]|simp(disch:=first|assumption|omega|simp only[nx]<;>omega|fail)only[hd,qr,qn,ZBp,↓YA,YY,sevalprocAttr,f13,f12,f11,f2,f3,hz,hr,d0,d1,Zdi,x2,y3,b1,hb,gs,gD,q64,q43,q94,w1,dk,i1,i2,i3,ga])<;>try revert hd;refine ttr ?_)
     have hnx:∀cs,G.get (G.next+1)≠some (.cells cs 102):=fun cs e=>by have:=Zaa.lt e;omega
     have hxn:=hx.next
     obtain⟨T0,rowsA,hRT,hbT,nT1,nT2,hc0,hA⟩:∃T0 rowsA,ZBQ rowsA d.tiers/\H.next<=T0/\D≠T0/\H.next+1≠T0/\ZBt G H.next T0 rows ds/\((rowsA=[]/\a=.sl .full [])\/∃tail cap,a=.arr T0 0 rowsA.length cap/\G.get T0=some (.cells (rowsA.flatten++tail) 102)/\(rowsA.flatten++tail).length=cap * 3/\rowsA.length<=cap):=by
      rcases hhot with⟨h1,h2⟩|⟨capA,rowsA,tailA,h1,h2,h3,h4,h5,h6,h7⟩
      ·exact⟨G.next+1,[],by rw[h1];exact .nil,by omega,by omega,by omega,hcold.other hnx,.inl ⟨rfl,h2⟩⟩
      ·exact⟨T,rowsA,h4,h2,ZBn gD h3 (by decide),ZBn gs h3 (by decide),hcold,.inr ⟨tailA,capA,by rw[h4.len];exact h1,h3,h6,by rw[h4.len];exact h7⟩⟩
     have hAl:rowsA.length<=k:=by rw[hRT.len];exact hG.bd.tiers d (by rw[hd];simp)
     have gV:(G.alloc (.cells ([[eS r,.sl .full [],.sl .full []]]:List (List AV)).flatten 102)).get G.next=some (.cells [eS r,.sl .full [],.sl .full []] 102):=Zaa.Zat rfl
     have hkA:∀i o,G.get i=some o->(G.alloc (.cells ([[eS r,.sl .full [],.sl .full []]]:List (List AV)).flatten 102)).get i=some o:=fun i o hg=>by have:=Zaa.lt hg;rw[Zaa.Zag (by omega)];exact hg
     generalize hH1:G.alloc (.cells ([[eS r,.sl .full [],.sl .full []]]:List (List AV)).flatten 102)=H1 at *
     have hH1n:H1.next=G.next+1:=by rw[<- hH1];rfl
     refine apv_rows (rows:=rowsA) gV rfl hRT.three ?_ (by omega) rfl ?_
     ·rcases hA with⟨h1,h2⟩|⟨tailA,capA,h1,h3,h4,h5⟩
      ·rw[h1,h2];rfl
      ·rw[h1]
       simp only[ZaL,hkA _ _ h3]
       rw[if_pos (by omega),zax,ZBF tailA hRT.three]
     intro T' capI tailI G' hH' hlI hcI
     have hG':H1.next<=G'.next/\G'.get T'=some (.cells (([eS r,.sl .full [],.sl .full []] :: rowsA).flatten++tailI) 102)/\G.next<=T'/\∀i o,H1.get i=some o->G'.get i=some o:=by
      rcases hH' with⟨rfl,rfl,h3,rfl⟩|⟨rfl,rfl⟩
      ·exact⟨zae _,by rw[gV,h3];simp,zae _,fun _ _ h=>h⟩
      ·exact⟨by simp only[nx];omega,Zaa.Zat rfl,by omega,fun i o hg=>by have:=Zaa.lt hg;rw[Zaa.Zag (by omega)];exact hg⟩
     obtain⟨k1,gT',k3,k4⟩:=hG'
     clear hH'
     have gD':=k4 _ _ (hkA _ _ gD)
     have gs':=k4 _ _ (hkA _ _ gs)
     have lD':=Zaa.lt gD'
     have gl:rows.length * 2+1+1<=((rows++[[eS d.name,a]]).flatten++tail).length:=by omega
     have sp:=fun z=>ZEq (rows:=rows) (x:=eS d.name) (y:=a) (z:=z) (tail:=tail) hrt
     ((have hd:=tv;repeat' first|(first|apply Zad|apply Zac|apply Zab)<;>intro hd<;>try simp only[hd]|simp(disch:=first|assumption|omega|simp only[nx]<;>omega|fail)only[hd,qr,qn,ZBp,↓YA,YY,sevalprocAttr,f13,f12,f11,f2,f3,gs',gD',i1,i2,i3,gl,sp])<;>try revert hd;refine ttr ?_)
     refine fin _ ?_
     have hwr:ZBE s (c :: r)={ s with dims:=ds++[{ d with tiers:=⟨r,[],[]⟩ :: d.tiers }] }:=by
      simp only[ZBE,if_neg c1,if_neg c2,hd,ZnA,ZBH,ZCG,if_pos c3]
     rw[hwr]
     have nDT:T'≠D:=ZBn gT' gD' (by decide)
     have hkT:ZES T0 G (G'.set D (.cells ((rows++[[eS d.name,.arr T' 0 (rowsA.length+1) capI]]).flatten++tail) 100)):=fun i cs hi hg=>by
      rw[Zaa.Zah (ZBn hg gD (by decide))]
      exact k4 _ _ (hkA _ _ hg)
     refine⟨by simp only[nx];omega,fun i o hi hg=>?_,⟨bis,_,tok,?_,?_,.inr ⟨D,cap,rows,tail,ds,{ d with tiers:=⟨r,[],[]⟩ :: d.tiers },.arr T' 0 (rowsA.length+1) capI,T',rfl,rfl,hbD,Zaa.Zal lD',?_,hnc,hc0.keep2 hkT k3,.inr ⟨capI,[eS r,.sl .full [],.sl .full []] :: rowsA,tailI,by rw[hRT.len];rfl,by omega,?_,.cons ⟨r,[],[]⟩ .full .full _ _ hRT,by simp,hlI,by rw[List.length_cons,<- hRT.len];exact hcI⟩⟩⟩,fun cs hg=>?_⟩
     ·rw[Zaa.Zah (by omega)]
      exact k4 _ _ (hkA _ _ hg)
     ·rw[Zaa.Zah (ZBn gs' gD' (by decide))];exact gs'
     ·rcases hTk with rfl|⟨t',ht',rfl,hgt⟩
      ·exact .inl rfl
      ·refine .inr ⟨t',ht',rfl,?_⟩
       have:=k4 _ _ (hkA _ _ hgt)
       rw[Zaa.Zah (fun e=>by rw[e,gD']at this;cases this)];exact this
     ·simp only[zab,zbp]at hcl ⊢
      exact hcl
     ·rw[Zaa.Zah nDT];exact gT'
     ·rw[Zaa.Zah (ZBn hg gD (by decide))]
      exact k4 _ _ (hkA _ _ hg)
   have q94:(((c.toNat:Nat):Int) == 94)=false:=ZCm c3
   by_cases c4:c=46
   ·have q46:(((c.toNat:Nat):Int) == 46)=true:=ZDs c4
    rcases hD with⟨hd0,rfl⟩|⟨D,cap,rows,tail,ds,d,a,T,hd,rfl,hbD,gD,hcl,hnc,hcold,hhot⟩
    ·skip
     ((have hd:=tv;repeat' first|(first|apply Zad|apply Zac|apply Zab)<;>intro hd<;>try simp only[hd]|simp(disch:=first|assumption|omega|simp only[nx]<;>omega|fail)only[hd,qr,qn,ZBp,↓YA,YY,sevalprocAttr,f13,f12,f11,f2,f3,hz,hr,d0,d1,Zdi,x2,y3,b1,hb,gs,q64,q43,q94,q46,w0,dg2])<;>try revert hd;refine ttr ?_)
     exact skip (ZB3 c1 c2 (.inl hd0))
    have hrt:=hcold.two
    have hrl:=hcold.len
    have lD:=Zaa.lt gD
    have hdl:rows.length+1<=k:=by have:=hG.bd.dims;rw[hd]at this;simp at this;omega
    have w1:IntKind.i64.wrap (((rows.length+1:Nat):Int) - 1)=(rows.length:Int):=by rw[Zaw (by omega) (by omega)];omega
    have dk2:decide ((rows.length:Int)<0)=false:=by simp
    have i1:(0:Int)<=(rows.length:Int):=by omega
    have i2:((rows.length:Nat):Int)<((rows.length+1:Nat):Int):=by omega
    have i3:(((rows.length:Nat):Int)).toNat=rows.length:=by omega
    have n00:(((0:Nat):Int) == 0)=true:=rfl
    rcases hhot with⟨ht,rfl⟩|⟨capA,rowsA,tailA,rfl,hbT,gT,hRT,hne,htl,htc⟩
    ·have ga:=get_at (rows:=rows) (x:=eS d.name) (y:=.sl .full []) (tail:=tail) hrt
     skip
     ((have hd:=tv;repeat' first|(first|apply Zad|apply Zac|apply Zab)<;>intro hd<;>try simp only[hd]|simp(disch:=first|assumption|omega|simp only[nx]<;>omega|fail)only[hd,qr,qn,ZBp,↓YA,YY,sevalprocAttr,f13,f12,f11,f2,f3,hz,hr,d0,d1,Zdi,x2,y3,b1,hb,gs,gD,q64,q43,q94,q46,w1,dk2,i1,i2,i3,ga,n00,List.length_nil])<;>try revert hd;refine ttr ?_)
     exact skip (ZB3 c1 c2 (.inr (.inr ⟨c4,ds,d,hd,ht⟩)))
    cases htr:d.tiers with
    | nil=>exact absurd htr hne
    | cons t q =>
    rw[htr]at hRT htc hne
    obtain⟨t1,t2,rowsQ,rfl⟩:=hRT.head
    have hRQ:ZBQ rowsQ q:=hRT.tail
    have ga:=get_at (rows:=rows) (x:=eS d.name) (y:=.arr T 0 d.tiers.length capA) (tail:=tail) hrt
    rw[htr]at ga gD hcl
    have n01:(((q.length+1:Nat):Int) == 0)=false:=by simp only[beq_eq_false_iff_ne];omega
    have hl0:(t :: q).length=q.length+1:=rfl
    have gT':G.get T=some (.cells (trC t t1 t2++(rowsQ.flatten++tailA)) 102):=gT
    have hcut:=ZyM 62 r
    have hpl:(ZyA 62 r).length<=r.length+1:=ZBo 62 r
    rw[hl0]at ga gD hcl
    have hsp:=fun H=>ZBj 62 r H (by omega)
    skip
    ((have hd:=tv;repeat' first|(first|apply Zad|apply Zac|apply Zab)<;>intro hd<;>try simp only[hd]|simp(disch:=first|assumption|omega|simp only[nx]<;>omega|fail)only[hd,qr,qn,ZBp,↓YA,YY,sevalprocAttr,f13,f12,f11,f2,f3,hz,hr,d0,d1,Zdi,x2,y3,b1,hb,gs,gD,q64,q43,q94,q46,w1,dk2,i1,i2,i3,ga,n01,htr,hl0,List.length_cons])<;>try revert hd;refine ttr ?_)
    refine qcp (hsp _) fun k1=>?_
    have hp0:(rS (ZyA 62 r))[0]?=some [eS (ZyS 62 r).1]:=by rw[hcut];rfl
    have z0:(0:Int)<=0:=za9 _
    have hpos:(0:Int)<(((ZyA 62 r).length:Nat):Int):=by rw[hcut,List.length_cons];omega
    have hcl1:(ZyS 62 r).1.length<=r.length:=by have:=Zzb 62 r;split at this<;>omega
    ((have hd:=tv;repeat' first|(first|apply Zad|apply Zac|apply Zab)<;>intro hd<;>try simp only[hd]|simp(disch:=first|assumption|omega|simp only[nx]<;>omega|fail)only[hd,qr,qn,ZBp,↓YA,YY,sevalprocAttr,f13,f12,f11,f2,f3,hp0,z0,hpos,zar])<;>try revert hd;refine ttr ?_)
    have htx:=fun H=>ZzE (ZyS 62 r).1 H (by omega)
    unfold eText at htx
    have hwr:ZBE s (c :: r)={ s with dims:=ds++[{ d with tiers:=ZBZ t r q :: q }] }:=by
     simp only[ZBE,if_neg c1,if_neg c2,hd,ZnA,ZBH,ZCG,if_neg c3,htr]
     rw[if_neg (by rw[c4];decide)]
    unfold ZBZ at hwr
    generalize (ZyG (ZyS 62 r).1).getD []=text at *
    generalize (ZyG (ZyS 62 r).1).isSome=okt at *
    have i4:(0:Int)<((q.length+1:Nat):Int):=by omega
    have i5:(q.length+1:Nat)<=k:=by have:=hG.bd.tiers d (by rw[hd];simp);rw[htr]at this;exact this
    have tk3:(trC t t1 t2++(rowsQ.flatten++tailA)).take 3=trC t t1 t2:=rfl
    have gl3:3<=(trC t t1 t2++(rowsQ.flatten++tailA)).length:=by simp
    refine qcp (htx _) fun k2=>?_
    generalize hCC:trC t t1 t2++(rowsQ.flatten++tailA)=CC at *
    generalize hRR:trC t t1 t2=RR at *
    have hR3:RR.length=3:=by rw[<- hRR];rfl
    have hd3:List.drop 3 [AV.sc (Value.string ⟨#[]⟩),AV.sc (Value.slice none 0 0),AV.sc (Value.slice none 0 0)]=[]:=rfl
    ((have hd:=tv;repeat' first|(first|apply Zad|apply Zac|apply Zab)<;>intro hd<;>try simp only[hd]|simp(disch:=first|assumption|omega|simp only[nx]<;>omega|fail)only[hd,qr,qn,ZBp,↓YA,YY,sevalprocAttr,f13,f12,f11,f2,f3,gs,gD,gT',i1,i2,i3,ga,z0,i4,hl0,tk3,gl3,YZd,hR3,hd3,zaB])<;>try revert hd;refine ttr ?_)
    subst hCC hRR
    have hxn:=hx.next
    have lT:=Zaa.lt gT
    have bt:=hG.bd.terms d (by rw[hd];simp)
    have bt0:=bt t (by rw[htr];simp)
    have hkA:∀i o,G.get i=some o->(((G.bump k1).bump k2).alloc (.cells (trC t t1 t2) 102)).get i=some o:=fun i o hg=>by
     have:=Zaa.lt hg
     rw[Zaa.Zag (by simp only[nx];omega),Zaa.ZaB,Zaa.ZaB];exact hg
    have nTs:T≠H.next+1:=fun e=>by rw[e,gs]at gT;injection gT with h;injection h with _ h;exact absurd h (by decide)
    have nTD:D≠T:=ZBn gD gT (by decide)
    have hpp:∀p∈ZyA 62 r,p.length<=100000:=fun p hp=>by have:=ZBw 62 r p hp;omega
    refine ZE2 (is:=H.next+1) (i2:=H.next) (i10:=G.next+k1+k2) (D:=D) (T:=T) (cap:=cap) (capT:=capA) (tm:=.sl tok (rS s.meas)) (rows:=rows) (nm:=d.name) (tail:=tail) (tl:=tailA) (t:=t) (q:=q) (t1:=t1) (t2:=t2) (rowsQ:=rowsQ) (l:=l) (k:=k) (tw:=tw) (ps:=ZyA 62 r) (text:=text) ⟨f2,f3,rfl,rfl,rfl,f11,f12,f13⟩ rfl ⟨hkA _ _ gs,hkA _ _ gD,hrt,⟨hcl,hnc⟩,hkA _ _ gT⟩ hRQ (Zaa.Zat rfl) (by omega) (by omega) (by omega) (by omega) (by omega) (by omega) (fun u hu=>by have:=bt u (by rw[htr];exact zaD _ hu);omega) hpp (by omega) (by omega) ?_
    rintro F' G' s1 s2 ⟨e2,e3,e6,e7,e10,e11,e12,e13⟩ gT2 ⟨hn2,hk2⟩
    simp only[nx]at hn2
    have hk3:∀i o,i≠T->G.get i=some o->G'.get i=some o:=fun i o hi hg=>hk2 i o hi (by have:=Zaa.lt hg;omega) (hkA _ _ hg)
    skip
    ((have hd:=tv;repeat' first|(first|apply Zad|apply Zac|apply Zab)<;>intro hd<;>try simp only[hd]|simp(disch:=first|assumption|omega|simp only[nx]<;>omega|fail)only[hd,qr,qn,ZBp,↓YA,YY,sevalprocAttr,e13,e12,e11,e2,e3])<;>try revert hd;refine ttr ?_)
    refine fin _ ?_
    rw[hwr]
    refine⟨by omega,fun i o hi hg=>hk3 i o (by omega) hg,⟨bis,_,tok,hk3 _ _ nTs.symm gs,?_,.inr ⟨D,cap,rows,tail,ds,_,.arr T 0 (q.length+1) capA,T,rfl,rfl,hbD,hk3 _ _ nTD gD,hcl,hnc,hcold.keep fun i cs hi hg=>hk3 _ _ hi hg,.inr ⟨capA,_ :: rowsQ,tailA,rfl,hbT,(by rw[List.flatten_cons,zak];exact gT2),.cons _ _ _ _ _ hRQ,by simp,htl,htc⟩⟩⟩,fun cs hg=>hk3 _ _ (fun e=>by rw[e,gT]at hg;injection hg with h;injection h with _ h;exact absurd h (by decide)) hg⟩
    rcases hTk with rfl|⟨t',ht',rfl,hgt⟩
    ·exact .inl rfl
    ·exact .inr ⟨t',ht',rfl,hk3 _ _ (fun e=>by rw[e,gT]at hgt;cases hgt) hgt⟩
   have q46:(((c.toNat:Nat):Int) == 46)=false:=ZCm c4
   have hlenD:∀m:Nat,m<=3000->∃x,IntKind.i64.wrap (((m:Nat):Int) - 1)=x:=fun m _=>⟨_,rfl⟩
   rcases hD with⟨hd0,rfl⟩|⟨D,cap,rows,tail,ds,d,a,T,hd,rfl,hbD,gD,hcl,hnc,hcold,hhot⟩
   ·skip
    ((have hd:=tv;repeat' first|(first|apply Zad|apply Zac|apply Zab)<;>intro hd<;>try simp only[hd]|simp(disch:=first|assumption|omega|simp only[nx]<;>omega|fail)only[hd,qr,qn,ZBp,↓YA,YY,sevalprocAttr,f13,f12,f11,f2,f3,hz,hr,d0,d1,Zdi,x2,y3,b1,hb,gs,q64,q43,q94,q46,w0])<;>try revert hd;refine ttr ?_)
    exact skip (ZB3 c1 c2 (.inl hd0))
   ·skip
    ((have hd:=tv;repeat' first|(first|apply Zad|apply Zac|apply Zab)<;>intro hd<;>try simp only[hd]|simp(disch:=first|assumption|omega|simp only[nx]<;>omega|fail)only[hd,qr,qn,ZBp,↓YA,YY,sevalprocAttr,f13,f12,f11,f2,f3,hz,hr,d0,d1,Zdi,x2,y3,b1,hb,gs,q64,q43,q94,q46])<;>try revert hd;refine ttr ?_)
    exact skip (ZB3 c1 c2 (.inr (.inl ⟨c3,c4⟩)))
 ·rintro F G ⟨f13,f12,f11,f2,f3,hx,g2,s,hS,hG,hT⟩
  have g2:G.get H.next=some (.cells [.sl .full [],.sl .full []] 76):=g2
  rw[zaw]at hT
  have hT:ZFf l=s:=hT
  obtain⟨bis,aD,tok,gs,hTk,hD⟩:=hS
  have lG:=Zaa.lt gs
  have l2:=Zaa.lt g2
  skip
  ((have hd:=tv;repeat' first|(first|apply Zad|apply Zac|apply Zab)<;>intro hd<;>try simp only[hd]|simp(disch:=first|assumption|omega|simp only[nx]<;>omega|fail)only[hd,qr,qn,ZBp,↓YA,YY,sevalprocAttr,f2,f3,gs,g2])<;>try revert hd;refine ttr ?_)
  rw[hT]
  have ne2:H.next≠H.next+1:=by omega
  have hfz:∀G',(∀i cs E,(E=102\/E=100)->G.get i=some (.cells cs E)->G'.get i=some (.cells cs E))->Frz G' (fun i=>decide (H.next<=i)) aD (.sl .no (rD s.dims)):=fun G' hk=>by
   rcases hD.keep hk with h|⟨D,cap,rows,tail,ds,d,a,T,h1,h2,h3,h4,h5,h6,h7,h8⟩
   ·exact ZHd (b:=H.next) (tm:=.full) (.inl h) fun i cs E hi _ _=>decide_eq_true hi
   ·exact frz_dimO h1 h2 h3 h4 h5 h6 h7 h8 fun i cs hi _=>decide_eq_true hi
  refine ZpD (D:=fun i=>decide (H.next<=i)) (.agg _ _ rfl (ZFd (hfz _ ?_) (ZCR _ _))) (fun i hi=>decide_eq_false (by omega)) (hx.set (zae _))
  intro i cs E hE hg
  rw[Zaa.Zah (ZBn hg g2 (by rcases hE with rfl|rfl<;>decide))]
  exact hg
theorem so_ok:SoOk:=fun t l H h1 h2=>ZG5 t l H h1 h2
open Go.RowKit
set_option maxHeartbeats 4000000 in
theorem ZEv (l:Tx) (H:Zaa):Zay Tryz.prog 4 [eS l] H (Pure H (.b true)):=by
 have hx0:Zaa.Ext H H:=.refl _
 by_cases h1:(l.length:Int) > 2000
 ·have d1:decide ((l.length:Int) > 2000)=true:=decide_eq_true h1
  refine Zak hE cf4 (zaa rfl) fun Q qr qn=>?_
  have hZ:=d1;refine Bz1 ?_
  refine qcp (Zzd _) fun k1=>?_
  refine Bz0 ?_
  refine ZbC (by rfl)
 have d1:decide ((l.length:Int) > 2000)=false:=decide_eq_false h1
 have hp:=fun H=>ZE1 l H (by omega)
 have hr:=fun H=>ZEK so_ok l H (by omega)
 generalize ZDl l=o at *
 cases o with
 | none =>
  have hp:∀H,Zay Tryz.prog 11 [eS l] H (Pure H (.tup [.agg [.i 0,eS []],.i 16])):=hp
  have hr:∀H,Zay Tryz.prog 12 [eS l] H (Pure H (.tup [.agg [.i 0,eS []],.b false])):=hr
  refine Zak hE cf4 (zaa rfl) fun Q qr qn=>?_
  have hZ:=d1;refine Bz1 ?_
  refine qcp (hp _) fun k1=>?_
  have hZ:=d1;refine Bz1 ?_
  refine qcp (hr _) fun k2=>?_
  have hZ:=d1;refine Bz1 ?_
  refine qcp (Zzd _) fun k3=>?_
  refine Bz0 ?_
  refine ZbC (by rfl)
 | some c =>
  obtain⟨n,b⟩:=c
  have hp:∀H,Zay Tryz.prog 11 [eS l] H (Pure H (.tup [.agg [.i n,eS b],.i 0])):=hp
  have hr:∀H,Zay Tryz.prog 12 [eS l] H (Pure H (.tup [.agg [.i n,eS b],.b true])):=hr
  have e1:scs [.int .i64,.str] [.i n,eS b]=some [.int .i64 n,.string ⟨b.toArray⟩]:=rfl
  have e2:ZgE [.int .i64 n,.string ⟨b.toArray⟩] [.int .i64 n,.string ⟨b.toArray⟩]=true:=by
   simp[ZgE,vEq,(Zmh _ _).2]
  have e3:(((0:Int)) == 0)=true:=rfl
  refine Zak hE cf4 (zaa rfl) fun Q qr qn=>?_
  have hZ:=d1;refine Bz1 ?_
  refine qcp (hp _) fun k1=>?_
  have hZ:=d1;refine Bz1 ?_
  refine qcp (hr _) fun k2=>?_
  have hZ:=an7 d1<|an7 e1<|an7 e2<|e3;refine Bz1 ?_
  refine qcp (Zzd _) fun k3=>?_
  refine Bz0 ?_
  refine ZbC (by rfl)
theorem parses_any (s:ByteArray) (H:Zaa):Zay Tryz.prog 4 [.sc (.string s)] H (fun r _=>r=.b true):=by
 have e:∀x:ByteArray,x=⟨x.data.toList.toArray⟩:=fun x=>by apply za3;simp
 have:=ZEv s.data.toList H
 unfold eS at this
 rw[<- e]at this
 exact this.mono fun r H' h=>h.1
end Go.Proofs.YtemmgefppobboaaGreatDoor
