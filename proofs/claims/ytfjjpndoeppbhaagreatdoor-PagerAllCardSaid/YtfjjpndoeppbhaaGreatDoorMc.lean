/- Texts of the walk. -/
import Derived.Test.YtfjjpndoeppbhaaGreatDoorMb
namespace Go.Proofs.YtfjjpndoeppbhaaGreatDoor
set_option linter.defProp false
set_option maxHeartbeats 64000000
set_option linter.unusedSimpArgs false
set_option linter.unusedVariables false
open Go.RowKit
section
variable {P:Prg} {eqT:EqT} {N n:Nat} {ops:Array Oper} {dirs:List (List Nat)} {ais:List AI} {tab:List (List Nat)} {L:List Nat} {chk:List (List Nat)} {F0:Fr} {K:Fr->Zaa->Prop} {g0:Gh} {H0:Zaa} {w0:World}
theorem ZbX {ais:List AI} {i d:Nat}:d∈Zb4 ais i ↔ Zb4 ais i=some d:=by simp[Option.mem_def]
theorem Inv.agr (D:Zcr n dirs ais tab L chk) {p:Nat} {val:Nat->AV} {X:Nat->Bool} {E:List Nat} {blk:Nat->Nat} {Hc:Zaa} {g:Gh} {w:World} {a:Act} (I:Inv P N n dirs ais L chk F0 K g0 H0 w0 p val X E blk Hc g w a) {i:Nat} (hin:i<n) (hX:X i=false) (hd:∀k∈dirs.getD i [],X k=true) (hq:L.idxOf i<=p) {ai:AI} (ha:ais[i]?=some ai):Agr ai.reads (ovl ais E (fx ais L F0 X val p)) (frm ais L F0 val (L.idxOf i)):=by
 have hpre:=D.listed I.down i hin hd
 intro t ht
 have hrd:Zmr ais i=ai.reads:=by simp[Zmr,ha]
 rw[Zff (fun k hk hdk=>by
  obtain⟨q1,q2,q3,q4⟩:=I.en k hk
  have hki:k≠i:=by rintro rfl;rw[q3]at hX;cases hX
  rcases D.tmp k q1 i hin hki t (ZbX.2 hdk) (.inl (by rw[hrd];exact ht))with h|h
  ·have:=(D.lin i hin k h).2;omega
  ·have:=D.listed I.down k q1 (I.down k q1 q3) i h
   rw[this]at hX;cases hX)]
 refine fx_get (fun r j hr hj hdj=>?_) hq (fun r j hr hr2 hj hdj=>?_)
 ·obtain⟨hpj,hjn⟩:=D.pos hj
  have hji:j≠i:=by rintro rfl;omega
  rcases D.tmp j hjn i hin hji t (ZbX.2 hdj) (.inl (by rw[hrd];exact ht))with h|h
  ·exact hpre j h
  ·have:=(D.lin j hjn i h).2;omega
 ·obtain⟨hpj,hjn⟩:=D.pos hj
  by_cases hji:j=i
  ·subst hji;exact hX
  ·rcases D.tmp j hjn i hin hji t (ZbX.2 hdj) (.inl (by rw[hrd];exact ht))with h|h
   ·have:=(D.lin i hin j h).2;omega
   ·cases hXj:X j with
    | false=>rfl
    | true =>
     have:=D.listed I.down j hjn (I.down j hjn hXj) i h
     rw[this]at hX;cases hX
theorem Inv.done (D:Zcr n dirs ais tab L chk) {p:Nat} {val:Nat->AV} {X:Nat->Bool} {E:List Nat} {blk:Nat->Nat} {Hc:Zaa} {g:Gh} {w:World} {a:Act} (I:Inv P N n dirs ais L chk F0 K g0 H0 w0 p val X E blk Hc g w a) (hall:∀i<n,X i=true):KR N g0 H0 w0 K a w:=by
 obtain⟨p,val,E,Hc,g,I,hnf⟩:=Inv.norm D _ p val E Hc g rfl I
 have hpn:p=n:=by
  rcases hnf with h|⟨e,he,_,hX⟩
  ·exact h
  ·rw[hall e (D.pos he).2]at hX;cases hX
 subst hpn
 have hE:E=[]:=by
  apply zbR.2
  intro i hi
  obtain⟨q1,_,_,q4⟩:=I.en i hi
  have:=(D.at q1).2
  omega
 subst hE
 have haw:=I.aw
 rw[zbg (by rw[D.len];exact zad _)]at haw
 simp only[ents,List.filterMap_nil,Zaj]at haw
 have hfr:FR g w N (fx ais L F0 X val p) a:=I.fr
 refine⟨_,Hc,g,haw,hfr.congr (fun t=>?_),I.wr,I.st⟩
 exact(ZmI (fun r i _ hi _=>hall i (D.pos hi).2)).symm
theorem Inv.late (D:Zcr n dirs ais tab L chk) {p:Nat} {val:Nat->AV} {X:Nat->Bool} {E:List Nat} {blk:Nat->Nat} {Hc:Zaa} {g g':Gh} {w w':World} {a a':Act} (I:Inv P N n dirs ais L chk F0 K g0 H0 w0 p val X E blk Hc g w a) {i:Nat} (hin:i<n) (hX:X i=false) (hd:∀k∈dirs.getD i [],X k=true) (hq:L.idxOf i<p)
  (hfr:FR g' w' N (Fr.put (ovl ais E (fx ais L F0 X val p)) (Zb4 ais i) (val i)) a') (hwr:WR g' Hc w') (hst:Stp g0 H0 w0 g' Hc w') (hpend:∀k∈E,∀ak,ais[k]?=some ak->Pend g' Hc w' a' (blk k) ak):Inv P N n dirs ais L chk F0 K g0 H0 w0 p val (fun j=>if j=i then true else X j) E blk Hc g' w' a':=by
 have hEi:∀k∈E,k≠i:=fun k hkE h=>by have:=(I.en k hkE).2.2.1;rw[h,hX]at this;cases this
 have hEd:∀k∈E,∀t,Zb4 ais i=some t->Zb4 ais k≠some t:=by
  intro k hk t hdi hdk
  obtain⟨q1,q2,_⟩:=I.en k hk
  have:=D.own k q1 q2 i hin (fun h=>hEi k hk h.symm) t (ZbX.2 hdk)
  exact this (ZbX.2 hdi)
 refine⟨I.hp,I.aw,fun j hj hXj=>?_,fun j hj hk hpj=>?_,fun j hj hXj k hk=>?_,hfr.congr (fun t=>?_),hwr,hst,fun j hj hXj hpj=>?_,I.nd,fun k hk=>?_,hpend,I.dist,I.fresh⟩
 ·by_cases h:j=i
  ·subst h;exact .inl hq
  ·exact I.sub j hj (by simpa [h] using hXj)
 ·by_cases h:j=i
  ·simp[h]
  ·simp only[if_neg h];exact I.effs j hj hk hpj
 ·by_cases h:j=i
  ·subst h
   have:=hd k hk
   split
   ·rfl
   ·exact this
  ·have:=I.down j hj (by simpa [h] using hXj) k hk
   split
   ·rfl
   ·exact this
 ·have hfa:Fr.get (fx ais L F0 (fun j=>if j=i then true else X j) val p) t=Fr.get (Fr.put (fx ais L F0 X val p) (Zb4 ais i) (val i)) t:=by
   refine fx_add (D.at hin).1 (fun r hr=>((D.pos hr).1).symm) hX hq (fun r j hr hr2 hj hdi hdj=>?_)
   obtain⟨hpj,hjn⟩:=D.pos hj
   have hji:j≠i:=by rintro rfl;omega
   rcases D.tmp j hjn i hin hji t (ZbX.2 hdj) (.inr (ZbX.2 hdi))with h|h
   ·have:=(D.lin i hin j h).2;omega
   ·cases hXj:X j with
    | false=>rfl
    | true =>
     have:=D.listed I.down j hjn (I.down j hjn hXj) i h
     rw[this]at hX;cases hX
  rw[Fr.get_put]
  by_cases hdi:Zb4 ais i=some t
  ·rw[if_pos hdi,Zff (fun k hk=>hEd k hk t hdi),hfa,Fr.get_put,if_pos hdi]
  ·rw[if_neg hdi]
   rcases ZeI (ais:=ais) (F:=fx ais L F0 (fun j=>if j=i then true else X j) val p) (t:=t) (E:=E)with⟨⟨k,hk,hdk⟩,hg⟩|⟨hn,hg⟩
   ·rw[hg,ZiS hk hdk]
   ·rw[hg,Zff hn,hfa,Fr.get_put,if_neg hdi]
 ·by_cases h:j=i
  ·simp[h]at hXj
  ·simp only[if_neg h]at hXj
   exact I.facts j hj hXj hpj
 ·obtain⟨q1,q2,q3,q4⟩:=I.en k hk
  exact⟨q1,q2,by simp[q3],q4⟩
theorem Inv.made (D:Zcr n dirs ais tab L chk) {p:Nat} {val:Nat->AV} {X:Nat->Bool} {E:List Nat} {blk:Nat->Nat} {Hc:Zaa} {g:Gh} {w:World} {a:Act} (I:Inv P N n dirs ais L chk F0 K g0 H0 w0 p val X E blk Hc g w a) {i:Nat} (hin:i<n) (hX:X i=false) (hd:∀k∈dirs.getD i [],X k=true) (hk:ZbL ais i=3) {d Et:Nat} {z:AV} (ha:ais[i]?=some ⟨none,some d,.box Et (.c z)⟩) (hdN:d<N) {carr:Array Value} (hz:∀g w cs,z.cells=some cs->VRs g w cs carr.toList/\∀x∈cs,x.one=true) :
  Inv P N n dirs ais L chk F0 K g0 H0 w0 p val (fun j=>if j=i then true else X j) (i :: E) (fun j=>if j=i then w.heap.size else blk j) Hc g (w.alloc (.cells carr Et)) (a.put (some d) (.pointer (some ⟨w.heap.size,0,none⟩))):=by
 have hEi:∀k∈E,k≠i:=fun k hkE h=>by have:=(I.en k hkE).2.2.1;rw[h,hX]at this;cases this
 have hdst:Zb4 ais i=some d:=by simp[Zb4,ha]
 obtain⟨k1,k2⟩:=Zv5 I.wr (.cells carr Et)
 have hpi:p<=L.idxOf i:=by
  rcases zbK (L.idxOf i) p with h|h
  ·have:=I.effs i hin Xa h
   rw[hX]at this;cases this
  ·exact h
 have hsz0:=I.st.size
 have hfx:fx ais L F0 (fun j=>if j=i then true else X j) val p=fx ais L F0 X val p:=by
  refine fx_X (fun r j hr hj=>?_)
  have:j≠i:=by rintro rfl;have:=(D.pos hj).1;omega
  simp[this]
 have hput:∀t,t≠d->(a.put (some d) (.pointer (some ⟨w.heap.size,0,none⟩))).tmps.getD t undef=a.tmps.getD t undef:=by
  intro t ht
  simp[Act.put,zaQ,zbn ht]
 have hputd:(a.put (some d) (.pointer (some ⟨w.heap.size,0,none⟩))).tmps.getD d undef=.pointer (some ⟨w.heap.size,0,none⟩):=by
  simp[Act.put,zaQ,I.fr.size,hdN]
 refine⟨I.hp,I.aw,fun j hj hXj=>?_,fun j hj hk' hpj=>?_,fun j hj hXj k hk'=>?_,?_,k1,I.st.trans k2,fun j hj hXj hpj=>?_,?_,fun k hk'=>?_,fun k hk' ak hak=>?_,fun k hk' k2' hk2' hb=>?_,fun k hk'=>?_⟩
 ·by_cases h:j=i
  ·subst h;exact .inr Xc
  ·exact(I.sub j hj (by simpa [h] using hXj)).imp id (fun h=>by simp[h])
 ·by_cases h:j=i
  ·simp[h]
  ·simp only[if_neg h];exact I.effs j hj hk' hpj
 ·by_cases h:j=i
  ·subst h
   have:=hd k hk'
   split
   ·rfl
   ·exact this
  ·have:=I.down j hj (by simpa [h] using hXj) k hk'
   split
   ·rfl
   ·exact this
 ·rw[hfx]
  have hF:=I.fr.mono k2.le
  refine⟨by simpa [Act.put] using hF.size,hF.df,fun t=>?_⟩
  by_cases htd:t=d
  ·subst htd
   rw[ZiS (zak) hdst]
   exact .any _
  ·rw[hput t htd]
   have:=hF.get t
   have e:Fr.get (ovl ais (i :: E) (fx ais L F0 X val p)) t=Fr.get (ovl ais E (fx ais L F0 X val p)) t:=by
    simp only[ovl,List.foldr_cons]
    rw[Fr.get_put,if_neg (by rw[hdst];simp;omega)]
   rw[e]
   exact this
 ·by_cases h:j=i
  ·simp[h]at hXj
  ·simp only[if_neg h]at hXj
   exact I.facts j hj hXj hpj
 ·exact zaU.2 ⟨fun h=>hEi i h rfl,I.nd⟩
 ·rcases zay.1 hk' with rfl|hk'
  ·exact⟨hin,hk,Xc,hpi⟩
  ·obtain⟨q1,q2,q3,q4⟩:=I.en k hk'
   exact⟨q1,q2,by simp[q3],q4⟩
 ·rcases zay.1 hk' with rfl|hk'
  ·rw[ha]at hak
   injection hak with hak
   subst hak
   simp only[if_true]
   refine⟨d,Et,z,carr,rfl,hputd,heap_alloc_new w _,hz,fun j hj=>absurd (I.wr.ro _ _ hj) Xa,fun⟨id,o,h1,h2⟩=>?_⟩
   have:=I.wr.bd id o _ h1 h2
   omega
  ·have hki:=hEi k hk'
   simp only[if_neg hki]
   obtain⟨d',Et',z',carr',e',r1,r2,r3,r4,r5⟩:=I.pend k hk' ak hak
   have hdd:d'≠d:=by
    rintro rfl
    obtain⟨q1,q2,_⟩:=I.en k hk'
    have:=D.own k q1 q2 i hin (fun h=>hki h.symm) d' (by simp[Zb4,hak,e'])
    exact this (by simp[hdst])
   have hbl:blk k<w.heap.size:=(zao.1 r2).1
   exact⟨d',Et',z',carr',e',by rw[hput d' hdd];exact r1,(heap_alloc_old w _ hbl).trans r2,r3,r4,r5⟩
 ·have hold:∀k∈E,blk k<w.heap.size:=by
   intro k hk
   have hkl:k<ais.length:=by rw[D.alen];exact(I.en k hk).1
   obtain⟨d',Et',z',carr',e',r1,r2,_⟩:=I.pend k hk _ (zab hkl)
   exact(zao.1 r2).1
  rcases zay.1 hk' with e1|e1
  ·rcases zay.1 hk2' with e2|e2
   ·rw[e1,e2]
   ·have hne:=hEi _ e2
    simp only[if_pos e1,if_neg hne]at hb
    have:=hold _ e2
    omega
  ·have hne:=hEi _ e1
   rcases zay.1 hk2' with e2|e2
   ·simp only[if_pos e2,if_neg hne]at hb
    have:=hold _ e1
    omega
   ·have hne2:=hEi _ e2
    simp only[if_neg hne,if_neg hne2]at hb
    exact I.dist k e1 k2' e2 hb
 ·rcases zay.1 hk' with rfl|hk'
  ·simp only[if_true];omega
  ·simp only[if_neg (hEi k hk')]
   exact I.fresh k hk'
theorem Inv.effect (D:Zcr n dirs ais tab L chk) {p:Nat} {val:Nat->AV} {X:Nat->Bool} {E:List Nat} {blk:Nat->Nat} {Hc H':Zaa} {g g':Gh} {w w':World} {a a':Act} (I:Inv P N n dirs ais L chk F0 K g0 H0 w0 p val X E blk Hc g w a) {e:Nat} (he:L[p]?=some e) (hk:ZbL ais e=2) (hXe:X e=false) (hd:∀k∈dirs.getD e [],X k=true) {v:AV}
  (haw:Zaj P (ents ais chk (L.drop (p+1))) (Fr.put (frm ais L F0 val p) (Zb4 ais e) v) H' K) (hsame:H'=Hc\/∀r∈chk.getD e [],∀ar,ais[r]?=some ar->ar.stable (Fr.put (frm ais L F0 val p) (Zb4 ais e) v) H')
  (hfr:FR g' w' N (Fr.put (ovl ais E (fx ais L F0 X val p)) (Zb4 ais e) v) a') (hwr:WR g' H' w') (hst:Stp g0 H0 w0 g' H' w') (hpend:∀k∈E,∀ak,ais[k]?=some ak->Pend g' H' w' a' (blk k) ak):Inv P N n dirs ais L chk F0 K g0 H0 w0 (p+1) (upd val e v) (fun j=>if j=e then true else X j) E blk H' g' w' a':=by
 have hEe:∀k∈E,k≠e:=fun k hkE h=>by have:=(I.en k hkE).2.2.1;rw[h,hXe]at this;cases this
 have hEd:∀k∈E,∀t,Zb4 ais e=some t->Zb4 ais k≠some t:=by
  intro k hk t hdi hdk
  obtain⟨q1,q2,_⟩:=I.en k hk
  have:=D.own k q1 q2 e (D.pos he).2 (fun h=>hEe k hk h.symm) t (ZbX.2 hdk)
  exact this (ZbX.2 hdi)
 obtain⟨hpos,hen⟩:=D.pos he
 have hpl:p<n:=by rw[<- D.len];exact(zah.1 he).1
 have hne:∀r,r<p->L[r]?≠some e:=fun r hr h=>by have:=(D.pos h).1;omega
 have hpre:=D.listed I.down e hen hd
 have eF:frm ais L F0 (upd val e v) (p+1)=Fr.put (frm ais L F0 val p) (Zb4 ais e) v:=by
  simp only[frm,he]
  rw[ZdM hne]
  simp[upd]
 refine⟨Xa,by rw[eF];exact haw,fun j hj hXj=>?_,fun j hj hkj hpj=>?_,fun j hj hXj k hk'=>?_,?_,hwr,hst,fun j hj hXj hpj aj haj=>?_,I.nd,fun k hk'=>?_,hpend,I.dist,I.fresh⟩
 ·by_cases h:j=e
  ·subst h;exact .inl Xa
  ·exact(I.sub j hj (by simpa [h] using hXj)).imp (fun h=>by omega) id
 ·by_cases h:j=e
  ·simp[h]
  ·simp only[if_neg h]
   refine I.effs j hj hkj ?_
   have:L.idxOf j≠p:=by
    intro hjp
    have h1:=(D.at hj).1
    rw[hjp,he]at h1
    injection h1 with h1
    exact h h1.symm
   omega
 ·by_cases h:j=e
  ·subst h
   have:=hd k hk'
   split
   ·rfl
   ·exact this
  ·have:=I.down j hj (by simpa [h] using hXj) k hk'
   split
   ·rfl
   ·exact this
 ·have e1:fx ais L F0 (fun j=>if j=e then true else X j) (upd val e v) (p+1)=Fr.put (fx ais L F0 X val p) (Zb4 ais e) v:=by
   simp only[fx,he,if_true]
   rw[Zj2 hne,fx_X (X:=X) (X':=fun j=>if j=e then true else X j)]
   ·simp[upd]
   ·intro r j hr hj
    have:j≠e:=by rintro rfl;exact hne r hr hj
    simp[this]
  rw[e1]
  refine hfr.congr (fun t=>?_)
  rw[Fr.get_put]
  by_cases hde:Zb4 ais e=some t
  ·rw[if_pos hde,Zff (fun k hk=>hEd k hk t hde),Fr.get_put,if_pos hde]
  ·rw[if_neg hde]
   rcases ZeI (ais:=ais) (F:=Fr.put (fx ais L F0 X val p) (Zb4 ais e) v) (t:=t) (E:=E)with⟨⟨k,hk,hdk⟩,hg⟩|⟨hn,hg⟩
   ·rw[hg,ZiS hk hdk]
   ·rw[hg,Zff hn,Fr.get_put,if_neg hde]
 ·have hje:j≠e:=by rintro rfl;simp at hXj
  simp only[if_neg hje]at hXj
  have hjp:L.idxOf j<p:=by
   have:L.idxOf j≠p:=by
    intro hjp
    have h1:=(D.at hj).1
    rw[hjp,he]at h1
    injection h1 with h1
    exact hje h1.symm
   omega
  rw[ZdM (fun r hr=>hne r Xa)]
  have hval:upd val e v j=val j:=by simp[upd,hje]
  rw[hval]
  rcases I.facts j hj hXj hjp aj haj with h|⟨h1,h2⟩
  ·exact .inl h
  ·refine .inr ⟨h1,?_⟩
   rcases hsame with rfl|hstab
   ·exact h2
   ·have hkj0:ZbL ais j=aj.kind:=by simp[ZbL,haj]
    have hk2:¬2<=ZbL ais j:=fun h=>by rw[I.effs j hj h hjp]at hXj;cases hXj
    have hkj:ZbL ais j=aj.op.kind:=by
     rcases aj.ZcJ with⟨h,_⟩|h<;>omega
    have hk01:aj.op.kind=0\/aj.op.kind=1:=Xa
    rcases hk01 with hk0|hk1
    ·exact(Zi7 hk0 h2).2 H'
    ·have hnt:j ∉ tab.getD e []:=fun h=>by rw[hpre j h]at hXj;cases hXj
     obtain⟨c1,c2,c3,c4⟩:=D.hchk e hen hk j hj (by rw[hkj];exact hk1) Xa hnt
     obtain⟨d,hdj⟩:=zb3.1 c2
     have hst:=hstab j c1 aj haj
     have hrd:Zmr ais j=aj.reads:=by simp[Zmr,haj]
     have hjp1:=D.at hj
     -- the frame now,seen from the frame then
     have hagr:Agr aj.reads (Fr.put (frm ais L F0 val p) (Zb4 ais e) v) (frm ais L F0 val (L.idxOf j)):=by
      intro t ht
      have ht':t∈Zmr ais j:=by rw[hrd];exact ht
      rw[Fr.get_put,if_neg (fun h=>(c4 e hen Xa Xa t (ZbX.2 h)).1 ht')]
      refine ZmB Xa (fun r i hr hr2 hi hdi=>?_)
      obtain⟨hpi,hin⟩:=D.pos hi
      by_cases hri:r=L.idxOf j
      ·have:i=j:=by
        have h1:=hjp1.1
        rw[<- hri,hi]at h1
        injection h1
       subst this
       exact c3 t (ZbX.2 hdi) ht'
      ·exact(c4 i hin Xa Xa t (ZbX.2 hdi)).1 ht'
     have hgetd:Fr.get (Fr.put (frm ais L F0 val p) (Zb4 ais e) v) d=val j:=by
      rw[Fr.get_put,if_neg (fun h=>(c4 e hen Xa Xa d (ZbX.2 h)).2 (ZbX.2 hdj))]
      rw[ZmB (q:=L.idxOf j+1) Xa (fun r i hr hr2 hi hdi=>by
       obtain⟨hpi,hin⟩:=D.pos hi
       exact(c4 i hin Xa Xa d (ZbX.2 hdi)).2 (ZbX.2 hdj))]
      simp only[frm,hjp1.1]
      rw[Fr.get_put,if_pos hdj]
     unfold AI.stable at hst
     rw[AI.Zdg hagr,h1]at hst
     simp only at hst
     obtain⟨d',hd',hev⟩:=hst
     have hdd:d'=d:=by
      have:aj.dst=some d:=by simpa [Zb4,haj] using hdj
      rw[this]at hd';injection hd' with hd';exact hd'.symm
     subst hdd
     rw[hgetd,AI.Zhd hagr]at hev
     exact hev
 ·obtain⟨q1,q2,q3,q4⟩:=I.en k hk'
  refine⟨q1,q2,by simp[q3],?_⟩
  have:L.idxOf k≠p:=by
   intro h
   have h1:=(D.at q1).1
   rw[h,he]at h1
   injection h1 with h1
   exact hEe k hk' h1.symm
  omega
theorem draw_any (hE : ∀ t ks, eqT t = some ks -> Ziv P.p t ks) (D : Zcr n dirs ais tab L chk) (hn : ops.size = n) (hops : ∀ (i : Nat) (o : Oper), ops[i]? = some o -> ∃ ai, ais[i]? = some ai /\ cAI P.p eqT N ops o = some ai) (hdirs : ∀ (i : Nat) (o : Oper), ops[i]? = some o -> dirs.getD i [] = (o.after.toList.filter (Region.binds .any)).map (·.on)) {Q : Exit -> Act -> World -> Prop} (hQ : ∀ a' w', KR N g0 H0 w0 K a' w' -> Q .normal a' w') (hP : PanQ P g0 H0 w0 Q) :
    ∀ (fuel : Nat) (listed : Array Bool) (p : Nat) (val : Nat -> AV) (E : List Nat) (blk : Nat -> Nat) (Hc : Zaa) (g : Gh) (w : World) (a : Act), listed.size = n -> (List.range n).countP (fun i => !listed.getD i false) = fuel -> Inv P N n dirs ais L chk F0 K g0 H0 w0 p val (fun i => listed.getD i false) E blk Hc g w a -> ZxO P.p .any ops Q fuel listed a w := by
  intro fuel
  have hready : ∀ (listed : Array Bool) (i : Nat), listed.size = n -> (i ∈ Region.ready .any ops listed ↔ i < n /\ listed.getD i false = false /\ ∀ k ∈ dirs.getD i [], listed.getD k false = true) := by
    intro listed i hls
    unfold Region.ready
    simp only [zbv, zbb, hn, zaV, zcG]
    constructor
    · rintro ⟨hi, h1, h2⟩
      have ho : i < ops.size := Xa
      rw [zal ho] at h2
      simp only [Option.map_some, Option.getD_some] at h2
      refine ⟨hi, ?_, fun k hk => ?_⟩
      · have : i < listed.size := Xa
        simp [Array.getD, this] at h1 ⊢
        exact h1
      · rw [hdirs i _ (zal ho)] at hk
        obtain ⟨e, he, rfl⟩ := zaH.1 hk
        obtain ⟨he1, he2⟩ := zbv.1 he
        have := zbL.1 h2 e (by simpa using he1)
        simpa [he2] using this
    · rintro ⟨hi, h1, h2⟩
      have ho : i < ops.size := Xa
      refine ⟨hi, ?_, ?_⟩
      · have : i < listed.size := Xa
        simp [Array.getD, this] at h1 ⊢
        exact h1
      · rw [zal ho]
        simp only [Option.map_some, Option.getD_some]
        refine zbL.2 (fun e he => ?_)
        by_cases hb : Region.binds .any e = true
        · have := h2 e.on (by rw [hdirs i _ (zal ho)]; exact zaH.2 ⟨e, zbv.2 ⟨by simpa using he, hb⟩, rfl⟩)
          simp [this]
        · simp [hb]
  have hnone : ∀ (listed : Array Bool), listed.size = n -> Region.ready .any ops listed = [] -> ∀ i < n, listed.getD i false = true := by
    intro listed hls hr
    have key : ∀ m i, L.idxOf i = m -> i < n -> listed.getD i false = true := by
      intro m
      induction m using Nat.strongRecOn with
      | _ m ih =>
        intro i him hi
        cases hl : listed.getD i false with
        | true => rfl
        | false =>
          have : i ∈ Region.ready .any ops listed := (hready listed i hls).2 ⟨hi, hl, fun k hk => by
            obtain ⟨hkn, hkl⟩ := D.dir i hi k hk
            exact ih (L.idxOf k) Xa k rfl hkn⟩
          rw [hr] at this; cases this
    intro i hi
    exact key _ i rfl hi
  induction fuel with
  | zero =>
    intro listed p val E blk Hc g w a hls hc I
    have hall : ∀ i < n, listed.getD i false = true := by
      intro i hi
      have := List.countP_eq_zero.1 hc i (zbb.2 hi)
      simpa using this
    refine ⟨?_, hQ _ _ (I.done D hall)⟩
    apply zbR.2
    intro i hi
    obtain ⟨h1, h2, _⟩ := (hready listed i hls).1 hi
    rw [hall i h1] at h2; cases h2
  | succ fuel ih =>
    intro listed p val E blk Hc g w a hls hc I0
    refine ⟨fun hr => hQ _ _ (I0.done D (hnone listed hls hr)), fun i hi => ?_⟩
    obtain ⟨hin, hX, hd⟩ := (hready listed i hls).1 hi
    obtain ⟨p, val, E, Hc, g, I, hnf⟩ := Inv.norm D _ p val E Hc g rfl I0
    have ho : i < ops.size := Xa
    have hop := zal ho
    obtain ⟨ai, ha, hci⟩ := hops i _ hop
    obtain ⟨hcop, hdst, hdlt, _⟩ := ZjT hci
    have hda : Zb4 ais i = ai.dst := by simp [Zb4, ha]
    have hX2 : (fun j => (listed.setIfInBounds i true).getD j false) = fun j => if j = i then true else listed.getD j false := by
      funext j
      have hil : i < listed.size := Xa
      by_cases hji : j = i
      · subst hji
        simp [Array.getD, hil]
      · simp only [if_neg hji]
        rw [Array.getD_eq_getD_getElem?, Array.getD_eq_getD_getElem?, Array.getElem?_setIfInBounds_ne (zbn hji)]
    have hcnt : (List.range n).countP (fun j => !(listed.setIfInBounds i true).getD j false) = fuel := by
      have hfun : (fun j => !(listed.setIfInBounds i true).getD j false) = fun j => !(if j = i then true else listed.getD j false) := by
        funext j
        rw [congrFun hX2 j]
      rw [hfun]
      have key : ∀ l : List Nat, l.Nodup -> i ∈ l -> l.countP (fun j => !listed.getD j false) = l.countP (fun j => !(if j = i then true else listed.getD j false)) + 1 := by
        intro l
        induction l with
        | nil => intro _ h; cases h
        | cons x l ihl =>
          intro hnd hm
          rw [zaU] at hnd
          by_cases hx : x = i
          · subst hx
            have e : l.countP (fun j => !listed.getD j false) = l.countP (fun j => !(if j = x then true else listed.getD j false)) := by
              refine zce (fun y hy => ?_)
              have : y ≠ x := by rintro rfl; exact hnd.1 hy
              simp [this]
            rw [zbB, zbB, e]
            simp [hX]
          · have hm2 : i ∈ l := by
              rcases zay.1 hm with h | h
              · exact absurd h.symm hx
              · exact h
            rw [zbB, zbB, ihl hnd.2 hm2]
            simp [hx]
            omega
      have := key (List.range n) List.nodup_range (zbb.2 hin)
      rw [hc] at this
      omega
    have hnext : ∀ p' val' E' blk' H' g' w' a', Inv P N n dirs ais L chk F0 K g0 H0 w0 p' val' (fun j => if j = i then true else listed.getD j false) E' blk' H' g' w' a' -> ZxO P.p .any ops Q fuel (listed.setIfInBounds i true) a' w' := by
      intro p' val' E' blk' H' g' w' a' I'
      exact ih (listed.setIfInBounds i true) p' val' E' blk' H' g' w' a' (by simpa using hls) hcnt (by rw [hX2]; exact I')
    have hkeep : ∀ (g' : Gh) (H' : Zaa) (w' : World) (a' : Act), Stp g Hc w g' H' w' -> (∀ t, Zb4 ais i ≠ some t -> a'.tmps.getD t undef = a.tmps.getD t undef) -> ∀ k ∈ E, ∀ ak, ais[k]? = some ak -> Pend g' H' w' a' (blk k) ak := by
      intro g' H' w' a' hs ht k hk ak hak
      obtain ⟨q1, q2, q3, _⟩ := I.en k hk
      obtain ⟨d', Et', z', carr', e', r1, r2, r3, r4, r5⟩ := I.pend k hk ak hak
      have hbl : blk k < w.heap.size := (zao.1 r2).1
      have hki : k ≠ i := by rintro rfl; rw [hX] at q3; cases q3
      refine ⟨d', Et', z', carr', e', ?_, (hs.frame _ hbl r5).trans r2, r3, fun j hj => ?_, fun ho => r5 (hs.new _ hbl ho)⟩
      · rw [ht d' (fun hdi => by
          have := D.own k q1 q2 i hin (fun h => hki h.symm) d' (by simp [Zb4, hak, e'])
          exact this (ZbX.2 hdi))]
        exact r1
      · rcases hs.ro _ j hbl hj with h | h
        · exact r4 j h
        · exact r5 h
    have hput : ∀ (u : Value) (t : Nat), Zb4 ais i ≠ some t -> (a.put ops[i].dst u).tmps.getD t undef = a.tmps.getD t undef := by
      intro u t ht
      have hod : ops[i].dst = Zb4 ais i := by rw [hda, hdst]
      rw [hod]
      cases hdi : Zb4 ais i with
      | none => rfl
      | some k =>
        have : k ≠ t := fun h => ht (by rw [hdi, h])
        simp [Act.put, zaQ, this]
    unfold wpOp2
    rw [hop]
    simp only
    by_cases hk3 : ZbL ais i = 3
    · -- a cell is made
      obtain ⟨d, Et, z, hai⟩ : ∃ d Et z, ai = ⟨none, some d, .box Et (.c z)⟩ := by
        rcases ai.ZcJ with ⟨_, h⟩ | h
        · exact h
        · have h1 : ZbL ais i = ai.kind := by simp [ZbL, ha]
          have := ai.op.Zmc
          omega
      subst hai
      rw [if_pos (Zd0 I.fr hci rfl)]
      simp only at hcop hdst
      have hdN : d < N := hdlt d hdst.symm
      obtain ⟨zv, hzv, hrun⟩ : ∃ zv, (∀ g w, VR g w z zv) /\ ∀ (w : World), (execOp a.eval ops[i]).run P.p w = .ok (.value (.pointer (some ⟨w.heap.size, 0, none⟩))) (w.alloc (.cells zv.cells Et)) := by
        have hc0 : cOp P.p eqT ops[i].op = some (.box Et (.c z)) := by
          unfold cOpB at hcop
          split at hcop
          · rename_i ao hc; rw [hc, hcop]
          · cases hcop
        have hx : (∃ zv, ops[i].op = .alloc Et /\ Zdt P.p Et = some zv /\ z = zeroA (eqT.vec Et) zv) \/ ∃ x, ops[i].op = .box Et x /\ cX x = .c z := by
          generalize ops[i].op = op at hc0
          cases op with
          | alloc E' =>
            simp only [cOp] at hc0
            obtain ⟨zv, hz, hc0⟩ := Zao hc0
            simp only [zaa, AOp.box.injEq, AX.c.injEq] at hc0
            obtain ⟨rfl, rfl⟩ := hc0
            exact .inl ⟨zv, rfl, hz, rfl⟩
          | box E' x =>
            simp only [cOp, zaa, AOp.box.injEq] at hc0
            obtain ⟨rfl, h⟩ := hc0
            exact .inr ⟨x, rfl, h⟩
          | call c =>
            exfalso
            obtain ⟨callee, ar, ats⟩ := c
            cases callee with
            | value fo =>
              simp only [cOp] at hc0
              rcases ZCA hc0 with h | ⟨_, _, _, _, _, _, _, _, h⟩ <;> cases h
            | invoke r m => cases hc0
            | builtin bt =>
              cases bt <;> simp only [cOp] at hc0 <;> first
                | cases hc0
                | (split at hc0
                   · first
                     | (obtain ⟨d, _, hc0⟩ := Zao hc0
                        cases d <;> simp only at hc0 <;> first
                          | cases hc0
                          | (split at hc0 <;> cases hc0)
                          | (obtain ⟨i, _, hc0⟩ := Zao hc0
                             first
                             | (obtain ⟨z, _, hc0⟩ := Zao hc0
                                split at hc0
                                · first
                                  | cases hc0
                                  | (split at hc0
                                     · obtain ⟨zc, _, hc0⟩ := Zao hc0; cases hc0
                                     · cases hc0)
                                · first
                                  | cases hc0
                                  | (split at hc0
                                     · split at hc0
                                       · obtain ⟨zc, _, hc0⟩ := Zao hc0; cases hc0
                                       · cases hc0
                                     · cases hc0))
                             | cases hc0))
                     | cases hc0
                   · cases hc0)
          | build t parts =>
            exfalso
            simp only [cOp] at hc0
            obtain ⟨z, _, hc0⟩ := Zao hc0
            obtain ⟨zc, _, hc0⟩ := Zao hc0
            obtain ⟨d, _, hc0⟩ := Zao hc0
            cases d <;> simp only at hc0 <;> first
              | cases hc0
              | (split at hc0
                 · obtain ⟨ps, _, hc0⟩ := Zao hc0; cases hc0
                 · cases hc0)
              | (obtain ⟨s, _, hc0⟩ := Zao hc0; obtain ⟨ps, _, hc0⟩ := Zao hc0; cases hc0)
          | makeFunc fn first caps => exfalso; cases fn <;> simp [cOp] at hc0
          | makeMap t r =>
            exfalso
            cases r with
            | none =>
              simp only [cOp] at hc0
              obtain ⟨d, _, hc0⟩ := Zao hc0
              cases d <;> simp only at hc0 <;> first
                | cases hc0
                | (obtain ⟨kk, _, hc0⟩ := Zao hc0; cases hc0)
            | some x => simp [cOp] at hc0
          | convert src dst x =>
            exfalso
            simp only [cOp] at hc0
            obtain ⟨d1, _, hc0⟩ := Zao hc0
            obtain ⟨d2, _, hc0⟩ := Zao hc0
            split at hc0 <;> first | cases hc0 | (split at hc0 <;> cases hc0)
          | binOp op t x y t' =>
            exfalso
            simp only [cOp] at hc0
            obtain ⟨d, _, hc0⟩ := Zao hc0
            cases d <;> simp only at hc0 <;> first
              | cases hc0
              | (cases op <;> cases hc0)
              | (split at hc0
                 · cases op <;> simp [ZkL, ZzP] at hc0
                 · cases hc0)
              | (split at hc0
                 · cases hc0
                 · obtain ⟨ks, _, hc0⟩ := Zao hc0
                   cases op <;> cases hc0)
          | slice t x lo hi mx =>
            exfalso
            simp only [cOp] at hc0
            obtain ⟨d, _, hc0⟩ := Zao hc0
            cases d <;> simp only at hc0 <;> first
              | cases hc0
              | (obtain ⟨s, _, hc0⟩ := Zao hc0
                 split at hc0 <;> cases hc0)
              | (cases mx <;> cases hc0)
          | buildSlice t len parts =>
            exfalso
            simp only [cOp] at hc0
            obtain ⟨d, _, hc0⟩ := Zao hc0
            cases d <;> simp only at hc0 <;> first
              | cases hc0
              | (obtain ⟨s, _, hc0⟩ := Zao hc0
                 obtain ⟨z, _, hc0⟩ := Zao hc0
                 split at hc0 <;> first | cases hc0 | (split at hc0 <;> cases hc0))
          | makeSlice t l c =>
            exfalso
            simp only [cOp] at hc0
            obtain ⟨d, _, hc0⟩ := Zao hc0
            cases d <;> simp only at hc0 <;> first
              | cases hc0
              | (obtain ⟨s, _, hc0⟩ := Zao hc0
                 obtain ⟨z, _, hc0⟩ := Zao hc0
                 obtain ⟨zc, _, hc0⟩ := Zao hc0
                 split at hc0 <;> cases hc0)
          | fieldAddr s x f =>
            exfalso
            simp only [cOp] at hc0
            obtain ⟨d, _, hc0⟩ := Zao hc0
            cases d <;> simp only at hc0 <;> first
              | cases hc0
              | (obtain ⟨fd, _, hc0⟩ := Zao hc0
                 obtain ⟨z, _, hc0⟩ := Zao hc0
                 split at hc0 <;> cases hc0)
          | _ =>
            exfalso
            simp only [cOp] at hc0
            first
            | cases hc0
            | (obtain ⟨d, _, hc0⟩ := Zao hc0
               first
               | cases hc0
               | (obtain ⟨d2, _, hc0⟩ := Zao hc0; cases hc0)
               | (cases d <;> simp only at hc0 <;> first
                   | cases hc0
                   | (obtain ⟨s, _, hc0⟩ := Zao hc0
                      first
                      | cases hc0
                      | (obtain ⟨z, _, hc0⟩ := Zao hc0
                         first
                         | cases hc0
                         | (obtain ⟨z2, _, hc0⟩ := Zao hc0; cases hc0)))))
        rcases hx with ⟨zv, h1, h2, rfl⟩ | ⟨x, h1, h2⟩
        · refine ⟨zv, fun g w => ZwB _ zv, fun w => ?_⟩
          obtain ⟨ti, hi1, hi2⟩ := Zhk h2
          simp [execOp, h1, Instr.alloc, zeroValue, typeInfo, hi1, hi2, newVar, newRow]
        · have hzx : ∀ g w, VR g w z (a.eval x) := by
            intro g w
            cases x with
            | tmp t => cases h2
            | const v => simp only [cX, AX.c.injEq] at h2; subst h2; exact Zbt v
            | global g0 => simp only [cX, AX.c.injEq] at h2; subst h2; exact .sc _
            | func f => simp only [cX, AX.c.injEq] at h2; subst h2; exact .fn f [] [] #[] #[] rfl rfl (fun i x u h => by simp at h) (fun i x u h => by simp at h)
          refine ⟨a.eval x, hzx, fun w => ?_⟩
          simp [execOp, h1, Instr.box, newVar, newRow]
      unfold Oper.wp
      rw [hrun w]
      have := I.made D hin hX hd hk3 ha hdN (carr := zv.cells) (fun g w cs hcs => (hzv g w).cells hcs)
      have hod : ops[i].dst = some d := hdst.symm
      simp only [Oper.upon, hod]
      exact hnext _ _ _ _ _ _ _ _ this
    · rcases zbK (L.idxOf i) p with hq | hq
      · -- it could have been done earlier
        have hagr := I.agr D hin hX hd (Nat.le_of_lt hq) ha
        rcases I.facts i hin hX hq ai ha with ⟨h1, h2⟩ | ⟨h1, h2⟩
        · rw [if_neg (by rw [Zd0 I.fr hci (by rw [AI.Zdg hagr]; exact h1)]; simp)]
          refine hnext p val E blk Hc g w _ (I.late D hin hX hd hq ?_ I.wr I.st (hkeep g Hc w _ (.refl _ _ _) (hput undef)))
          rw [h2, hda, hdst]
          exact I.fr.put hdlt (.sc _)
        · rw [if_pos (Zd0 I.fr hci (by rw [AI.Zdg hagr]; exact h1))]
          have hne : ¬ 2 <= ZbL ais i := by
            intro hk
            have := I.effs i hin hk hq
            rw [hX] at this; cases this
          have hnc : ∀ f args, ai.op ≠ .call f args := by
            rintro f args e
            apply hne
            rcases ai.ZcJ with ⟨h, _⟩ | h
            · simp [ZbL, ha, h]
            · simp [ZbL, ha, h, e, AOp.kind]
          have hev : ai.op.ev (ovl ais E (fx ais L F0 (fun i => listed.getD i false) val p)) Hc = some (val i, Hc) := by rw [AI.Zhd hagr]; exact h2
          have hop2 := ZhI hE ops[i] I.fr I.wr (by rw [hcop]; exact hev)
          obtain ⟨nx, u, w', g', q1, q2, q3, q4, q5⟩ := hop2
          have hfin : ZxO P.p .any ops Q fuel (listed.setIfInBounds i true) (a.put ops[i].dst u) w' := by
            refine hnext p val E blk Hc g' w' _ (I.late D hin hX hd hq ?_ q4 (I.st.trans q5) (hkeep g' Hc w' _ q5 (hput u)))
            rw [hda, hdst]
            exact (I.fr.mono q5.le).put hdlt q3
          unfold Oper.wp
          rw [q1]
          rcases q2 with rfl | ⟨rfl, rfl⟩
          · exact hfin
          · exact hfin
      · -- it is what is next
        have hie : L[p]? = some i /\ ZbL ais i = 2 := by
          rcases hnf with hpn | ⟨e, he, hke, hXe⟩
          · have := (D.at hin).2; omega
          · obtain ⟨hpe, hen⟩ := D.pos he
            by_cases hei : e = i
            · subst hei
              refine ⟨he, ?_⟩
              have h1 : ZbL ais e = ai.kind := by simp [ZbL, ha]
              have := ai.op.Zmc
              rcases ai.ZcJ with ⟨h, _⟩ | h <;> omega
            · have hlt : L.idxOf e < L.idxOf i := by
                have : L.idxOf i ≠ p := by
                  intro h
                  have h1 := (D.at hin).1
                  rw [h, he] at h1
                  injection h1 with h1
                  exact hei h1
                omega
              have hte := D.eff e hen hke i hin hk3 hlt
              have := D.listed I.down i hin hd e hte
              rw [this] at hXe; cases hXe
        obtain ⟨hiL, hk2⟩ := hie
        have hpos := (D.pos hiL).1
        have hagr := I.agr D hin hX hd (Nat.le_of_eq hpos) ha
        rw [hpos] at hagr
        have haw := I.aw
        rw [Zfz D hiL ha] at haw
        simp only [Zaj] at haw
        split at haw
        · rename_i hw
          rw [if_pos (Zd0 I.fr hci (by rw [AI.Zdg hagr]; exact hw))]
          have hstep := AI.Zkg hagr haw
          refine (ZjY hE hci I.fr I.wr hstep (fun u w' H' g' F' hF' hK k1 k2 k3 => ?_) (hP.next I.st))
          obtain ⟨v, e1, e2, e3⟩ := hK
          subst e1
          refine hnext (p + 1) _ E blk H' g' w' _ (I.effect D hiL hk2 hX hd (v := v) (by rw [hda]; exact e3) (.inr fun r hr ar har => ?_) (by rw [hda]; exact k1) k2 (I.st.trans k3) (hkeep g' H' w' _ k3 (hput u)))
          rw [hda]
          exact e2 ar (List.mem_filterMap.2 ⟨r, hr, har⟩)
        · rename_i hw
          rw [if_neg (by rw [Zd0 I.fr hci (by rw [AI.Zdg hagr]; exact hw)]; simp)]
          refine hnext (p + 1) _ E blk Hc g w _ (I.effect D hiL hk2 hX hd (v := ZaO) (by rw [hda]; exact haw) (.inl rfl) ?_ I.wr I.st (hkeep g Hc w _ (.refl _ _ _) (hput undef)))
          rw [hda, hdst]
          exact I.fr.put hdlt (.sc _)
        · exact haw.elim
end
inductive Zar where
 | skip
 | reg (l:List AI)
 | drw (l:List (AI×List AI))
 | seq (a b:Zar)
 | cond (c:AX) (a b:Zar)
 | blk (id:Nat) (a:Zar)
 | loop (a:Zar)
 | exit (id:Nat)
 | ret
 | rf (g:AX) (ps:List Nat) (asx b:Zar)
 | bad
inductive AEx where
 | normal
 | exit (id:Nat)
 | ret
def GStep (F:Fr) (H:Zaa) (F':Fr) (H':Zaa):Prop:=∀(N:Nat) (g:Gh) (w:World) (a:Act),FR g w N F a->WR g H w->∃g',FR g' w N F' a/\WR g' H' w/\Stp g H w g' H' w
def ItK (P:Program) (f:FuncId) (caps:List AV) (ks:List Nat) (xs:List (List AV)) (H:Zaa):Prop :=
 Zmq P f/\∀(g:Gh) (w:World) (vs:List Value),WR g H w->VRs g w caps vs->∃us:List (Array Value),us.length=xs.length /\
  (∀(k:Nat) x u,xs[k]?=some x->us[k]?=some u->VRs g w x u.toList)/\SeqX P f vs.toArray us (fun b=>∃id∈ks,g.ι id=some b) w
def ZxS:Fr->List Nat->List AV->Fr
 | F,p :: ps,x :: xs=>ZxS (Fr.put F (some p) x) ps xs
 | F,_,_=>F
def Prg.calm (P:Prg):Prg:=⟨P.p,fun _ _=>False⟩
def AW:Prg->Zar->(AEx->Fr->Zaa->Prop)->Fr->Zaa->Prop
 | P,.skip,Q,F,H=>Q .normal F H
 | P,.reg l,Q,F,H=>Zau P l F H (Q .normal)
 | P,.drw l,Q,F,H=>Zaj P l F H (Q .normal)
 | P,.seq a b,Q,F,H=>AW P a (fun e F H=>match e with
  | .normal=>AW P b Q F H
  | e=>Q e F H) F H
 | P,.cond c a b,Q,F,H=>match c.ev F with
  | .sc (.bool t)=>bif t then AW P a Q F H else AW P b Q F H
  | .ub=>AW P a Q F H/\AW P b Q F H
  | _=>False
 | P,.blk id a,Q,F,H=>AW P a (fun e F H=>match e with
  | .exit k=>if k=id then Q .normal F H else Q (.exit k) F H
  | e=>Q e F H) F H
 | P,.loop a,Q,F,H=>∃I:Nat->Fr->Zaa->Prop,(∃n F' H',GStep F H F' H'/\I n F' H')/\∀n F H,I n F H->AW P a (fun e F' H'=>match e with
  | .normal=>∃m F2 H2,m<n/\GStep F' H' F2 H2/\I m F2 H2
  | e=>Q e F' H') F H
 | P,.exit id,Q,F,H=>Q (.exit id) F H
 | P,.ret,Q,F,H=>Q .ret F H
 | P,.rf gx ps asx b,Q,F,H=>match gx.ev F with
  | .fn f [] caps=>∃(ks:List Nat) (xs:List (List AV)) (H0 H1:Zaa) (I:Nat->Zaa->Prop) (Ir:Zaa->Prop),ItK P.p f caps ks xs H/\(∀x∈xs,x.length=ps.length) /\
   (∀id∈ks,(∃cs E,H.get id=some (.cells cs E))/\H0.get id=none)/\(∀i o,H0.get i=some o->H.get i=some o)/\H.next<=H0.next/\GStep F H0 F H1/\I 0 H1 /\
   (∀k x G,xs[k]?=some x->H1.next<=G.next->I k G->AW P.calm asx (fun e F1 G1=>match e with
    | .normal=>AW P.calm b (fun e _ G2=>match e with
     | .normal=>∃G3,GStep [] G2 [] G3/\I (k+1) G3
     | .ret=>∃G3,GStep [] G2 [] G3/\Ir G3
     | .exit _=>False) F1 G1
    | _=>False) (ZxS F ps x) G) /\
   (∀G,H1.next<=G.next->I xs.length G->Q .normal F G)/\∀G,H1.next<=G.next->Ir G->Q .ret F G
  | _=>False
 | _,.bad,_,_,_=>False
def calm:Code->Bool
 | .region _ ops _=>ops.toList.all fun o=>match o.op with
  | .defer _=>false
  | _=>true
 | .seq a b=>calm a&&calm b
 | .cond _ a b=>calm a&&calm b
 | .block _ a=>calm a
 | .loop a=>calm a
 | .rangeFunc ..=>false
 | _=>true
theorem Zx2 {ops:List Oper} (h:(ops.all fun o=>match o.op with
  | .defer _=>false
  | _=>true)=true):∀o∈ops,∀c,o.op≠.defer c:=fun o ho c e=>by
 have:=za6.1 h o ho
 rw[e]at this
 cases this
def ZlX (ops:Array Oper):List (List Nat):=ops.toList.map fun o=>(o.after.toList.filter (Region.binds .any)).map (·.on)
def tabOf (dirs:List (List Nat)):List (List Nat):=dirs.foldl (fun acc ds=>acc++[(ds.flatMap fun k=>k :: acc.getD k []).eraseDups]) []
def asap (n:Nat) (tab:List (List Nat)) (ais:List AI):Nat->List Nat->List Nat
 | 0,done=>done
 | fuel+1,done =>
  let rs:=(List.range n).filter fun i=>!done.contains i&&(tab.getD i []).all done.contains
  match rs.find? (fun i=>decide (ZbL ais i<2))with
  | some i=>asap n tab ais fuel (done++[i])
  | none=>match rs.find? (fun i=>ZbL ais i == 2)with
   | some i=>asap n tab ais fuel (done++[i])
   | none=>match rs with
    | i :: _=>asap n tab ais fuel (done++[i])
    | []=>done
def chkOf (n:Nat) (tab:List (List Nat)) (L:List Nat) (ais:List AI):List (List Nat):=(List.range n).map fun e =>
 if ZbL ais e=2 then (List.range n).filter fun r=>ZbL ais r == 1&&decide (L.idxOf r<L.idxOf e)&&!(tab.getD e []).contains r else []
def drawB (n:Nat) (dirs:List (List Nat)) (ais:List AI) (tab:List (List Nat)) (L:List Nat) (chk:List (List Nat)):Bool :=
 decide (L.length=n)&&(decide L.Nodup&&(decide (ais.length=n)&&((List.range n).all (fun i=>L.contains i)&&(L.all (fun i=>decide (i<n)) &&
 ((List.range n).all (fun j=>(tab.getD j []).all fun i=>(dirs.getD j []).any fun k=>decide (k<j)&&(i == k || (tab.getD k []).contains i)) &&
 ((List.range n).all (fun j=>(tab.getD j []).all fun i=>decide (i<n)&&decide (L.idxOf i<L.idxOf j)) &&
 ((List.range n).all (fun j=>(dirs.getD j []).all fun i=>decide (i<n)&&decide (L.idxOf i<L.idxOf j)) &&
 ((List.range n).all (fun i=>(Zb4 ais i).toList.all fun d=>(List.range n).all fun j=>i == j || (!((Zmr ais j).contains d || (Zb4 ais j).toList.contains d) || ((tab.getD j []).contains i || (tab.getD i []).contains j))) &&
 ((List.range n).all (fun e=>!decide (2<=ZbL ais e) || (List.range n).all fun j=>ZbL ais j == 3 || (!decide (L.idxOf e<L.idxOf j) || (tab.getD j []).contains e)) &&
 ((List.range n).all (fun e=>ZbL ais e != 3 || (List.range n).all fun j=>j == e || (Zb4 ais e).toList.all fun d=>!(Zb4 ais j).toList.contains d) &&
 (List.range n).all (fun e=>ZbL ais e != 2 || (List.range n).all fun r=>ZbL ais r != 1 || (!decide (L.idxOf r<L.idxOf e) || ((tab.getD e []).contains r ||
  ((chk.getD e []).contains r&&((Zb4 ais r).isSome&&((Zb4 ais r).toList.all (fun d=>!(Zmr ais r).contains d) &&
   (List.range n).all fun j=>!decide (L.idxOf r<L.idxOf j) || (!decide (L.idxOf j<=L.idxOf e) || (Zb4 ais j).toList.all fun d=>!(Zmr ais r).contains d&&!(Zb4 ais r).toList.contains d)))))))))))))))))
theorem drawB_ok {n:Nat} {dirs:List (List Nat)} {ais:List AI} {tab:List (List Nat)} {L:List Nat} {chk:List (List Nat)} (h:drawB n dirs ais tab L chk=true):Zcr n dirs ais tab L chk:=by
 unfold drawB at h
 simp only[zaV,decide_eq_true_eq,za6,zbb,List.any_eq_true,Bool.or_eq_true,zbo,beq_iff_eq,bne_iff_ne,ne_eq,zcG,decide_eq_false_iff_not,zcf]at h
 obtain⟨h1,h2,h3,h4,h5,h6,h7,h8,h9,h10,h12,h11⟩:=h
 refine⟨h1,h2,h3,h4,h5,fun j hj i hi=>?_,fun j hj i hi=>h7 j hj i hi,fun j hj i hi=>h8 j hj i hi,fun i hi j hj hne d hd hor=>?_,fun e he hk j hj hj3 hlt=>?_,fun e he hk j hj hne d hd hm=>?_,fun e he hk r hr hkr hlt hnt=>?_⟩
 ·obtain⟨k,hk,hkj,h⟩:=h6 j hj i hi
  exact⟨k,hk,hkj,h⟩
 ·rcases h9 i hi d hd j hj with h|h|h
  ·exact absurd h hne
  ·simp only[zct]at h
   obtain⟨ha,hb⟩:=h
   rcases hor with hor|hor
   ·have:=zbo.2 hor;rw[this]at ha;cases ha
   ·have:=zbo.2 (zcf.2 hor);rw[this]at hb;cases hb
  ·exact h
 ·rcases h10 e he with h|h
  ·exact absurd hk h
  ·rcases h j hj with h|h|h
   ·exact absurd h hj3
   ·exact absurd hlt h
   ·exact h
 ·rcases h12 e he with h|h
  ·exact absurd hk h
  ·rcases h j hj with h|h
   ·exact absurd h hne
   ·have:=h d hd
    rw[zbo.2 (zcf.2 hm)]at this;cases this
 ·rcases h11 e he with h|h
  ·exact absurd hk h
  ·rcases h r hr with h|h
   ·exact absurd hkr h
   ·rcases h with h|h
    ·exact absurd hlt h
    ·rcases h with h|⟨c1,c2,c3,c4⟩
     ·exact absurd h hnt
     ·refine⟨c1,c2,fun d hd hm=>?_,fun j hj hj1 hj2 d hd=>?_⟩
      ·have:=c3 d hd
       rw[zbo.2 hm]at this;cases this
      ·rcases c4 j hj with h|h|h
       ·exact absurd hj1 h
       ·exact absurd hj2 h
       ·obtain⟨ha,hb⟩:=h d hd
        refine⟨fun hm=>?_,fun hm=>?_⟩
        ·rw[zbo.2 hm]at ha;cases ha
        ·rw[zbo.2 (zcf.2 hm)]at hb;cases hb
def Zdu (P:Program) (eqT:EqT) (N:Nat):Code->Option Zar
 | .skip=>some .skip
 | .region _ ops false=>do let l <- ops.toList.mapM (cAI P eqT N ops);some (.reg l)
 | .region _ ops true=>do
  let ais <- ops.toList.mapM (cAI P eqT N ops)
  let tab:=tabOf (ZlX ops)
  let L:=asap ops.size tab ais ops.size []
  let chk:=chkOf ops.size tab L ais
  if P.follows .mixedOrders=true/\drawB ops.size (ZlX ops) ais tab L chk=true then some (.drw (ents ais chk L)) else some .bad
 | .seq a b=>do let a' <- Zdu P eqT N a;let b' <- Zdu P eqT N b;some (.seq a' b')
 | .cond c a b=>do let a' <- Zdu P eqT N a;let b' <- Zdu P eqT N b;some (.cond (cX c) a' b')
 | .block id a=>do let a' <- Zdu P eqT N a;some (.blk id a')
 | .loop a=>do let a' <- Zdu P eqT N a;some (.loop a')
 | .exit id=>some (.exit id)
 | .ret=>some .ret
 | .rangeFunc g ps asx b=>if calm asx&&(calm b&&ps.toList.all fun p=>decide (p<N)) then do let as' <- Zdu P eqT N asx;let b' <- Zdu P eqT N b;some (.rf (cX g) ps.toList as' b') else some .bad
 | _=>some .bad
def exm:Exit->AEx->Prop
 | .normal,.normal=>True
 | .exit i,.exit j=>i=j
 | .ret,.ret=>True
 | _,_=>False
structure ZyW (g:Gh) (w:World):Prop where
 b:g.base<=w.heap.size
 e:EnvP g.RO w
theorem ZyW.next {g g':Gh} {H H':Zaa} {w w':World} (h:ZyW g w) (hs:Stp g H w g' H' w'):ZyW g' w':=⟨by rw[hs.le.base];exact zaG h.b hs.size,h.e.mono hs.le.RO hs.le.cell⟩
section
variable {P:Program} {eqT:EqT} {N:Nat} {g g':Gh} {H H':Zaa} {w w':World} {F:Fr} {a:Act}
theorem least {p:Nat->Prop} (h:∃n,p n):∃n,p n/\∀m,p m->n<=m:=by
 obtain⟨n,hn⟩:=h
 induction n using Nat.strongRecOn with
 | _ n ih =>
  by_cases hx:∃m,m<n/\p m
  ·obtain⟨m,hm,hp⟩:=hx
   exact ih m hm hp
  ·refine⟨n,hn,fun m hm=>?_⟩
   rcases zbK m n with h|h
   ·exact absurd ⟨m,h,hm⟩ hx
   ·exact h
theorem ZxE {Fe:Fence} {m:Nat} {c:Code} {Q:Exit->Act->World->Prop} (J:Nat->Act->World->Prop) (h0:∃n,J n a w) (round:∀n a w,J n a w->c.wpIn Fe m P (Exit.then (fun a' w'=>∃k,k<n/\J k a' w') Q) a w):(Code.loop c).wpIn Fe m P Q a w:=by
 classical
 refine wpIn_loop (fun a w=>∃n,J n a w) (fun a w=>if h:∃n,J n a w then Classical.choose (least h) else 0) h0 (fun a w hI=>?_)
 refine wpIn_mono (round _ a w (zbV (least hI)).1) (fun e a' w' hq=>?_)
 cases e with
 | normal =>
  obtain⟨k,hm,hJ⟩:=hq
  refine⟨⟨k,hJ⟩,?_⟩
  simp only[dif_pos hI,dif_pos (⟨k,hJ⟩:∃n,J n a' w')]
  exact zbj ((zbV (least (⟨k,hJ⟩:∃n,J n a' w'))).2 k hJ) hm
 | _=>exact hq
def KE (P:Prg) (N:Nat) (g:Gh) (H:Zaa) (w:World) (Q:AEx->Fr->Zaa->Prop) (e:Exit) (a':Act) (w':World):Prop:=(∃e' F' H' g',exm e e'/\Q e' F' H'/\FR g' w' N F' a'/\WR g' H' w'/\Stp g H w g' H' w')\/∃u H' g',e=.panic [{ v:=u,recovered:=false }]/\Zyd g'.base w' a'.defers/\P.pan u H'/\WR g' H' w'/\Stp g H w g' H' w'
theorem Zg9 {α β:Type} {f:α->Option β}:∀{l:List α} {r:List β},l.mapM f=some r->r.length=l.length/\∀(i:Nat) x,l[i]?=some x->∃y,r[i]?=some y/\f x=some y
 | [],r,h=>by simp at h;subst h;exact⟨rfl,fun i x h=>by simp at h⟩
 | a :: l,r,h=>by
  simp only[zbS]at h
  obtain⟨b,hb,h⟩:=Zao h
  obtain⟨r',hr,h⟩:=Zao h
  simp at h
  subst h
  obtain⟨h1,h2⟩:=Zg9 hr
  refine⟨by simp[h1],fun i x hx=>?_⟩
  cases i with
  | zero=>simp at hx;subst hx;exact⟨b,rfl,hb⟩
  | succ i=>simpa using h2 i x (by simpa using hx)
theorem FR.nil (h:FR g w N F a):FR g w N [] a:=⟨h.size,h.df,fun t=>.any _⟩
theorem FR.ZxS:∀{ps:List Nat} {xs:List AV} {us:List Value} {F:Fr} {t:Array Value} {ds:List Deferred},FR g w N F { tmps:=t,defers:=ds }->(∀p∈ps,p<N)->xs.length=ps.length->VRs g w xs us ->
  FR g w N (ZxS F ps xs) { tmps:=(ps.zip us).foldl (fun t (p:Nat×Value)=>t.setIfInBounds p.1 p.2) t,defers:=ds }
 | [],xs,us,F,t,ds,h,_,hl,hv=>by
  cases xs with
  | nil=>exact h
  | cons x xs=>simp at hl
 | p :: ps,[],us,F,t,ds,h,_,hl,hv=>by simp at hl
 | p :: ps,x :: xs,[],F,t,ds,h,_,hl,hv=>by have:=hv.1;simp at this
 | p :: ps,x :: xs,u :: us,F,t,ds,h,hp,hl,hv=>by
  have h1:FR g w N (Fr.put F (some p) x) { tmps:=t.setIfInBounds p u,defers:=ds }:=FR.put h (d:=some p) (fun k e=>by injection e with e;subst e;exact hp _ zak) (hv.2 0 _ _ rfl rfl)
  exact FR.ZxS (ps:=ps) h1 (fun q hq=>hp q (zar _ hq)) (by simpa using hl) ⟨by have:=hv.1;simpa using this,fun i y v hy hv'=>hv.2 (i+1) y v (by simpa using hy) (by simpa using hv')⟩
structure RS (n:Nat) (bs:Nat->Prop) (g1:Gh) (H1:Zaa) (g:Gh) (H:Zaa) (w:World) (G:Zaa) (g':Gh) (W:World):Prop where
 wr:WR g' G W
 st:Stp g H w g' G W
 le:g1.le g' w W
 nx:H1.next<=G.next
 no:∀b,(b=n\/b=n+1\/bs b)->b<W.heap.size/\¬Own g' G b
 ro:∀b,(b=n\/b=n+1\/bs b)->∀j,¬g'.RO b j
 own:∀b,bs b->Own g H b
section
variable {n:Nat} {bs:Nat->Prop} {g1 g2:Gh} {H1 G G2:Zaa} {W W2:World}
theorem RS.step (h:RS n bs g1 H1 g H w G g' W) (hw:WR g2 G2 W2) (hs:Stp g' G W g2 G2 W2):RS n bs g1 H1 g H w G2 g2 W2 :=
 ⟨hw,h.st.trans hs,h.le.trans hs.le,zaG h.nx hs.next,fun b hb=>⟨zaM (h.no b hb).1 hs.size,fun ho=>(h.no b hb).2 (hs.new b (h.no b hb).1 ho)⟩,fun b hb j hj=>by
  have hn:=h.no b hb
  rcases hs.ro b j hn.1 hj with hj|ho
  ·exact h.ro b hb j hj
  ·exact hn.2 ho,h.own⟩
theorem RS.kp (h:RS n bs g1 H1 g H w G g' W) (hs:Stp g' G W g2 G2 W2):KpB n bs W W2 :=
 ⟨hs.size,hs.frame n (h.no n (.inl rfl)).1 (h.no n (.inl rfl)).2,hs.frame (n+1) (h.no (n+1) (.inr (.inl rfl))).1 (h.no (n+1) (.inr (.inl rfl))).2,fun b hb=>hs.frame b (h.no b (.inr (.inr hb))).1 (h.no b (.inr (.inr hb))).2⟩
theorem RS.drewN (h:RS n bs g1 H1 g H w G g' W) (q:Nat):RS n bs g1 H1 g H w G g' (W.drewN q):=by
 obtain⟨k1,k2⟩:=Zl7 (w':=W.drewN q) h.wr rfl rfl rfl rfl
 exact h.step k1 k2
theorem RS.put (hn:n=w.heap.size) (h:RS n bs g1 H1 g H w G g' W) {r r':Loop} (hl:W.heap[n+1]?=some (.loop r)):RS n bs g1 H1 g H w G g' (W.putObj (n+1) (.loop r')):=by
 have hne:∀b,b≠n+1->(W.putObj (n+1) (.loop r')).heap[b]?=W.heap[b]?:=fun b hb=>World.putObj_heap_other hb
 have hle:g'.le g' W (W.putObj (n+1) (.loop r')):=⟨fun _ _ h=>h,fun _ _ _ _ h=>⟨_,_,_,h,.inr ⟨rfl,rfl,rfl⟩⟩,fun _ _ _ h=>h,fun _ _ h=>h,fun b j hj=>Zcb (hne b fun e=>h.ro b (.inr (.inl e)) j hj) j,
  fun b e=>(hne b fun e2=>by subst e2;rw[hl]at e;cases e).trans e,rfl⟩
 have hsz:(W.putObj (n+1) (.loop r')).heap.size=W.heap.size:=Xc
 refine⟨⟨fun id o ho=>(h.wr.obj id o ho).mono hle (fun b hb=>hne b fun e=>(h.no b (.inr (.inl e))).2 ⟨id,o,ho,hb⟩) (fun _ _ _ h=>h) rfl rfl (fun _=>rfl),h.wr.inj,h.wr.dom,fun id o b a1 a2=>by rw[hsz];exact h.wr.bd id o b a1 a2,fun b j hj=>by rw[hsz];exact h.wr.ro b j hj⟩,?_,h.le.trans hle,h.nx,fun b hb=>by rw[hsz];exact h.no b hb,h.ro,h.own⟩
 exact⟨h.st.le.trans hle,h.st.next,h.st.os,h.st.tape,h.st.output,by rw[hsz];exact h.st.size,fun b hb ho=>(hne b Xa).trans (h.st.frame b hb ho),h.st.new,h.st.ro⟩
theorem RS.mut (h:RS n bs g1 H1 g H w G g' W) (hM:Mut bs W W2):RS n bs g1 H1 g H w G g' W2:=by
 have hle:g'.le g' W W2:=⟨fun _ _ h=>h,fun _ _ _ _ h=>⟨_,_,_,h,.inr ⟨rfl,rfl,rfl⟩⟩,fun _ _ _ h=>h,fun _ _ h=>h,fun b j hj=>Zcb (hM.other b fun e=>h.ro b (.inr (.inr e)) j hj) j,
  fun b e=>(hM.other b fun e2=>hM.nd b e2 e).trans e,rfl⟩
 refine⟨⟨fun id o ho=>(h.wr.obj id o ho).mono hle (fun b hb=>hM.other b fun e=>(h.no b (.inr (.inr e))).2 ⟨id,o,ho,hb⟩) (fun _ _ _ h=>h) rfl rfl (fun _=>rfl),h.wr.inj,h.wr.dom,fun id o b a1 a2=>by rw[hM.size];exact h.wr.bd id o b a1 a2,fun b j hj=>by rw[hM.size];exact h.wr.ro b j hj⟩,?_,h.le.trans hle,h.nx,fun b hb=>by rw[hM.size];exact h.no b hb,h.ro,h.own⟩
 exact⟨h.st.le.trans hle,h.st.next,hM.os.trans h.st.os,hM.tape.trans h.st.tape,hM.output.trans h.st.output,by rw[hM.size];exact h.st.size,fun b hb ho=>(hM.other b fun e=>ho (h.own b e)).trans (h.st.frame b hb ho),h.st.new,h.st.ro⟩
end
theorem drop_ok0 {H H2 : Zaa} (hW : WR g H w) (h1 : ∀ i o, H2.get i = some o -> H.get i = some o) (h2 : H.next <= H2.next) : WR g H2 w /\ Stp g H w g H2 w :=
  ⟨⟨fun id o h => hW.obj id o (h1 id o h), fun i i' o o' b a1 a2 => hW.inj i i' o o' b (h1 _ _ a1) (h1 _ _ a2), fun id hid => hW.dom id Xa, fun id o b h => hW.bd id o b (h1 _ _ h), hW.ro⟩,
   ⟨.refl _ _, h2, rfl, rfl, rfl, zad _, fun _ _ _ => rfl, fun b _ ⟨i, o, a1, a2⟩ => ⟨i, o, h1 _ _ a1, a2⟩, fun _ _ _ h => .inl h⟩⟩
abbrev FW (Fe:Fence):Prop:=Fe=Fence.wide\/∃l,Fe=Fence.wide.inRound l
theorem rf_sound {P:Prg} {gO:Operand} {ps:Array Tmp} {asg bod:Code} {as' b':Zar}
  (ihs:∀(Fe:Fence) (m:Nat),FW Fe->Fe.round=none\/calm asg=true->∀(Q:AEx->Fr->Zaa->Prop) (F:Fr) (H:Zaa) (g:Gh) (w:World) (a:Act),ZyW g w->FR g w N F a->WR g H w->AW P.calm as' Q F H->asg.wpIn Fe m P.p (KE P.calm N g H w Q) a w)
  (ihb:∀(Fe:Fence) (m:Nat),FW Fe->Fe.round=none\/calm bod=true->∀(Q:AEx->Fr->Zaa->Prop) (F:Fr) (H:Zaa) (g:Gh) (w:World) (a:Act),ZyW g w->FR g w N F a->WR g H w->AW P.calm b' Q F H->bod.wpIn Fe m P.p (KE P.calm N g H w Q) a w)
  (hca:calm asg=true) (hcb:calm bod=true) (hps:∀p∈ps.toList,p<N) {Q:AEx->Fr->Zaa->Prop} {F:Fr} {H:Zaa} {g:Gh} {w:World} {a:Act} (hB:ZyW g w) (hF:FR g w N F a) (hW:WR g H w) (h:AW P (.rf (cX gO) ps.toList as' b') Q F H) :
  (Code.rangeFunc gO ps asg bod).wpIn Fence.wide 2 P.p (KE P N g H w Q) a w:=by
 simp only[AW]at h
 split at h
 rotate_left
 ·exact h.elim
 rename_i f caps hge
 obtain⟨ks,xs,H0,H1,I,Ir,⟨⟨fn,hfn,hbody,hname⟩,hit⟩,hlen,hks,hsub,hnx,hg1,h0,hround,hend,hret⟩:=h
 have hx:=ZaG hF gO
 rw[hge]at hx
 obtain⟨vc,hev,hvc⟩:∃vc:Array Value,a.eval gO=.func (.func f) #[] vc/\VRs g w caps vc.toList:=by
  generalize a.eval gO=gv at hx
  cases hx with
  | fn _ _ _ vf vc hl1 hl2 h1 h2 =>
   have:vf=#[]:=by apply Array.eq_empty_of_size_eq_zero;simpa using hl1.symm
   subst this
   exact⟨vc,rfl,by simpa using hl2,fun i x u hx hu=>h2 i x u hx (by simpa using hu)⟩
 obtain⟨us,hul,huv,hseq⟩:=hit g w vc.toList hW hvc
 obtain⟨hW0,hS0⟩:=drop_ok0 hW hsub hnx
 obtain⟨g1,hF1,hW1,hS1⟩:=hg1 N g w a hF hW0
 have hS01:=hS0.trans hS1
 have hbs:∀b,(∃id∈ks,g.ι id=some b)->b<w.heap.size/\¬Own g1 H1 b/\(∀j,¬g1.RO b j)/\Own g H b:=by
  rintro b ⟨id,hid,hb⟩
  obtain⟨⟨cs,E,hcs⟩,hno⟩:=hks id hid
  have hlt:=hW.bd id _ b hcs hb
  have h00:¬Own g H0 b:=by
   rintro⟨i,o,a1,a2⟩
   have:=hW.inj i id o _ b (hsub i o a1) hcs a2 hb
   subst this
   rw[hno]at a1;cases a1
  refine⟨hlt,fun ho=>h00 (hS1.new b hlt ho),fun j hj=>?_,⟨id,_,hcs,hb⟩⟩
  rcases hS1.ro b j hlt hj with hj|ho
  ·obtain⟨b',_,c1,_,_,_,c5⟩:=hW.obj id _ hcs
   have hb:g.ι id=some b:=hb
   rw[hb]at c1
   injection c1 with c1
   subst c1
   exact c5 j hj
  ·exact h00 ho
 have eg:∀args w,(callFunc f args).run P.p w=.ok (.enter f args) w:=by
  intro args w
  simp only[callFunc,Sem.run_bind,Sem.run_pure,Result.andThen_ok,run_program,hfn]
  rw[if_neg (by simpa using hname),if_neg (by intro h;rw[h]at hbody;cases hbody)]
  rfl
 have hseq':SeqX P.p f vc us (fun b=>∃id∈ks,g.ι id=some b) w:=by simpa using hseq
 have hxk:∀(k:Nat) u,us[k]?=some u->∃x,xs[k]?=some x/\x.length=ps.toList.length/\VRs g w x u.toList:=by
  intro k u hu
  have hk:k<xs.length:=by rw[<- hul];exact(zah.1 hu).1
  have hx:=zab hk
  exact⟨_,hx,hlen _ (zau hk),huv k _ u hx hu⟩
 have hS1g:g1.base=g.base:=hS01.le.base
 have hbase:∀{g':Gh} {G:Zaa} {W:World},Stp g H w g' G W->ZyW g' W:=fun hs=>hB.next hs
 refine ZxX (m:=0) hev eg hseq' (fun b hb=>(hbs b hb).1) (fun k u hu=>?_)
  (fun k W=>∃G g',I k G/\RS w.heap.size (fun b=>∃id∈ks,g.ι id=some b) g1 H1 g H w G g' W)
  (fun W=>∃G g',Ir G/\RS w.heap.size (fun b=>∃id∈ks,g.ι id=some b) g1 H1 g H w G g' W)
  (fun k a' W=>∃F1 G g',AW P.calm b' (fun e _ G2=>match e with
     | .normal=>∃G3,GStep [] G2 [] G3/\I (k+1) G3
     | .ret=>∃G3,GStep [] G2 [] G3/\Ir G3
     | .exit _=>False) F1 G/\FR g' W N F1 a'/\RS w.heap.size (fun b=>∃id∈ks,g.ι id=some b) g1 H1 g H w G g' W)
  (fun r=>?_) (fun k W W' ⟨G,g',h1,h2⟩ hM=>⟨G,g',h1,h2.mut hM⟩) (fun k W q ⟨G,g',h1,h2⟩=>⟨G,g',h1,h2.drewN q⟩) (fun W q ⟨G,g',h1,h2⟩=>⟨G,g',h1,h2.drewN q⟩)
  (fun k W r r' ⟨G,g',h1,h2⟩ hl=>⟨G,g',h1,h2.put rfl hl⟩) (fun W r r' ⟨G,g',h1,h2⟩ hl=>⟨G,g',h1,h2.put rfl hl⟩)
  (fun k a' W r r' ⟨F1,G,g',h1,h2,h3⟩ hl=>?_) (fun k u W ⟨G,g',hI,hR⟩ hu=>?_) (fun k a' W ⟨F1,G,g',haw,hFa,hR⟩ hk=>?_) (fun W ⟨G,g',hI,hR⟩ hd=>?_) (fun W ⟨G,g',hI,hR⟩ hd=>?_)
 ·obtain⟨x,_,h2,h3⟩:=hxk k u hu
  have:=h3.1
  simpa [h2] using this.symm
 ·obtain⟨a1,a2⟩:=Zv5 hW1 (.deferred (some []))
  obtain⟨b1,b2⟩:=Zv5 a1 (.loop r)
  refine⟨H1,g1,h0,b1,hS01.trans (a2.trans b2),(a2.trans b2).le,zad _,fun b hb=>?_,fun b hb j hj=>?_,fun b hb=>(hbs b hb).2.2.2⟩
  ·rcases hb with rfl|rfl|hb
   ·refine⟨Xf,fun⟨id,o,q1,q2⟩=>?_⟩
    have:=hW1.bd id o _ q1 q2;omega
   ·refine⟨Xc,fun⟨id,o,q1,q2⟩=>?_⟩
    have:=hW1.bd id o _ q1 q2;omega
   ·exact⟨by have:=(hbs b hb).1;simp;omega,(hbs b hb).2.1⟩
  ·rcases hb with hb|hb|hb
   ·have:=hW1.ro b j hj
    omega
   ·have:=hW1.ro b j hj
    omega
   ·exact(hbs b hb).2.2.1 j hj
 ·have hR2:=h3.put rfl (r':=r') hl
  have hle:g'.le g' W (W.putObj (w.heap.size+1) (.loop r')):=by
   refine⟨fun _ _ h=>h,fun _ _ _ _ h=>⟨_,_,_,h,.inr ⟨rfl,rfl,rfl⟩⟩,fun _ _ _ h=>h,fun _ _ h=>h,fun b j hj=>Zcb (World.putObj_heap_other (fun e=>h3.ro b (.inr (.inl e)) j hj)) j,fun b e=>(World.putObj_heap_other fun e2=>?_).trans e,rfl⟩
   subst e2;rw[hl]at e;cases e
  exact⟨F1,G,g',h1,h2.mono hle,hR2⟩
 ·obtain⟨x,hx,hxl,hxv⟩:=hxk k u hu
  have haw:=hround k x G hx hR.nx hI
  have hFW:FR g' W N F a:=(hF1.mono hR.le)
  have hF2:=FR.ZxS (ps:=ps.toList) (xs:=x) (us:=u.toList) (t:=a.tmps) (ds:=[]) ⟨hFW.size,.nil,hFW.get⟩ hps hxl (hxv.mono hR.st.le)
  have e1:(ps.zip u).foldl (fun t (p,v)=>t.setIfInBounds p v) a.tmps=(ps.toList.zip u.toList).foldl (fun t (p:Nat×Value)=>t.setIfInBounds p.1 p.2) a.tmps:=by
   rw[<- Array.foldl_toList,Array.toList_zip]
  rw[e1]
  refine wpIn_mono (ihs _ 0 (.inr ⟨_,rfl⟩) (.inr hca) _ _ G g' W _ (hbase hR.st) hF2 hR.wr haw) (fun e a2 W2 hKE=>?_)
  rcases hKE with⟨e',F2,G2,g2,he,hQ,k1,k2,k3⟩|⟨u,G2,g2,_,_,k2,_⟩
  ·cases e' with
   | normal =>
    cases e with
    | normal=>exact⟨⟨F2,G2,g2,hQ,k1,hR.step k2 k3⟩,hR.kp k3⟩
    | _=>exact he.elim
   | _=>exact hQ.elim
  ·exact k2.elim
 ·refine wpIn_mono (ihb _ 0 (.inr ⟨_,rfl⟩) (.inr hcb) _ _ G g' W _ (hbase hR.st) hFa hR.wr haw) (fun e a2 W2 hKE=>?_)
  rcases hKE with⟨e',F2,G2,g2,he,hQ,k1,k2,k3⟩|⟨u,G2,g2,_,_,k2,_⟩
  ·cases e' with
   | normal =>
    cases e with
    | normal =>
     obtain⟨G3,hg3,hI3⟩:=hQ
     obtain⟨g3,_,r2,r3⟩:=hg3 N g2 W2 a2 k1.nil k2
     exact⟨⟨G3,g3,hI3,hR.step r2 (k3.trans r3)⟩,hR.kp (k3.trans r3)⟩
    | _=>exact he.elim
   | ret =>
    cases e with
    | ret =>
     obtain⟨G3,hg3,hI3⟩:=hQ
     obtain⟨g3,_,r2,r3⟩:=hg3 N g2 W2 a2 k1.nil k2
     exact⟨⟨G3,g3,hI3,hR.step r2 (k3.trans r3)⟩,hR.kp (k3.trans r3)⟩
    | _=>exact he.elim
   | exit i=>exact hQ.elim
  ·exact k2.elim
 all_goals
  have hFW:FR g' W N F a:=(hF1.mono hR.le)
  have hFd:FR g' W N F { a with defers:={ target:=.collected w.heap.size,args:=#[] } :: a.defers }:=⟨hFW.size,⟨fun d hdm=>by
   rcases zay.1 hdm with rfl|hdm
   ·exact⟨w.heap.size,rfl,by rw[hR.st.le.base];exact hB.b,hd⟩
   ·exact hFW.df.ok d hdm,zaU.2 ⟨fun hm=>by
    obtain⟨D,e,_,hD⟩:=hF.df.ok _ hm
    have:w.heap.size=D:=by injection e with e1 e2;injection e1
    have:=(zao.1 hD).1
    omega,hFW.df.nd⟩⟩,hFW.get⟩
 ·exact .inl ⟨.normal,F,G,g',trivial,hend G hR.nx (by rw[<- hul];exact hI),hFd,hR.wr,hR.st⟩
 ·exact .inl ⟨.ret,F,G,g',trivial,hret G hR.nx hI,hFd,hR.wr,hR.st⟩
theorem Zx0 {p:Program} (hE:∀t ks,eqT t=some ks->Ziv p t ks):∀(c:Code) (ac:Zar),Zdu p eqT N c=some ac->∀(pan:Value->Zaa->Prop) (Fe:Fence) (m:Nat),FW Fe->Fe.round=none\/calm c=true->∀(Q:AEx->Fr->Zaa->Prop) (F:Fr) (H:Zaa) (g:Gh) (w:World) (a:Act),ZyW g w->FR g w N F a->WR g H w->AW ⟨p,pan⟩ ac Q F H->c.wpIn Fe m p (KE ⟨p,pan⟩ N g H w Q) a w:=by
 intro c
 induction c with
 | skip =>
  intro ac hc pan Fe m hFe hca Q F H g w a hB hF hW h
  simp only[Zdu,zaa]at hc
  subst hc
  exact wpIn_skip (.inl ⟨.normal,F,H,g,trivial,h,hF,hW,.refl _ _ _⟩)
 | region id ops draw =>
  intro ac hc pan Fe m hFe hca Q F H g w a hB hF hW h
  cases draw with
  | false =>
   simp only[Zdu]at hc
   obtain⟨l,hl,hc⟩:=Zao hc
   simp only[zaa]at hc
   subst hc
   exact wpIn_region_list (Zxs hFe m _ _ _ (hca.imp (fun h=>h) Zx2) (ZfG (P:=⟨p,pan⟩) hE (K:=Q .normal) (fun a' w' ⟨F',H',g',k1,k2,k3,k4⟩=>.inl ⟨.normal,F',H',g',trivial,k1,k2,k3,k4⟩) (ZzV hB.e fun u H' g' a' w' h1 h2 h3 h4=>.inr ⟨u,H',g',rfl,h1,h2,h3,h4⟩) _ l g H w F a hl hF hW (.refl _ _ _) h))
  | true =>
   simp only[Zdu]at hc
   obtain⟨ais,hais,hc⟩:=Zao hc
   split at hc
   ·rename_i hcd
    simp only[zaa]at hc
    subst hc
    obtain⟨hm,hdb⟩:=hcd
    have D:=drawB_ok hdb
    obtain⟨hlen,hget⟩:=Zg9 hais
    obtain⟨hW2,hst⟩:=hW.drew
    refine wpIn_region_any hm (Zxp hFe m (hca.imp (fun h=>h) fun h o ho=>Zx2 h o (by simpa using ho)) _ _ _ _ (draw_any (P:=⟨p,pan⟩) (F0:=F) (K:=Q .normal) (g0:=g) (H0:=H) (w0:=w) hE D rfl (fun i o ho=>?_) (fun i o ho=>?_) (fun a' w' ⟨F',H',g',k1,k2,k3,k4⟩=>.inl ⟨.normal,F',H',g',trivial,k1,k2,k3,k4⟩) (ZzV hB.e fun u H' g' a' w' h1 h2 h3 h4=>.inr ⟨u,H',g',rfl,h1,h2,h3,h4⟩) ops.size (Array.replicate ops.size false) 0 (fun _=>.any) [] (fun _=>0) H g w.drew a Xc ?_ ?_))
    ·have ho':ops.toList[i]?=some o:=by simpa using ho
     exact hget i o ho'
    ·have ho':ops.toList[i]?=some o:=by simpa using ho
     simp[ZlX,List.getD,ho']
    ·have:(fun i=>!(Array.replicate ops.size false).getD i false)=fun _=>true:=by
      funext i
      simp[Array.getD]
     rw[this]
     simp
    ·have hX:(fun i=>(Array.replicate ops.size false).getD i false)=fun _=>false:=by
      funext i
      simp[Array.getD]
     rw[hX]
     exact⟨zat _,h,fun i _ hi=>(by cases hi),fun i _ _ hi=>absurd hi Xa,fun j _ hj=>(by cases hj),hF.mono hst.le,hW2,hst,fun i _ _ hi=>absurd hi Xa,zb7,fun i h=>by simp at h,fun i h=>by simp at h,fun i h=>by simp at h,fun i h=>by simp at h⟩
   ·simp only[zaa]at hc
    subst hc
    exact h.elim
 | seq x y ihx ihy =>
  intro ac hc pan Fe m hFe hca Q F H g w a hB hF hW h
  simp only[Zdu]at hc
  obtain⟨a',ha,hc⟩:=Zao hc
  obtain⟨b',hb,hc⟩:=Zao hc
  simp only[zaa]at hc
  subst hc
  refine wpIn_seq (wpIn_mono (ihx a' ha pan Fe m hFe (hca.imp (fun h=>h) fun h=>by simp only[calm,zaV]at h;exact h.1) _ F H g w a hB hF hW h) (fun e a2 w2 hKE=>?_))
  rcases hKE with⟨e',F',H',g',he,hQ,k1,k2,k3⟩|⟨u,H',g',rfl,k1,k2,k3,k4⟩
  ·cases e<;>cases e'<;>simp only[exm]at he
   ·refine wpIn_mono (ihy b' hb pan Fe m hFe (hca.imp (fun h=>h) fun h=>by simp only[calm,zaV]at h;exact h.2) Q F' H' g' w2 a2 (hB.next k3) k1 k2 hQ) (fun e3 a3 w3 hk=>?_)
    rcases hk with⟨e4,F4,H4,g4,h1,h2,h3,h4,h5⟩|⟨u,H4,g4,h1,h2,h3,h4,h5⟩
    ·exact .inl ⟨e4,F4,H4,g4,h1,h2,h3,h4,k3.trans h5⟩
    ·exact .inr ⟨u,H4,g4,h1,h2,h3,h4,k3.trans h5⟩
   ·exact .inl ⟨.exit _,F',H',g',he,hQ,k1,k2,k3⟩
   ·exact .inl ⟨.ret,F',H',g',he,hQ,k1,k2,k3⟩
  ·exact .inr ⟨u,H',g',rfl,k1,k2,k3,k4⟩
 | cond c x y ihx ihy =>
  intro ac hc pan Fe m hFe hca Q F H g w a hB hF hW h
  simp only[Zdu]at hc
  obtain⟨a',ha,hc⟩:=Zao hc
  obtain⟨b',hb,hc⟩:=Zao hc
  simp only[zaa]at hc
  subst hc
  simp only[AW]at h
  have hx:=ZaG hF c
  split at h
  ·rename_i t ht
   rw[ht]at hx
   have hev:a.eval c=.bool t:=by
    generalize a.eval c=u at hx
    cases hx;rfl
   refine wpIn_cond hev ?_
   cases t
   ·exact ihy b' hb pan Fe m hFe (hca.imp (fun h=>h) fun h=>by simp only[calm,zaV]at h;exact h.2) Q F H g w a hB hF hW h
   ·exact ihx a' ha pan Fe m hFe (hca.imp (fun h=>h) fun h=>by simp only[calm,zaV]at h;exact h.1) Q F H g w a hB hF hW h
  ·rename_i ht
   rw[ht]at hx
   obtain⟨t,hev⟩:∃t,a.eval c=.bool t:=by
    generalize a.eval c=u at hx
    cases hx;exact⟨_,rfl⟩
   refine wpIn_cond hev ?_
   cases t
   ·exact ihy b' hb pan Fe m hFe (hca.imp (fun h=>h) fun h=>by simp only[calm,zaV]at h;exact h.2) Q F H g w a hB hF hW h.2
   ·exact ihx a' ha pan Fe m hFe (hca.imp (fun h=>h) fun h=>by simp only[calm,zaV]at h;exact h.1) Q F H g w a hB hF hW h.1
  ·exact h.elim
 | block id x ih =>
  intro ac hc pan Fe m hFe hca Q F H g w a hB hF hW h
  simp only[Zdu]at hc
  obtain⟨a',ha,hc⟩:=Zao hc
  simp only[zaa]at hc
  subst hc
  refine wpIn_block (wpIn_mono (ih a' ha pan Fe m hFe hca _ F H g w a hB hF hW h) (fun e a2 w2 hKE=>?_))
  rcases hKE with⟨e',F',H',g',he,hQ,k1,k2,k3⟩|⟨u,H',g',rfl,k1,k2,k3,k4⟩
  rotate_left
  ·exact .inr ⟨u,H',g',rfl,k1,k2,k3,k4⟩
  cases e with
  | normal =>
   cases e' with
   | normal=>exact .inl ⟨.normal,F',H',g',trivial,hQ,k1,k2,k3⟩
   | _=>exact he.elim
  | exit i =>
   cases e' with
   | exit j =>
    have he':i=j:=he
    subst he'
    simp only[Exit.inBlock]
    by_cases hk:i=id
    ·rw[if_pos hk]
     simp only[if_pos hk]at hQ
     exact .inl ⟨.normal,F',H',g',trivial,hQ,k1,k2,k3⟩
    ·rw[if_neg hk]
     simp only[if_neg hk]at hQ
     exact .inl ⟨.exit _,F',H',g',rfl,hQ,k1,k2,k3⟩
   | _=>exact he.elim
  | ret =>
   cases e' with
   | ret=>exact .inl ⟨.ret,F',H',g',trivial,hQ,k1,k2,k3⟩
   | _=>exact he.elim
  | _=>cases e'<;>exact he.elim
 | loop x ih =>
  intro ac hc pan Fe m hFe hca Q F H g w a hB hF hW h
  simp only[Zdu]at hc
  obtain⟨a',ha,hc⟩:=Zao hc
  simp only[zaa]at hc
  subst hc
  simp only[AW]at h
  obtain⟨I,⟨n,F1,H1,hg,h0⟩,hround⟩:=h
  obtain⟨g1,q1,q2,q3⟩:=hg N g w a hF hW
  refine ZxE (fun n a2 w2=>∃F2 H2 g2,I n F2 H2/\FR g2 w2 N F2 a2/\WR g2 H2 w2/\Stp g H w g2 H2 w2) ⟨n,F1,H1,g1,h0,q1,q2,q3⟩ (fun n a2 w2 ⟨F2,H2,g2,hI,k1,k2,k3⟩=>?_)
  refine wpIn_mono (ih a' ha pan Fe m hFe hca _ F2 H2 g2 w2 a2 (hB.next k3) k1 k2 (hround n F2 H2 hI)) (fun e a3 w3 hKE=>?_)
  rcases hKE with⟨e',F3,H3,g3,he,hQ,j1,j2,j3⟩|⟨u,H3,g3,rfl,j1,j2,j3,j4⟩
  ·cases e<;>cases e'<;>simp only[exm]at he
   ·obtain⟨m,F4,H4,hm,hg,hI4⟩:=hQ
    obtain⟨g4,r1,r2,r3⟩:=hg N g3 w3 a3 j1 j2
    exact⟨m,hm,F4,H4,g4,hI4,r1,r2,(k3.trans j3).trans r3⟩
   ·exact .inl ⟨.exit _,F3,H3,g3,he,hQ,j1,j2,k3.trans j3⟩
   ·exact .inl ⟨.ret,F3,H3,g3,he,hQ,j1,j2,k3.trans j3⟩
  ·exact .inr ⟨u,H3,g3,rfl,j1,j2,j3,k3.trans j4⟩
 | exit id =>
  intro ac hc pan Fe m hFe hca Q F H g w a hB hF hW h
  simp only[Zdu,zaa]at hc
  subst hc
  exact wpIn_exit (.inl ⟨.exit id,F,H,g,rfl,h,hF,hW,.refl _ _ _⟩)
 | ret =>
  intro ac hc pan Fe m hFe hca Q F H g w a hB hF hW h
  simp only[Zdu,zaa]at hc
  subst hc
  exact wpIn_ret (.inl ⟨.ret,F,H,g,trivial,h,hF,hW,.refl _ _ _⟩)
 | rangeFunc gO ps asg bod ihs ihb =>
  intro ac hc pan Fe m hFe hca Q F H g w a hB hF hW h
  simp only[Zdu]at hc
  split at hc
  ·rename_i hcd
   simp only[zaV,za6,decide_eq_true_eq]at hcd
   obtain⟨as',has,hc⟩:=Zao hc
   obtain⟨b',hb,hc⟩:=Zao hc
   simp only[zaa]at hc
   subst hc
   have hw:Fe=Fence.wide:=by
    rcases hFe with hFe|⟨l,hFe⟩
    ·exact hFe
    ·subst hFe
     rcases hca with hca|hca
     ·cases hca
     ·cases hca
   subst hw
   exact wpIn_wide.2 (wpIn_wide.1 (rf_sound (P:=⟨p,pan⟩) (fun Fe m h1 h2=>ihs as' has (fun _ _=>False) Fe m h1 h2) (fun Fe m h1 h2=>ihb b' hb (fun _ _=>False) Fe m h1 h2) hcd.1 hcd.2.1 hcd.2.2 hB hF hW h))
  ·simp only[zaa]at hc
   subst hc
   exact h.elim
 | _ =>
  intro ac hc pan Fe m hFe hca Q F H g w a hB hF hW h
  simp only[Zdu,zaa]at hc
  subst hc
  exact h.elim
theorem ZkU {P:Prg} (hE:∀t ks,eqT t=some ks->Ziv P.p t ks) (c:Code) (ac:Zar) (hc:Zdu P.p eqT N c=some ac) (Q:AEx->Fr->Zaa->Prop) (F:Fr) (H:Zaa) (g:Gh) (w:World) (a:Act) (hB:ZyW g w) (hF:FR g w N F a) (hW:WR g H w) (h:AW P ac Q F H):c.wp P.p (KE P N g H w Q) a w :=
 wpIn_wide.1 (Zx0 hE c ac hc P.pan Fence.wide 0 (.inl rfl) (.inl rfl) Q F H g w a hB hF hW h)
end
inductive Zcq where
 | tmp (t:Nat)
 | cell (sz:Nat) (ag:Bool) (a:Nat)
def cRes (P:Program):ResultVar->Option Zcq
 | .tmp t=>some (.tmp t)
 | .cell a t=>do let s <- ZdE P t;let g <- ZfR P t;some (.cell s g a)
def Zcq.ev (F:Fr) (H:Zaa):Zcq->Option AV
 | .tmp t=>some (Fr.get F t)
 | .cell sz ag a=>match AOp.ev F H (.ld sz ag (.t a))with
  | some (v,_)=>some v
  | none=>none
def ZcF (F:Fr) (H:Zaa):List Zcq->Option (List AV)
 | []=>some []
 | r :: rs=>match r.ev F H with
  | some v=>match ZcF F H rs with
   | some vs=>some (v :: vs)
   | none=>none
  | none=>none
def ZcU (F:Fr) (H:Zaa) (rs:List Zcq):Option AV:=match rs with
 | [r]=>r.ev F H
 | rs=>match ZcF F H rs with
  | some vs=>some (.tup vs)
  | none=>none
def Za2:Nat->List AV->Fr
 | _,[]=>[]
 | k,a :: asx=>(k,a) :: Za2 (k+1) asx
def cFn (P:Program) (eqT:EqT) (f:FuncId):Option (Zar×List Zcq×Nat):=do
 let fn <- P.funcs[f]?
 let c <- fn.body
 if fn.name == "runtime.NumGoroutine" then none else
 let ac <- Zdu P eqT fn.ntmps c
 let rs <- fn.results.toList.mapM (cRes P)
 some (ac,rs,fn.ntmps)
def Zb6 (r:AV) (H:Zaa) (r2:AV) (H2:Zaa):Prop:=∀(g:Gh) (w:World) (v:Value),VR g w r v->WR g H w->∃g',VR g' w r2 v/\WR g' H2 w/\Stp g H w g' H2 w
def Zge (rs:List Zcq) (R:AV->Zaa->Prop) (e:AEx) (F:Fr) (H:Zaa):Prop:=match e with
 | .exit _=>False
 | _=>match ZcU F H rs with
  | some r=>∃r2 H2,Zb6 r H r2 H2/\R r2 H2
  | none=>False
section
variable {P:Program} {eqT:EqT} {N:Nat} {g g':Gh} {H H':Zaa} {w w':World} {F F':Fr} {a:Act}
theorem ZgD:∀{k:Nat} {asx:List AV} {t:Nat},Fr.get (Za2 k asx) t=if k<=t then (asx[t - k]?).getD .any else .any
 | k,[],t=>by simp[Za2,Fr.get]
 | k,x :: asx,t=>by
  simp only[Za2,Fr.get]
  by_cases h:t=k
  ·subst h;simp
  ·rw[if_neg h,ZgD]
   by_cases h2:k<=t
   ·rw[if_pos Xa,if_pos h2,show t - k=(t - (k+1))+1 by omega]
    simp
   ·rw[if_neg Xa,if_neg h2]
def ZhF (tmps:Array Value):ResultVar->Sem Value
 | .tmp t=>pure (tmps.getD t undef)
 | .cell x t=>do loadVar t (<- asAddr (tmps.getD x undef))
theorem Zkw (fn:Func) (tmps:Array Value):results fn tmps=(do let vs <- fn.results.mapM (ZhF tmps);pure (if h:vs.size=1 then vs[0] else .tuple vs)):=by
 unfold results
 have:(fun x=>match x with|ResultVar.tmp t=>pure (tmps.getD t undef)|.cell a t=>do loadVar t (<- asAddr (tmps.getD a undef)):ResultVar->Sem Value)=ZhF tmps:=by
  funext x
  cases x<;>rfl
 rw[<- this]
 rfl
theorem res_ev (hF:FR g w N F a) (hW:WR g H w) {rv:ResultVar} {r:Zcq} {v:AV} (hr:cRes P rv=some r) (he:r.ev F H=some v):∃u,(ZhF a.tmps rv).run P w=.ok u w/\VR g w v u:=by
 cases rv with
 | tmp t =>
  simp only[cRes,zaa]at hr
  subst hr
  simp only[Zcq.ev,zaa]at he
  subst he
  exact⟨_,rfl,hF.get t⟩
 | cell x t =>
  simp only[cRes]at hr
  obtain⟨s,hs,hr⟩:=Zao hr
  obtain⟨ag,ha,hr⟩:=Zao hr
  simp only[zaa]at hr
  subst hr
  simp only[Zcq.ev]at he
  split at he
  ·rename_i v' H' hev
   simp only[zaa]at he
   subst he
   obtain⟨_,u,h1,h2⟩:=ld_ok (P:=P) (F:=F) hW hs ha (hF.get x) hev
   refine⟨u,?_,h2⟩
   have hx:=hF.get x
   have hx0:a.eval (.tmp x)=a.tmps.getD x undef:=rfl
   obtain⟨ux,hux⟩:∃ux,a.tmps.getD x undef=ux:=⟨_,rfl⟩
   have h1':(Instr.loadAt t ux).run P w=.ok u w:=by rw[<- hux];exact h1
   rw[hux]at hx
   clear h1
   have hp:∃ad,ux=.pointer (some ad):=by
    simp only[AOp.ev,AX.ev]at hev
    generalize Fr.get F x=ax at hev hx
    cases hx with
    | el row off b base f h3 h4 h5=>exact⟨_,rfl⟩
    | ptr id off b h3=>exact⟨_,rfl⟩
    | _=>cases hev
   obtain⟨ad,rfl⟩:=hp
   simp only[ZhF,hux,asAddr,Sem.run_bind,Sem.run_pure,Result.andThen_ok]
   simpa [Instr.loadAt,Instr.sureAddr] using h1'
  ·cases he
theorem Zlz (hF:FR g w N F a) (hW:WR g H w):∀{rvs:List ResultVar} {rs:List Zcq} {vs:List AV},rvs.mapM (cRes P)=some rs->ZcF F H rs=some vs->∃us,(rvs.mapM (ZhF a.tmps)).run P w=.ok us w/\VRs g w vs us
 | [],rs,vs,h1,h2=>by
  simp at h1
  subst h1
  simp[ZcF]at h2
  subst h2
  exact⟨[],Xc,.nil⟩
 | rv :: rvs,rs,vs,h1,h2=>by
  simp only[zbS]at h1
  obtain⟨r,hr,h1⟩:=Zao h1
  obtain⟨rs',hrs,h1⟩:=Zao h1
  simp at h1
  subst h1
  simp only[ZcF]at h2
  split at h2
  ·rename_i v hv
   split at h2
   ·rename_i vs' hvs
    simp only[zaa]at h2
    subst h2
    obtain⟨u,k1,k2⟩:=res_ev hF hW hr hv
    obtain⟨us,k3,k4⟩:=Zlz hF hW hrs hvs
    refine⟨u :: us,?_,k4.cons k2⟩
    simp only[zbS,Sem.run_bind,k1,Result.andThen_ok,k3,Sem.run_pure]
   ·cases h2
  ·cases h2
theorem ZjB:∀{rs:List Zcq} {vs:List AV},ZcF F H rs=some vs->vs.length=rs.length
 | [],vs,h=>by simp[ZcF]at h;subst h;rfl
 | r :: rs,vs,h=>by
  simp only[ZcF]at h
  split at h
  ·split at h
   ·rename_i vs' hvs
    simp only[zaa]at h
    subst h
    simp[ZjB hvs]
   ·cases h
  ·cases h
theorem ZlZ (hF:FR g w N F a) (hW:WR g H w) {fn:Func} {rs:List Zcq} {r:AV} (hrs:fn.results.toList.mapM (cRes P)=some rs) (hr:ZcU F H rs=some r):∃u,(results fn a.tmps).run P w=.ok u w/\VR g w r u:=by
 have hlen:=(Zg9 hrs).1
 have key:∀vs,ZcF F H rs=some vs->∃us,(results fn a.tmps).run P w=.ok (if h:us.toArray.size=1 then us.toArray[0] else .tuple us.toArray) w/\VRs g w vs us:=by
  intro vs hvs
  obtain⟨us,k1,k2⟩:=Zlz hF hW hrs hvs
  refine⟨us,?_,k2⟩
  rw[Zkw,Array.mapM_eq_mapM_toList,map_eq_pure_bind]
  simp only[Sem.run_bind,k1,Result.andThen_ok,Sem.run_pure]
 unfold ZcU at hr
 split at hr
 ·rename_i r0
  obtain⟨us,k1,k2⟩:=key [r] (by simp[ZcF,hr])
  have hl:us.length=1:=by have:=k2.1;simpa using this.symm
  obtain⟨u,rfl⟩:=List.length_eq_one_iff.1 hl
  refine⟨u,by simpa using k1,k2.2 0 _ _ rfl rfl⟩
 ·rename_i hne
  split at hr
  ·rename_i vs hvs
   simp only[zaa]at hr
   subst hr
   obtain⟨us,k1,k2⟩:=key vs hvs
   have hl:us.length≠1:=by
    intro h
    have h1:rs.length=1:=by rw[<- ZjB hvs,k2.1,h]
    obtain⟨r0,hr0⟩:=List.length_eq_one_iff.1 h1
    exact hne r0 hr0
   refine⟨.tuple us.toArray,?_,.tup _ _ (by simpa using k2.1) (fun i x u hx hu=>k2.2 i x u hx (by simpa using hu))⟩
   rw[k1]
   simp[hl]
  ·cases hr
theorem VR.Zxq {a:AV} {v:Value} (h:VR g w a v) (n:Nat):VR { g with base:=n } w a v:=by
 induction h with
 | any v=>exact .any v
 | ub b=>exact .ub b
 | sc v=>exact .sc v
 | sl tok rows A c sz b o f hc hm hA hsz hcell hv ht ih=>exact .sl tok rows A c sz b o f hc hm hA hsz hcell ih ht
 | el row off b base f hone hcell hv ih=>exact .el row off b base f hone hcell ih
 | ptr id off b h=>exact .ptr id off b h
 | arr id off len cap b h hc hm=>exact .arr id off len cap b h hc hm
 | agg cs vs hl hone hv ih=>exact .agg cs vs hl hone ih
 | tup cs vs hl hv ih=>exact .tup cs vs hl ih
 | mp id b h=>exact .mp id b h
 | stp id key n h=>exact .stp id key n h
 | fn f first caps vf vc hl1 hl2 h1 h2 ih1 ih2=>exact .fn f first caps vf vc hl1 hl2 ih1 ih2
theorem Zyw.Zxq {id:Nat} {o:Zb3} (h:Zyw g w id o) (n:Nat):Zyw { g with base:=n } w id o:=by
 cases o with
 | cells cs E =>
  obtain⟨b,carr,h1,h2,h3,h4,h5⟩:=h
  exact⟨b,carr,h1,h2,⟨h3.1,fun i x u a1 a2=>(h3.2 i x u a1 a2).Zxq n⟩,h4,h5⟩
 | tok m E sz=>exact h
 | map kk es del =>
  obtain⟨b,en,cl,h1,h2,h3,h4,h5⟩:=h
  exact⟨b,en,cl,h1,h2,h3,fun i k x e a1 a2=>let ⟨q1,q2,q3,q4,q5⟩:=h4 i k x e a1 a2;⟨q1,q2,q3.Zxq n,q4,q5⟩,h5⟩
 | iter mid m seen=>exact h
theorem WR.Zxq (h:WR g H w) (n:Nat):WR { g with base:=n } H w:=⟨fun id o ho=>(h.obj id o ho).Zxq n,h.inj,h.dom,h.bd,h.ro⟩
theorem Stp.back {n:Nat} (h:Stp { g with base:=n } H w g' H' w'):Stp g H w { g' with base:=g.base } H' w' :=
 ⟨⟨h.le.ι,h.le.τ,h.le.β,h.le.RO,h.le.cell,h.le.dfr,rfl⟩,h.next,h.os,h.tape,h.output,h.size,h.frame,h.new,h.ro⟩
structure Mk (n:Nat) (w w2:World):Prop where
 size:w2.heap.size=w.heap.size
 os:w2.os=w.os
 tape:w2.tape=w.tape
 output:w2.output=w.output
 low:∀b:Nat,b<n->w2.heap[b]?=w.heap[b]?
 oth:∀b:Nat,w.heap[b]?≠some (.deferred (some []))->w2.heap[b]?=w.heap[b]?
 gone:∀b:Nat,w.heap[b]?=some (.deferred (some []))->w2.heap[b]?=some (.deferred (some []))\/w2.heap[b]?=some (.deferred none)
theorem Mk.cell {n:Nat} {w2:World} (h:Mk n w w2) (b j:Nat):w2.cell? ⟨b,j,none⟩=w.cell? ⟨b,j,none⟩:=by
 by_cases e:w.heap[b]?=some (.deferred (some []))
 ·rcases h.gone b e with e2|e2<;>simp[World.cell?,e,e2]
 ·exact Zcb (h.oth b e) j
theorem VR.marks {n:Nat} {w2:World} {a:AV} {v:Value} (h:VR g w a v) (hm:Mk n w w2):VR g w2 a v:=by
 induction h with
 | any v=>exact .any v
 | ub b=>exact .ub b
 | sc v=>exact .sc v
 | sl tok rows A c sz b o f hc hx hA hsz hcell hv ht ih=>exact .sl tok rows A c sz b o f hc hx hA hsz (fun i r j x h1 h2=>⟨(hm.cell _ _).trans (hcell i r j x h1 h2).1,(hcell i r j x h1 h2).2⟩) ih ht
 | el row off b base f hone hcell hv ih=>exact .el row off b base f hone (fun j x h1=>⟨(hm.cell _ _).trans (hcell j x h1).1,(hcell j x h1).2⟩) ih
 | ptr id off b h=>exact .ptr id off b h
 | arr id off len cap b h hc hx=>exact .arr id off len cap b h hc hx
 | agg cs vs hl hone hv ih=>exact .agg cs vs hl hone ih
 | tup cs vs hl hv ih=>exact .tup cs vs hl ih
 | mp id b h=>exact .mp id b h
 | stp id key n h=>exact .stp id key n h
 | fn f first caps vf vc hl1 hl2 h1 h2 ih1 ih2=>exact .fn f first caps vf vc hl1 hl2 ih1 ih2
theorem WR.marks {n:Nat} {w2:World} (h:WR g H w) (hm:Mk n w w2):WR g H w2:=by
 have hob:∀id o b,H.get id=some o->Zcy g id o b->w2.heap[b]?=w.heap[b]?:=fun id o b h1 h2=>hm.oth b fun e=>Zxt h h1 h2 e
 refine⟨fun id o ho=>?_,h.inj,h.dom,fun id o b h1 h2=>by rw[hm.size];exact h.bd id o b h1 h2,fun b j hj=>by rw[hm.size];exact h.ro b j hj⟩
 have hr:=h.obj id o ho
 cases o with
 | cells cs E =>
  obtain⟨b,carr,h1,h2,h3,h4,h5⟩:=hr
  exact⟨b,carr,h1,(hob id _ b ho h1).trans h2,⟨h3.1,fun i x u a1 a2=>(h3.2 i x u a1 a2).marks hm⟩,h4,h5⟩
 | tok m E sz =>
  obtain⟨cap,b,h1,h2,h3,h4⟩:=hr
  refine⟨cap,b,h1,h2,h3,fun hc=>?_⟩
  obtain⟨carr,q1,q2⟩:=h4 hc
  exact⟨carr,(hob id _ b ho ⟨_,_,h1,hc⟩).trans q1,q2⟩
 | map kk es del =>
  obtain⟨b,en,cl,h1,h2,h3,h4,h5⟩:=hr
  exact⟨b,en,cl,h1,(hob id _ b ho h1).trans h2,h3,fun i k x e a1 a2=>let ⟨q1,q2,q3,q4,q5⟩:=h4 i k x e a1 a2;⟨q1,q2,q3.marks hm,q4,q5⟩,h5⟩
 | iter mid m seen =>
  obtain⟨b,bm,born,h1,h2,h3,h4⟩:=hr
  exact⟨b,bm,born,h1,h2,(hob id _ b ho h1).trans h3,h4⟩
theorem Stp.marks {w2:World} (h:Stp g H w g' H' w') (hm:Mk w.heap.size w' w2):Stp g H w g' H' w2:=by
 refine⟨⟨h.le.ι,h.le.τ,h.le.β,h.le.RO,fun b j hj=>(hm.cell b j).trans (h.le.cell b j hj),fun b e=>(hm.low b (zao.1 e).1).trans (h.le.dfr b e),h.le.base⟩,h.next,hm.os.trans h.os,hm.tape.trans h.tape,hm.output.trans h.output,by rw[hm.size];exact h.size,fun b hb ho=>(hm.low b hb).trans (h.frame b hb ho),h.new,h.ro⟩
theorem mk_put {n D:Nat} {w2:World} (hn:n<=D) (hD:w.heap[D]?=some (.deferred (some []))) (h:Mk n (w.putObj D (.deferred none)) w2):Mk n w w2:=by
 have hlt:D<w.heap.size:=(zao.1 hD).1
 have hs:(w.putObj D (.deferred none)).heap[D]?=some (.deferred none):=World.putObj_heap_same hlt
 have ho:∀b,b≠D->(w.putObj D (.deferred none)).heap[b]?=w.heap[b]?:=fun b hb=>World.putObj_heap_other hb
 refine⟨h.size.trans Xc,h.os,h.tape,h.output,fun b hb=>(h.low b hb).trans (ho b Xa),fun b hb=>?_,fun b hb=>?_⟩
 ·have hne:b≠D:=fun e=>hb (by rw[e];exact hD)
  exact(h.oth b (by rw[ho b hne];exact hb)).trans (ho b hne)
 ·by_cases e:b=D
  ·subst e
   exact .inr ((h.oth b (by rw[hs];simp)).trans hs)
  ·exact h.gone b (by rw[ho b e];exact hb)
theorem dfr_put {D D':Nat} (hD:w.heap[D]?=some (.deferred (some []))) (hne:D'≠D) (h':w.heap[D']?=some (.deferred (some []))):(w.putObj D (.deferred none)).heap[D']?=some (.deferred (some [])) :=
 (World.putObj_heap_other hne).trans h'
theorem Mk.refl (n:Nat) (w:World):Mk n w w:=⟨rfl,rfl,rfl,rfl,fun _ _=>rfl,fun _ _=>rfl,fun _ h=>.inl h⟩
theorem Zxn {P:Program} {fn:Func} {tmps:Array Value} {R:Ending->World->Prop} {n:Nat}:∀(ds:List Deferred) (u:FrameMode) (w:World),Zyd n w ds->u≠.run->(∀w2,Mk n w w2->LeavesIn Fence.wide 0 P fn tmps R [] u w2)->LeavesInM Fence.wide 0 P fn tmps R ds u w
 | [],u,w,_,_,h=>h w (.refl n w)
 | d :: ds,u,w,hd,hu,h=>by
  obtain⟨D,rfl,hn,hD⟩:=hd.ok d zak
  refine⟨hu,.inl ⟨D,_,rfl,run_takeDeferred hD,Zxn ds u _ ⟨fun d' hd'=>?_,(zaU.1 hd.nd).2⟩ hu fun w2 hm=>h w2 (mk_put hn hD hm)⟩⟩
  obtain⟨D',rfl,hn',hD'⟩:=hd.ok d' (zar _ hd')
  exact⟨D',rfl,hn',dfr_put hD (fun e=>(zaU.1 hd.nd).1 (by rw[<- e];exact hd')) hD'⟩
theorem ZxQ {P:Prg} (hE:∀t ks,eqT t=some ks->Ziv P.p t ks) {f:FuncId} {ac:Zar} {rs:List Zcq} {args:List AV} {H:Zaa} {R:AV->Zaa->Prop} (hc:cFn P.p eqT f=some (ac,rs,N)) (hn:args.length<=N) (h:AW P ac (Zge rs R) (Za2 0 args) H):Zay P f args H R:=by
 unfold cFn at hc
 obtain⟨fn,hfn,hc⟩:=Zao hc
 obtain⟨c,hb,hc⟩:=Zao hc
 split at hc
 ·cases hc
 ·rename_i hname
  obtain⟨ac',hac,hc⟩:=Zao hc
  obtain⟨rs',hrs,hc⟩:=Zao hc
  simp only[zaa,zaf]at hc
  obtain⟨rfl,rfl,rfl⟩:=hc
  refine⟨⟨fn,hfn,by rw[hb];rfl,by simpa using hname⟩,fun g w vs hW hV hEn=>?_⟩
  refine callsIn_wide.1 (callsIn_of_wp_marks (F:=Fence.wide) (n:=0) hfn hb trivial (wpIn_wide.2 ?_) rfl)
  -- in the function's own eyes memory begins where it begins
  have hW0:=hW.Zxq w.heap.size
  have hV0:VRs { g with base:=w.heap.size } w args vs:=⟨hV.1,fun i x u h1 h2=>(hV.2 i x u h1 h2).Zxq _⟩
  have hl:vs.length=args.length:=hV.1.symm
  have hF:FR { g with base:=w.heap.size } w fn.ntmps (Za2 0 args) { tmps:=vs.toArray++Array.replicate (fn.ntmps - vs.toArray.size) undef,defers:=[] }:=by
   refine⟨Xf,.nil,fun t=>?_⟩
   rw[ZgD]
   simp only[zat,if_true,Nat.sub_zero]
   by_cases ht:t<args.length
   ·have ht2:t<vs.length:=Xa
    rw[zab ht]
    have e:(vs.toArray++Array.replicate (fn.ntmps - vs.toArray.size) undef).getD t undef=vs[t]:=by
     simp[Array.getD,Array.getElem_append,ht2]
     intro h
     omega
    simp only[Option.getD_some]
    rw[e]
    exact hV0.2 t _ _ (zab ht) (zab ht2)
   ·rw[zbT Xa]
    exact .any _
  refine wp_mono (ZkU hE c ac' hac _ _ H { g with base:=w.heap.size } w _ ⟨zad _,hEn⟩ hF hW0 h) (fun e a' w' hKE=>?_)
  rcases hKE with⟨e',F',H',g',he,hQ,k1,k2,k3⟩|⟨u,H',g',rfl,k1,k2,k3,k4⟩
  rotate_left
  ·have hb:g'.base=w.heap.size:=k4.le.base
   rw[hb]at k1
   exact Zxn a'.defers _ w' k1 Xc fun w2 hm=>show EndR P g H w R (.panicked _) w2 from .inr ⟨u,H',_,rfl,k2,(k3.marks hm).Zxq g.base,(k4.marks hm).back⟩
  have fin:(match ZcU F' H' rs' with|some r=>∃r2 H2,Zb6 r H' r2 H2/\R r2 H2|none=>False)->LeavesInM Fence.wide 0 P.p fn a'.tmps (EndR P g H w R) a'.defers .returning w':=by
   intro hq
   have hb:g'.base=w.heap.size:=k3.le.base
   have hdf:=k1.df
   rw[hb]at hdf
   split at hq
   ·rename_i r hr
    obtain⟨r2,H2,hrs2,hR⟩:=hq
    refine Zxn a'.defers .returning w' hdf Xc fun w2 hm=>?_
    have k2':=k2.marks hm
    have k3':=k3.marks hm
    have k1':FR g' w2 fn.ntmps F' { a' with defers:=[] }:=⟨k1.size,.nil,fun t=>(k1.get t).marks hm⟩
    obtain⟨u,j1,j2⟩:=ZlZ k1' k2' hrs hr
    obtain⟨g2,j3,j4,j5⟩:=hrs2 g' w2 u j2 k2'
    exact⟨u,j1,.inl ⟨u,r2,H2,_,rfl,hR,j3.Zxq g.base,j4.Zxq g.base,(k3'.trans j5).back⟩⟩
   ·exact hq.elim
  cases e with
  | normal =>
   cases e' with
   | normal=>exact fin hQ
   | _=>exact he.elim
  | ret =>
   cases e' with
   | ret=>exact fin hQ
   | _=>exact he.elim
  | exit i =>
   cases e' with
   | exit j=>exact hQ.elim
   | _=>exact he.elim
  | _=>cases e'<;>exact he.elim
theorem GStep.refl (F:Fr) (H:Zaa):GStep F H F H:=fun _ g _ _ hF hW=>⟨g,hF,hW,.refl _ _ _⟩
theorem GStep.trans {F1 F2 F3:Fr} {H1 H2 H3:Zaa} (h:GStep F1 H1 F2 H2) (k:GStep F2 H2 F3 H3):GStep F1 H1 F3 H3:=fun N g w a hF hW=>by
 obtain⟨g1,h1,h2,h3⟩:=h N g w a hF hW
 obtain⟨g2,k1,k2,k3⟩:=k N g1 w a h1 h2
 exact⟨g2,k1,k2,h3.trans k3⟩
theorem GStep.fr {F F':Fr} {H:Zaa} (h:∀p∈F',Fr.get F p.1=p.2):GStep F H F' H:=fun N g w a hF hW=>by
 refine⟨g,⟨hF.size,hF.df,fun t=>?_⟩,hW,.refl _ _ _⟩
 have:Fr.get F' t=.any\/Fr.get F' t=Fr.get F t:=by
  clear hF
  induction F' with
  | nil=>exact .inl rfl
  | cons p F' ih =>
   obtain⟨k,x⟩:=p
   simp only[Fr.get]
   by_cases e:t=k
   ·subst e
    right
    rw[if_pos rfl]
    exact(h (t,x) Xc).symm
   ·rw[if_neg e]
    exact ih (fun p hp=>h p (by simp[hp]))
 rcases this with h|h
 ·rw[h];exact .any _
 ·rw[h];exact hF.get t
theorem Zf3 {H H2 : Zaa} (hW : WR g H w) (h1 : ∀ i o, H2.get i = some o -> H.get i = some o) (h2 : H.next <= H2.next) : WR g H2 w /\ Stp g H w g H2 w :=
  ⟨⟨fun id o h => hW.obj id o (h1 id o h), fun i i' o o' b a1 a2 => hW.inj i i' o o' b (h1 _ _ a1) (h1 _ _ a2), fun id hid => hW.dom id Xa, fun id o b h => hW.bd id o b (h1 _ _ h), hW.ro⟩,
   ⟨.refl _ _, h2, rfl, rfl, rfl, zad _, fun _ _ _ => rfl, fun b _ ⟨i, o, a1, a2⟩ => ⟨i, o, h1 _ _ a1, a2⟩, fun _ _ _ h => .inl h⟩⟩
theorem GStep.drop {F:Fr} {H H2:Zaa} (h1:∀i o,H2.get i=some o->H.get i=some o) (h2:H.next<=H2.next):GStep F H F H2:=fun N g w a hF hW=>by
 obtain⟨k1,k2⟩:=Zf3 hW h1 h2
 exact⟨g,hF,k1,k2⟩
theorem GStep.ext {F:Fr} {H H2:Zaa} (h:Zaa.Ext H2 H):GStep F H F (H2.bump (H.next - H2.next)):=GStep.drop (fun i o hi=>h.get i o hi) (by have:=h.next;simp;omega)
theorem GStep.tok {F:Fr} {H:Zaa} (x E sz:Nat) (hx:Fr.get F x=.sl .full []):GStep F H (Fr.put F (some x) (.sl (.own H.next) [])) (H.alloc (.tok 0 E sz)):=fun N g w a hF hW=>by
 have hdom:=hW.dom H.next (zad _)
 let g':Gh:={ g with τ:=fun i=>if i=H.next then some (0,0,0) else g.τ i }
 have hle:g.le g' w w:=⟨fun _ _ h=>h,fun i fr c b h=>by
  have:i≠H.next:=by rintro rfl;rw[hdom.2.1]at h;cases h
  exact⟨fr,c,b,by simp[g',this,h],.inr ⟨rfl,rfl,rfl⟩⟩,fun _ _ _ h=>h,fun _ _ h=>h,fun _ _ _=>rfl,fun _ h=>h,rfl⟩
 have hown:∀id o b,id<H.next->(Zcy g' id o b ↔ Zcy g id o b):=fun id o b hl=>Zcy.le (by simp[g'];omega) rfl
 have hnew:∀b,¬Zcy g' H.next (.tok 0 E sz) b:=by
  rintro b ⟨fr,c,h,hc⟩
  simp[g']at h
  omega
 have hget:∀id o',(H.alloc (.tok 0 E sz)).get id=some o'->(id=H.next/\o'=.tok 0 E sz)\/(id<H.next/\H.get id=some o'):=by
  intro id o' h
  by_cases e:id=H.next
  ·subst e;rw[Zaa.Zae]at h;injection h with h;exact .inl ⟨rfl,h.symm⟩
  ·rw[Zaa.Zag e]at h;exact .inr ⟨Zaa.lt h,h⟩
 refine⟨g',?_,⟨fun id o' h=>?_,fun id id' o1 o2 b h1 h2 h3 h4=>?_,fun id hid=>?_,fun id o' b h1 h2=>?_,hW.ro⟩,⟨hle,Nat.le_succ _,rfl,rfl,rfl,zad _,fun _ _ _=>rfl,fun b hb ⟨id,o',h1,h2⟩=>?_,fun _ _ _ h=>.inl h⟩⟩
 ·have hF':=hF.mono hle
  refine⟨hF'.size,hF'.df,fun t=>?_⟩
  rw[Fr.get_put]
  by_cases e:x=t
  ·subst e
   rw[if_pos rfl]
   have hv:=hF'.get x
   rw[hx]at hv
   generalize a.tmps.getD x undef=u at hv
   cases hv with
   | sl _ _ A c sz' b o f hc hm hA hsz hcell hval ht =>
    exact .sl _ [] A c sz' b o f hc hm hA hsz hcell hval ⟨0,0,0,by simp[g'],zad _,fun _=>⟨ht,fun h=>by omega⟩⟩
  ·rw[if_neg (fun h=>e (by injection h))]
   exact hF'.get t
 ·rcases hget id o' h with⟨rfl,rfl⟩|⟨hl,h⟩
  ·exact⟨0,0,by simp[g'],zad _,by unfold maxLen;omega,fun h=>by omega⟩
  ·exact(hW.obj id o' h).mono hle (fun _ _=>rfl) (fun _ _ _ h=>h) (by simp[g'];omega) rfl (fun _=>rfl)
 ·rcases hget id o1 h1 with⟨rfl,rfl⟩|⟨hl,k1⟩
  ·exact absurd h3 (hnew b)
  ·rcases hget id' o2 h2 with⟨rfl,rfl⟩|⟨hl2,k2⟩
   ·exact absurd h4 (hnew b)
   ·exact hW.inj id id' o1 o2 b k1 k2 ((hown id o1 b hl).1 h3) ((hown id' o2 b hl2).1 h4)
 ·simp only[Zaa.Zax]at hid
  have h:=hW.dom id Xa
  refine⟨h.1,?_,h.2.2⟩
  simp[g',h.2.1];omega
 ·rcases hget id o' h1 with⟨rfl,rfl⟩|⟨hl,h1⟩
  ·exact absurd h2 (hnew b)
  ·exact hW.bd id o' b h1 ((hown id o' b hl).1 h2)
 ·rcases hget id o' h1 with⟨rfl,rfl⟩|⟨hl,h1⟩
  ·exact absurd h2 (hnew b)
  ·exact⟨id,o',h1,(hown id o' b hl).1 h2⟩
def AV.ZfX:AV->AV
 | .sl _ rows=>.sl .no rows
 | a=>a
def AV.weak:AV->AV
 | .agg cs=>.agg (cs.map AV.ZfX)
 | .tup vs=>.tup (vs.map fun|.agg cs=>.agg (cs.map AV.ZfX)|a=>a.ZfX)
 | a=>a.ZfX
theorem VR.ZfX {r:AV} {v:Value} (h:VR g w r v):VR g w r.ZfX v:=by
 cases h with
 | sl tok rows A c sz b o f hc hm hA hsz hcell hv ht=>exact .sl .no rows A c sz b o f hc hm hA hsz hcell hv trivial
 | any v=>exact .any v
 | ub b=>exact .ub b
 | sc v=>exact .sc v
 | el row off b base f h1 h2 h3=>exact .el row off b base f h1 h2 h3
 | ptr id off b h=>exact .ptr id off b h
 | arr id off len cap b h hc hm=>exact .arr id off len cap b h hc hm
 | agg cs vs hl hone hv=>exact .agg cs vs hl hone hv
 | tup cs vs hl hv=>exact .tup cs vs hl hv
 | mp id b h=>exact .mp id b h
 | stp id key n h=>exact .stp id key n h
 | fn f first caps vf vc h1 h2 h3 h4=>exact .fn f first caps vf vc h1 h2 h3 h4
theorem Zm0 (r:AV):r.ZfX.one=r.one:=by cases r<;>rfl
theorem VR.weakA {cs:List AV} {v:Value} (h:VR g w (.agg cs) v):VR g w (.agg (cs.map AV.ZfX)) v:=by
 cases h with
 | agg _ vs hl hone hv =>
  refine .agg _ vs (by simpa using hl) (fun x hx=>?_) (fun i x u hx hu=>?_)
  ·obtain⟨y,hy,rfl⟩:=zaH.1 hx
   rw[Zm0];exact hone y hy
  ·rw[zaO]at hx
   cases hy:cs[i]? with
   | none=>rw[hy]at hx;cases hx
   | some y=>rw[hy]at hx;simp at hx;subst hx;exact(hv i y u hy hu).ZfX
theorem VR.weak {r:AV} {v:Value} (h:VR g w r v):VR g w r.weak v:=by
 cases h with
 | agg cs vs hl hone hv=>exact(VR.agg cs vs hl hone hv).weakA
 | tup cs vs hl hv =>
  refine .tup _ vs (by simpa using hl) (fun i x u hx hu=>?_)
  rw[zaO]at hx
  cases hy:cs[i]? with
  | none=>rw[hy]at hx;cases hx
  | some y =>
   rw[hy]at hx
   simp at hx
   subst hx
   have:=hv i y u hy hu
   split
   ·exact this.weakA
   ·exact this.ZfX
 | any v=>exact .any v
 | ub b=>exact .ub b
 | sc v=>exact .sc v
 | sl tok rows A c sz b o f hc hm hA hsz hcell hv ht=>exact(VR.sl tok rows A c sz b o f hc hm hA hsz hcell hv ht).ZfX
 | el row off b base f h1 h2 h3=>exact .el row off b base f h1 h2 h3
 | ptr id off b h=>exact .ptr id off b h
 | arr id off len cap b h hc hm=>exact .arr id off len cap b h hc hm
 | mp id b h=>exact .mp id b h
 | stp id key n h=>exact .stp id key n h
 | fn f first caps vf vc h1 h2 h3 h4=>exact .fn f first caps vf vc h1 h2 h3 h4
theorem Zb6.of {r:AV} {H H2:Zaa} (h1:∀i o,H2.get i=some o->H.get i=some o) (h2:H.next<=H2.next):Zb6 r H r.weak H2:=fun g w v hv hW=>by
 obtain⟨k1,k2⟩:=Zf3 hW h1 h2
 exact⟨g,hv.weak,k1,k2⟩
theorem Zb6.keep {r:AV} {H H2:Zaa} (h1:∀i o,H2.get i=some o->H.get i=some o) (h2:H.next<=H2.next):Zb6 r H r H2:=fun g w v hv hW=>by
 obtain⟨k1,k2⟩:=Zf3 hW h1 h2
 exact⟨g,hv,k1,k2⟩
theorem Zb6.ext {r:AV} {H H2:Zaa} (h:Zaa.Ext H2 H):Zb6 r H r.weak (H2.bump (H.next - H2.next)):=Zb6.of (fun i o hi=>h.get i o hi) (by have:=h.next;simp;omega)
end
def SeqQ (P:Prg) (b:Zar) (Q:AEx->Fr->Zaa->Prop):AEx->Fr->Zaa->Prop:=fun e F H=>match e with
 | .normal=>AW P b Q F H
 | e=>Q e F H
def BlkQ (id:Nat) (Q:AEx->Fr->Zaa->Prop):AEx->Fr->Zaa->Prop:=fun e F H=>match e with
 | .exit k=>if k=id then Q .normal F H else Q (.exit k) F H
 | e=>Q e F H
section
variable {P:Prg} {a b:Zar} {Q:AEx->Fr->Zaa->Prop} {F F':Fr} {H H':Zaa}
theorem ZaZ:AW P (.seq a b) Q F H=AW P a (SeqQ P b Q) F H:=rfl
theorem Za0:SeqQ P b Q .normal F H=AW P b Q F H:=rfl
theorem Za5 {id:Nat}:SeqQ P b Q (.exit id) F H=Q (.exit id) F H:=rfl
theorem Za1 {l:List AI}:AW P (.reg l) Q F H=Zau P l F H (Q .normal):=rfl
theorem Za8 {id:Nat}:AW P (.blk id a) Q F H=AW P a (BlkQ id Q) F H:=rfl
theorem Za6 {id k:Nat}:BlkQ id Q (.exit k) F H=if k=id then Q .normal F H else Q (.exit k) F H:=rfl
theorem ZaK {c:AX}:AW P (.cond c a b) Q F H=match c.ev F with
 | .sc (.bool t)=>bif t then AW P a Q F H else AW P b Q F H
 | .ub=>AW P a Q F H/\AW P b Q F H
 | _=>False:=rfl
theorem ZaS:AW P .skip Q F H=Q .normal F H:=rfl
theorem ZaT {id:Nat}:AW P (.exit id) Q F H=Q (.exit id) F H:=rfl
section
variable {σ:Type} {inv:σ->Prop} {μ:σ->Nat} {Fs:σ->Fr} {Hs:σ->Zaa} {s:σ}
end
theorem Zaa.ext {H H':Zaa} (h1:H.get=H'.get) (h2:H.next=H'.next):H=H':=by
 cases H;cases H';simp at h1 h2;subst h1 h2;rfl
theorem Zla {o o':Zb3}:(H.alloc o).set H.next o'=H.alloc o':=by
 refine Zaa.ext ?_ rfl
 funext i
 simp only[Zaa.set,Zaa.alloc]
 by_cases h:i=H.next
 ·simp[h]
 ·simp[h]
def Pure (H:Zaa) (v:AV) (r:AV) (H':Zaa):Prop:=r=v/\∃k,H'=H.bump k
theorem ZaU {α:Type} {f:α->List AV} {sz:Nat} (h:∀x,(f x).length=sz) (l:List α):ZaE sz (l.map f)=true:=by
 unfold ZaE
 rw[za6]
 intro r hr
 obtain⟨x,_,rfl⟩:=zaH.1 hr
 simp[h x]
end
end Go.Proofs.YtfjjpndoeppbhaaGreatDoor
