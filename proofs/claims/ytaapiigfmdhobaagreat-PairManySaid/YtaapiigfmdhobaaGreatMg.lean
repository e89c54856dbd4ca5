/- Texts of the walk. -/
import Derived.Test.YtaapiigfmdhobaaGreatMd
import Derived.Test.YtaapiigfmdhobaaGreatMf
import Derived.Test.YtaapiigfmdhobaaGreatMe
namespace Go.Proofs.YtaapiigfmdhobaaGreat
set_option linter.defProp false
set_option linter.unusedSimpArgs false
set_option linter.unusedVariables false
open Go.RowKit
def eI (l:List Int):AV:=.sl .no (l.map fun n=>[.i n])
def eII (l:List (List Int)):AV:=.sl .no (l.map fun l=>[eI l])
def Zc3 (x:Shp):List AV:=[eII x.sizes,.i x.measures]
def small (x:Shp):Bool:=(x.sizes.take 21).all (fun l=>decide (l.length<=10))&&decide (x.sizes.length<=20)
def YQ:=an7 c7_0.eq_1<|an7 Zca.eq_1<|an7 ZcW.eq_1<|an7 Zew.eq_1<|an7 ZkW.eq_1<|an7 ZqR.eq_1<|an7 Zo4.eq_1<|an7 ZnE.eq_1<|an7 Zf9.eq_1<|an7 Zdp.eq_1<|an7 Zl6.eq_1<|an7 ZoU.eq_1<|an7 ZoW.eq_1<|an7 Znk.eq_1<|an7 c33_0.eq_1<|an7 ZnS.eq_1<|an7 Zk8.eq_1<|an7 c44_0.eq_1<|an7 ZeF.eq_1<|an7 ZmE.eq_1<|an7 ZeB.eq_1<|an7 Zgb.eq_1<|an7 Zjp.eq_1<|an7 Zdx.eq_1<|an7 Zdn.eq_1<|an7 ZkZ.eq_1<|an7 Zfd.eq_1<|an7 ZkX.eq_1<|an7 Zqj.eq_1<|an7 ZvP.eq_1<|an7 ZiF.eq_1<|an7 c62_0.eq_1<|an7 Zi8.eq_1<|an7 ZoS.eq_1<|an7 Zk1.eq_1<|an7 ZiL.eq_1<|an7 ZnP.eq_1<|an7 ZhM.eq_1<|an7 c73_0.eq_1<|an7 Znz.eq_1<|an7 ZdC.eq_1<|an7 ZdA.eq_1<|an7 c89_0.eq_1<|an7 Ze1.eq_1<|an7 c91_0.eq_1<|an7 ZfU.eq_1<|an7 c93_0.eq_1<|an7 ZdX.eq_1<|an7 Zvp.eq_1<|an7 ZiC.eq_1<|an7 ZvO.eq_1<|an7 ZmJ.eq_1<|an7 Zck.eq_1<|an7 ZmV.eq_1<|an7 Zdc.eq_1<|an7 Zic.eq_1<|an7 Zcf.eq_1<|an7 Zpi.eq_1<|an7 Zfr.eq_1<|an7 Zpf.eq_1<|an7 ZpX.eq_1<|an7 ZpQ.eq_1<|an7 Zno.eq_1<|an7 ZqY.eq_1<|an7 ZnZ.eq_1<|an7 Zcv.eq_1<|an7 ZcM.eq_1<|an7 Zgs.eq_1<|an7 Zds.eq_1<|an7 ZmU.eq_1<|an7 Zfp.eq_1<|an7 Zed.eq_1<|an7 ZmX.eq_1<|an7 ZeV.eq_1<|an7 Zka.eq_1<|an7 ZfC.eq_1<|an7 ZdK.eq_1<|an7 ZcY.eq_1<|an7 ZpP.eq_1<|an7 Zou.eq_1<|an7 ZqT.eq_1<|an7 ZcC.eq_1<|an7 Zcx.eq_1<|an7 Zfk.eq_1<|an7 ZhO.eq_1<|an7 ZdN.eq_1<|an7 ZeY.eq_1<|an7 Zj3.eq_1<|an7 c162_0.eq_1<|an7 ZvQ.eq_1<|an7 ZhA.eq_1<|an7 ZgH.eq_1<|an7 ZlK.eq_1<|Zln.eq_1
theorem Az0 {g h:Prop} (k:h) (e:h->g:=by(intro z;(try simp(disch:=first|assumption|omega|simp only[nx]<;>omega|fail)only[qr,qn,YQ,↓YA,YB,YC,YZ,YF,sevalprocAttr]);exact z)):g:=e k
theorem Az1 {g h:Prop} (k:h) (e:h->g:=by(intro z;(try simp(disch:=first|assumption|omega|simp only[nx]<;>omega|fail)only[hZ,qr,qn,YQ,↓YA,YB,YC,YZ,YF,sevalprocAttr]);exact z)):g:=e k
theorem Az2 {g h:Prop} (k:h) (e:h->g:=by(intro z;(try simp(disch:=first|assumption|omega|simp only[nx]<;>omega|fail)only[zaj,qr,qn,YQ,↓YA,YB,YC,YZ,YF,sevalprocAttr]);exact z)):g:=e k
theorem Az3 {g h:Prop} (k:h) (e:h->g:=by(intro z;(try simp(disch:=first|assumption|omega|simp only[nx]<;>omega|fail)only[hZ,zaj,qr,qn,YQ,↓YA,YB,YC,YZ,YF,sevalprocAttr]);exact z)):g:=e k
theorem Kz0 {g h:Prop} (k:h) (e:h->g:=by(intro z;(try simp(disch:=first|assumption|omega|simp only[nx]<;>omega|fail)only[YC,YZ,↓ZaZ,↓Za1,↓Za8,↓ZaK,↓ZaS,↓Zbl,↓ZaT,↓Zbj,↓Zau,↓Zaj,AI.want,↓AI.step,↓Zbe,AOp.ev,AX.ev,evs,zas,zaS,Za2,Fr.get,Fr.put,AV.cells,↓Za0,↓Zbo,↓Za5,↓Zbn,↓Zbh,↓Za6,ZaV,ZaY,ZaR,Zbk,Zbq,Zbi,Zbg,Zbp,Zbm,ZaO,undef,↓Zcj,↓Zci,ZcU,ZcF,Zcq.ev,↓reduceIte,Nat.reduceEqDiff,Zbd,↓cond_false,↓cond_true,cond_false,cond_true,Nat.add_zero,zaH,Nat.reduceAdd,Nat.reduceMul,zbB,zbx,Nat.reduceLeDiff,List.getElem?_cons_zero,List.getElem?_cons_succ,Option.map_some,ZaI,Za4,Zc4,beq_self_eq_true,zbL,zbc,zbh,zbi,zaZ,Zaw,Int.toNat_natCast,zaE,false_implies,implies_true,true_and,and_true,and_self,List.nil_append,zaI,List.cons_append,Value.oneCell',Zb9,splice,rowsOf,ZaL,List.take_succ_cons,List.take_zero,za3,zaX,zbu,zbv,List.length_cons,List.length_nil,zaf,Zaa.ZaB,Zaa.ZaD,Zaa.ZaH,Zaa.Zax,Zaa.Zal,Zaa.Zah,Zaa.Zae,Zaa.Zat,Zaa.Zag,YQ]);exact z)):g:=e k
theorem Kz1 {g h:Prop} (k:h) (e:h->g:=by(intro z;(try simp(disch:=first|assumption|omega|simp only[nx]<;>omega|fail)only[YC,YZ,↓ZaZ,↓Za1,↓Za8,↓ZaK,↓ZaS,↓Zbl,↓ZaT,↓Zbj,↓Zau,↓Zaj,AI.want,↓AI.step,↓Zbe,AOp.ev,AX.ev,evs,zas,zaS,Za2,Fr.get,Fr.put,AV.cells,↓Za0,↓Zbo,↓Za5,↓Zbn,↓Zbh,↓Za6,ZaV,ZaY,ZaR,Zbk,Zbq,Zbi,Zbg,Zbp,Zbm,ZaO,undef,↓Zcj,↓Zci,ZcU,ZcF,Zcq.ev,↓reduceIte,Nat.reduceEqDiff,Zbd,↓cond_false,↓cond_true,cond_false,cond_true,Nat.add_zero,zaH,Nat.reduceAdd,Nat.reduceMul,zbB,zbx,Nat.reduceLeDiff,List.getElem?_cons_zero,List.getElem?_cons_succ,Option.map_some,ZaI,Za4,Zc4,beq_self_eq_true,zbL,zbc,zbh,zbi,zaZ,Zaw,Int.toNat_natCast,zaE,false_implies,implies_true,true_and,and_true,and_self,List.nil_append,zaI,List.cons_append,Value.oneCell',Zb9,splice,rowsOf,ZaL,List.take_succ_cons,List.take_zero,za3,zaX,zbu,zbv,List.length_cons,List.length_nil,zaf,Zaa.ZaB,Zaa.ZaD,Zaa.ZaH,Zaa.Zax,Zaa.Zal,Zaa.Zah,Zaa.Zae,Zaa.Zat,Zaa.Zag,YQ,hZ]);exact z)):g:=e k
theorem Kz3 {g h:Prop} (k:h) (e:h->g:=by(intro z;(try simp(disch:=first|assumption|omega|simp only[nx]<;>omega|fail)only[YC,YZ,↓ZaZ,↓Za1,↓Za8,↓ZaK,↓ZaS,↓Zbl,↓ZaT,↓Zbj,↓Zau,↓Zaj,AI.want,↓AI.step,↓Zbe,AOp.ev,AX.ev,evs,zas,zaS,Za2,Fr.get,Fr.put,AV.cells,↓Za0,↓Zbo,↓Za5,↓Zbn,↓Zbh,↓Za6,ZaV,ZaY,ZaR,Zbk,Zbq,Zbi,Zbg,Zbp,Zbm,ZaO,undef,↓Zcj,↓Zci,ZcU,ZcF,Zcq.ev,↓reduceIte,Nat.reduceEqDiff,Zbd,↓cond_false,↓cond_true,cond_false,cond_true,Nat.add_zero,zaH,Nat.reduceAdd,Nat.reduceMul,zbB,zbx,Nat.reduceLeDiff,List.getElem?_cons_zero,List.getElem?_cons_succ,Option.map_some,ZaI,Za4,Zc4,beq_self_eq_true,zbL,zbc,zbh,zbi,zaZ,Zaw,Int.toNat_natCast,zaE,false_implies,implies_true,true_and,and_true,and_self,List.nil_append,zaI,List.cons_append,Value.oneCell',Zb9,splice,rowsOf,ZaL,List.take_succ_cons,List.take_zero,za3,zaX,zbu,zbv,List.length_cons,List.length_nil,zaf,Zaa.ZaB,Zaa.ZaD,Zaa.ZaH,Zaa.Zax,Zaa.Zal,Zaa.Zah,Zaa.Zae,Zaa.Zat,Zaa.Zag,YQ,hZ,zaj,List.length_cons,List.length_nil]);exact z)):g:=e k
theorem Wz0 {g h:Prop} (k:h) (e:h->g:=by(intro z;(try simp(disch:=first|omega|simp only[nx]<;>omega|fail)only[YC,YZ,ZaO,undef,Zge,ZcU,ZcF,Zcq.ev,ZaZ,Za1,Za8,ZaK,ZaS,Zbl,ZaT,Zbj,Zau,Zaj,AI.want,AI.step,AOp.ev,AX.ev,evs,zas,zaS,Za2,Fr.get,Fr.put,AV.cells,Za0,Zbo,Za5,Zbn,Zbh,Za6,ZaV,ZaY,ZaR,Zbk,Zbq,Zbi,Zbg,Zbp,Zbm,List.nil_append,Zaa.ZaB,Zaa.Zax,Zaa.ZaD,Zaa.ZaH,Zaa.Zat,Zaa.Zag,Zaa.Zal,Zaa.Zah,ZaM,ZaQ,Zbx,↓reduceIte,Nat.reduceEqDiff,Zaa.Zae,Zbd,cond_false,cond_true,Nat.add_zero,zaH,List.getElem?_cons_zero,List.getElem?_cons_succ,Option.map_some,ZaI,Za4,Zc4,beq_self_eq_true,zbL,zbc,zbh,zbi,zaZ,Zaw,Int.toNat_natCast,zaE,false_implies,implies_true,true_and,and_true,YQ]);exact z)):g:=e k
theorem Wz3 {g h:Prop} (k:h) (e:h->g:=by(intro z;(try simp(disch:=first|omega|simp only[nx]<;>omega|fail)only[YC,YZ,ZaO,undef,Zge,ZcU,ZcF,Zcq.ev,ZaZ,Za1,Za8,ZaK,ZaS,Zbl,ZaT,Zbj,Zau,Zaj,AI.want,AI.step,AOp.ev,AX.ev,evs,zas,zaS,Za2,Fr.get,Fr.put,AV.cells,Za0,Zbo,Za5,Zbn,Zbh,Za6,ZaV,ZaY,ZaR,Zbk,Zbq,Zbi,Zbg,Zbp,Zbm,List.nil_append,Zaa.ZaB,Zaa.Zax,Zaa.ZaD,Zaa.ZaH,Zaa.Zat,Zaa.Zag,Zaa.Zal,Zaa.Zah,ZaM,ZaQ,Zbx,↓reduceIte,Nat.reduceEqDiff,Zaa.Zae,Zbd,cond_false,cond_true,Nat.add_zero,zaH,List.getElem?_cons_zero,List.getElem?_cons_succ,Option.map_some,ZaI,Za4,Zc4,beq_self_eq_true,zbL,zbc,zbh,zbi,zaZ,Zaw,Int.toNat_natCast,zaE,false_implies,implies_true,true_and,and_true,YQ,hZ,zaj,List.length_cons,List.length_nil]);exact z)):g:=e k
abbrev rI (l:List Int):List (List AV):=l.map fun n=>[.i n]
abbrev rII (l:List (List Int)):List (List AV):=l.map fun l=>[.sl .no (rI l)]
theorem Zms {l:List Int} {k:Nat} (h:k<l.length):(rI l)[k]?=some [.i l[k]]:=by simp[h]
theorem Zhb {l:List (List Int)} {k:Nat} (h:k<l.length):(rII l)[k]?=some [.sl .no (rI l[k])]:=by simp[h]
theorem ZgU (x:Shp):Zc3 x=[.sl .no (rII x.sizes),.i x.measures]:=rfl
theorem Zk6 (x:Shp):ZbS x=(!decide ((x.sizes.length:Int)<1)&&!decide ((x.sizes.length:Int) > 16)&&!decide (x.measures<1)&&!decide (x.measures > 3)&&x.sizes.all ZbT):=by
 have e1:decide (1<=x.sizes.length)=!decide ((x.sizes.length:Int)<1):=by
  rw[<- decide_not];congr 1;simp;omega
 have e2:decide (x.sizes.length<=16)=!decide ((x.sizes.length:Int) > 16):=by
  rw[<- decide_not];congr 1;simp;omega
 have e3:decide (1<=x.measures)=!decide (x.measures<1):=by
  rw[<- decide_not];congr 1;simp
 have e4:decide (x.measures<=3)=!decide (x.measures > 3):=by
  rw[<- decide_not];congr 1;simp
 unfold ZbS
 rw[e1,e2,e3,e4]
theorem Zi1 (l:List Int):ZbT l=(!decide ((l.length:Int)<1)&&!decide ((l.length:Int) > 4)&&ZcZ none l):=by
 have e1:decide (1<=l.length)=!decide ((l.length:Int)<1):=by
  rw[<- decide_not];congr 1;simp;omega
 have e2:decide (l.length<=4)=!decide ((l.length:Int) > 4):=by
  rw[<- decide_not];congr 1;simp;omega
 unfold ZbT
 rw[e1,e2]
theorem Zk9 (x:Shp) (H:Zaa):Zay Tryz.prog 94 [.agg (Zc3 x)] H (Pure H (.b (ZbS x))):=by
 refine ZdU hE cf94 (zab rfl) ?_
 have hx:Zaa.Ext H (H.alloc (.cells [.sl .no (rII x.sizes),.i x.measures] 37)):=(Zaa.Ext.refl H).alloc
 have hs:=Zk6 x
 rw[ZgU]
 cases d1:decide ((x.sizes.length:Int)<1)with
 | true =>
  have hZ:=d1;refine Wz3 ?_
  refine ZaW hx ?_
  rw[hs,d1];rfl
 | false =>
  cases d2:decide ((x.sizes.length:Int) > 16)with
  | true =>
   have hZ:=an7 d1<|d2;refine Wz3 ?_
   refine ZaW hx ?_
   rw[hs,d1,d2];rfl
  | false =>
   cases d3:decide (x.measures<1)with
   | true =>
    have hZ:=an7 d1<|an7 d2<|d3;refine Wz3 ?_
    refine ZaW hx ?_
    rw[hs,d1,d2,d3];rfl
   | false =>
    cases d4:decide (x.measures > 3)with
    | true =>
     have hZ:=an7 d1<|an7 d2<|an7 d3<|d4;refine Wz3 ?_
     refine ZaW hx ?_
     rw[hs,d1,d2,d3,d4];rfl
    | false =>
     have hlen:x.sizes.length<=16:=by simp at d2;omega
     rw[d1,d2,d3,d4]at hs
     simp only[zaZ,zaY]at hs
     have hZ:=an7 d1<|an7 d2<|an7 d3<|d4;refine Wz3 ?_
     refine ZjR (fun k=>ZbS x=(x.sizes.drop k).all ZbT) (fun _=>[(28,.sl .no (rII x.sizes)),(1,.ptr H.next 0),(2,.b false)]) (fun _=>H.alloc (.cells [.sl .no (rII x.sizes),.i x.measures] 37)) (N:=x.sizes.length) (by unfold maxLen;omega) (by decide) (by decide) (by decide) (by rw[hs];rfl) (GStep.fr (by simp[Fr.get])) ?_ ?_
     ·intro k hk hinv
      rw[Zu8 _ _ hk,Zi1]at hinv
      have hg:=Zhb hk
      have h0:(0:Int)<=k:=by omega
      generalize hl:x.sizes[k]=l at hinv hg
      cases d5:decide ((l.length:Int)<1)with
      | true =>
       have hZ:=an7 hg<|an7 h0<|d5;refine Wz3 ?_
       refine ZaW hx ?_
       rw[hinv,d5];rfl
      | false =>
       cases d6:decide ((l.length:Int) > 4)with
       | true =>
        have hZ:=an7 hg<|an7 h0<|an7 d5<|d6;refine Wz3 ?_
        refine ZaW hx ?_
        rw[hinv,d5,d6];rfl
       | false =>
        rw[d5,d6]at hinv
        simp only[zaZ,zaY]at hinv
        have hl4:l.length<=4:=by simp at d6;omega
        have hZ:=an7 hg<|an7 h0<|an7 d5<|d6;refine Wz3 ?_
        refine ZjR (fun j=>ZbS x=(ZcZ (ZcX l j) (l.drop j)&&(x.sizes.drop (k+1)).all ZbT)) (fun _=>[(42,.sl .no (rI l)),(4,.sl .no (rI l)),(30,.i k),(29,.i x.sizes.length),(28,.sl .no (rII x.sizes)),(1,.ptr H.next 0),(2,.b false)]) (fun _=>H.alloc (.cells [.sl .no (rII x.sizes),.i x.measures] 37)) (N:=l.length) (by unfold maxLen;omega) (by decide) (by decide) (by decide) hinv (GStep.fr (by simp[Fr.get])) ?_ ?_
        ·intro j hj hinv
         rw[Zjs l j hj]at hinv
         have hgj:=Zms hj
         have h0j:(0:Int)<=j:=by omega
         cases e1:decide (l[j]<1)with
         | true =>
          have hZ:=an7 hgj<|an7 h0j<|e1;refine Wz3 ?_
          refine ZaW hx ?_
          have:decide (1<=l[j])=false:=by simp at e1 ⊢;omega
          rw[hinv,this];rfl
         | false =>
          have f1:decide (1<=l[j])=true:=by simp at e1 ⊢;omega
          cases e2:decide (l[j] > 200)with
          | true =>
           have hZ:=an7 hgj<|an7 h0j<|an7 e1<|e2;refine Wz3 ?_
           refine ZaW hx ?_
           have:decide (l[j]<=200)=false:=by simp at e2 ⊢;omega
           rw[hinv,this,f1];rfl
          | false =>
           have f2:decide (l[j]<=200)=true:=by simp at e2 ⊢;omega
           rw[f1,f2,zaY,zaY]at hinv
           by_cases hj0:j=0
           ·subst hj0
            have e3:decide (((0:Nat):Int) > 0)=false:=by simp
            have hZ:=an7 hgj<|an7 h0j<|an7 e1<|an7 e2<|e3;refine Wz3 ?_
            refine⟨?_,GStep.fr (by simp[Fr.get])⟩
            rw[hinv];rfl
           ·have e3:decide ((j:Int) > 0)=true:=by simp;omega
            have hj1:j - 1<l.length:=by omega
            have hgi:=Zms hj1
            have h0i:(0:Int)<=(j:Int) - 1:=by omega
            have hti:((j:Int) - 1).toNat=j - 1:=by omega
            have hai:leI (ZcX l j) l[j]=decide (l[j]<=l[j - 1]):=by
             unfold ZcX
             rw[if_neg hj0,zaa hj1]
             rfl
            rw[hai]at hinv
            cases e4:decide (l[j] > l[j - 1])with
            | true =>
             have hZ:=an7 hgj<|an7 h0j<|an7 e1<|an7 e2<|an7 e3<|an7 h0i<|an7 hti<|an7 hgi<|e4;refine Wz3 ?_
             refine ZaW hx ?_
             have:decide (l[j]<=l[j - 1])=false:=by simp at e4 ⊢;omega
             rw[hinv,this];rfl
            | false =>
             have hZ:=an7 hgj<|an7 h0j<|an7 e1<|an7 e2<|an7 e3<|an7 h0i<|an7 hti<|an7 hgi<|e4;refine Wz3 ?_
             refine⟨?_,GStep.fr (by simp[Fr.get])⟩
             have:decide (l[j]<=l[j - 1])=true:=by simp at e4 ⊢;omega
             rw[hinv,this,zaY]
        ·intro hinv
         refine Wz0 ?_
         refine⟨?_,GStep.fr (by simp[Fr.get])⟩
         rw[hinv,zbn (zaf _)]
         rfl
     ·intro hinv
      refine Wz0 ?_
      refine ZaW hx ?_
      rw[hinv,zbn (zaf _)];rfl
theorem Zfq (l:List Int):ZaE 1 (rI l)=true:=ZaU (f:=fun n=>[AV.i n]) (fun _=>rfl) l
theorem Zgy {sz:Nat}:ZaE sz []=true:=rfl
theorem ZfI (tok:Tok) (l:List Int) (H:Zaa) (hl:l.length<=1000000):Zay Tryz.prog 95 [.sl tok (rI l)] H (Pure H (.sl .no (rI l))):=by
 refine ZdU hE cf95 (zab rfl) ?_
 cases l with
 | nil =>
  simp(disch:=first|omega|simp only[nx]<;>omega|fail)only[YC,YZ,ZaO,undef,Zge,ZcU,ZcF,Zcq.ev,ZaZ,Za1,Za8,ZaK,ZaS,Zbl,ZaT,Zbj,Zau,Zaj,AI.want,AI.step,AOp.ev,AX.ev,evs,zas,zaS,Za2,Fr.get,Fr.put,AV.cells,Za0,Zbo,Za5,Zbn,Zbh,Za6,ZaV,ZaY,ZaR,Zbk,Zbq,Zbi,Zbg,Zbp,Zbm,List.nil_append,Zaa.ZaB,Zaa.Zax,Zaa.ZaD,Zaa.ZaH,Zaa.Zat,Zaa.Zag,Zaa.Zal,Zaa.Zah,ZaM,ZaQ,Zbx,↓reduceIte,Nat.reduceEqDiff,Zaa.Zae,Zbd,cond_false,cond_true,Nat.add_zero,zaH,List.getElem?_cons_zero,List.getElem?_cons_succ,Option.map_some,ZaI,Za4,Zc4,beq_self_eq_true,zbL,zbc,zbh,zbi,zaZ,Zaw,Int.toNat_natCast,zaE,false_implies,implies_true,true_and,and_true,Zvp,rowsOf,ZaL,Zgy,List.length_nil,zaI,zbH,zaD]
  exact⟨ZaW (.refl _) rfl,ZaW (.refl _) rfl⟩
 | cons a l =>
  have hal:=Zfq (a :: l)
  have h1:(rI (a :: l)).length<=maxLen:=by simp at hl ⊢;unfold maxLen;omega
  have h2:(rI (a :: l)).length * 8<=140737488355328:=by simp at hl ⊢;omega
  have hc:rI (a :: l)=[.i a] :: rI l:=rfl
  generalize hr:rI (a :: l)=r at *
  subst hc
  simp(disch:=first|omega|simp only[nx]<;>omega|fail)only[YC,YZ,ZaO,undef,Zge,ZcU,ZcF,Zcq.ev,ZaZ,Za1,Za8,ZaK,ZaS,Zbl,ZaT,Zbj,Zau,Zaj,AI.want,AI.step,AOp.ev,AX.ev,evs,zas,zaS,Za2,Fr.get,Fr.put,AV.cells,Za0,Zbo,Za5,Zbn,Zbh,Za6,ZaV,ZaY,ZaR,Zbk,Zbq,Zbi,Zbg,Zbp,Zbm,List.nil_append,Zaa.ZaB,Zaa.Zax,Zaa.ZaD,Zaa.ZaH,Zaa.Zat,Zaa.Zag,Zaa.Zal,Zaa.Zah,ZaM,ZaQ,Zbx,↓reduceIte,Nat.reduceEqDiff,Zaa.Zae,Zbd,cond_false,cond_true,Nat.add_zero,zaH,List.getElem?_cons_zero,List.getElem?_cons_succ,Option.map_some,ZaI,Za4,Zc4,beq_self_eq_true,zbL,zbc,zbh,zbi,zaZ,Zaw,Int.toNat_natCast,zaE,false_implies,implies_true,true_and,and_true,Zvp,rowsOf,ZaL,hal,h1,h2,List.nil_append,List.length_nil,Zgy,Bool.xor_false,Bool.false_bne]
  exact ZaW (Zaa.Ext.refl _).alloc rfl
def eAr (x:Shp) (tok:Tok) (nodes:AV) (most:Int):List AV:=[.sl tok (rII x.sizes),.i x.measures,nodes,.i most]
def NewQ (x:Shp) (most:Int) (H:Zaa) (r:AV) (H':Zaa):Prop :=
 Zaa.Ext H H'/\if ZbS x=true/\0<=most/\most<=131072 then ∃id tok,r=.tup [.ptr id 0,.i 0]/\H.next<=id/\H'.get id=some (.cells (eAr x tok (.sl .full []) most) 117)
 else r=.tup [.sc (.pointer none),.i 2]
theorem ZdQ (l:List (List Int)):ZaE 1 (rII l)=true:=ZaU (f:=fun l=>[AV.sl .no (rI l)]) (fun _=>rfl) l
theorem ZjZ {l:List (List Int)} {j:Nat} (h:j<l.length):rII (l.take j)++[[AV.sl .no (rI l[j])]]=rII (l.take (j+1)):=by
 rw[zcp,zaa h]
 simp only[Option.toList_some,zaV,zas,zaS]
structure ZhS (H0:Zaa) (id t j:Nat) (l:List (List Int)) (m:Int) (s:Zaa):Prop where
 ne:id≠t
 lo:H0.next<=id
 lo2:H0.next<=t
 cell:s.get id=some (.cells [.sl (.own t) (rII (l.take j)),.i m] 37)
 tok:s.get t=some (.tok j 57 1)
 ext:Zaa.Ext H0 s
theorem ZhS.next {H0:Zaa} {id t j k:Nat} {l:List (List Int)} {m:Int} {s:Zaa} (h:ZhS H0 id t j l m s):ZhS H0 id t (j+1) l m (((s.bump k).set t (.tok (j+1) 57 1)).set id (.cells [.sl (.own t) (rII (l.take (j+1))),.i m] 37)):=by
 have h1:=Zaa.lt h.cell
 have h2:=Zaa.lt h.tok
 refine⟨h.ne,h.lo,h.lo2,Zaa.Zal (by simp;omega),?_,(h.ext.bump.set h.lo2).set h.lo⟩
 rw[Zaa.Zah (zbC h.ne)]
 exact Zaa.Zal (by simp;omega)
set_option maxHeartbeats 1000000 in
theorem Zfe (x:Shp) (most:Int) (H:Zaa):Zay Tryz.prog 51 [.agg (Zc3 x),.i most] H (NewQ x most H):=by
 refine ZdU hE cf51 (zab rfl) ?_
 have hx:Zaa.Ext H (H.alloc (.cells [.sl .no (rII x.sizes),.i x.measures] 37)):=(Zaa.Ext.refl H).alloc
 rw[ZgU]
 simp(disch:=first|assumption|omega|simp only[nx]<;>omega|fail)only[YC,YZ,↓ZaZ,↓Za1,↓Za8,↓ZaK,↓ZaS,↓Zbl,↓ZaT,↓Zbj,↓Zau,↓Zaj,AI.want,↓AI.step,↓Zbe,AOp.ev,AX.ev,evs,zas,zaS,Za2,Fr.get,Fr.put,AV.cells,↓Za0,↓Zbo,↓Za5,↓Zbn,↓Zbh,↓Za6,ZaV,ZaY,ZaR,Zbk,Zbq,Zbi,Zbg,Zbp,Zbm,ZaO,undef,↓Zcj,↓Zci,ZcU,ZcF,Zcq.ev,↓reduceIte,Nat.reduceEqDiff,Zbd,↓cond_false,↓cond_true,cond_false,cond_true,Nat.add_zero,zaH,Nat.reduceAdd,Nat.reduceMul,zbB,zbx,Nat.reduceLeDiff,List.getElem?_cons_zero,List.getElem?_cons_succ,Option.map_some,ZaI,Za4,Zc4,beq_self_eq_true,zbL,zbc,zbh,zbi,zaZ,Zaw,Int.toNat_natCast,zaE,false_implies,implies_true,true_and,and_true,and_self,List.nil_append,zaI,List.cons_append,Value.oneCell',Zb9,splice,rowsOf,ZaL,List.take_succ_cons,List.take_zero,za3,zaX,zbu,zbv,List.length_cons,List.length_nil,zaf,Zaa.ZaB,Zaa.ZaD,Zaa.ZaH,Zaa.Zax,Zaa.Zal,Zaa.Zah,Zaa.Zae,Zaa.Zat,Zaa.Zag,Zgb,List.take,List.drop,List.length_cons,List.length_nil,zaf,Nat.reduceAdd,zaI,AV.cells]
 refine Zap.use (Zk9 x _) ?_
 rintro r H' ⟨rfl,k,rfl⟩
 have bad:¬(ZbS x=true/\0<=most/\most<=131072)->∃r2 H2,Zb6 (.tup [.sc (.pointer none),.i 2]) ((H.alloc (.cells [.sl .no (rII x.sizes),.i x.measures] 37)).bump k) r2 H2/\NewQ x most H r2 H2:=by
  intro hn
  refine Zaq ⟨hx.bump,?_⟩
  rw[if_neg hn]
 cases hm:ZbS x with
 | false =>
  refine Kz0 ?_
  exact bad (by simp[hm])
 | true =>
  cases d1:decide (most<0)with
  | true =>
   have hZ:=d1;refine Kz1 ?_
   exact bad (by simp at d1;omega)
  | false =>
   cases d2:decide (most > 131072)with
   | true =>
    have hZ:=an7 d1<|d2;refine Kz1 ?_
    exact bad (by simp at d2;omega)
   | false =>
    obtain⟨b1,b2,b3,b4,b5⟩:=Zby hm
    simp(disch:=first|assumption|omega|simp only[nx]<;>omega|fail)only[YC,YZ,↓ZaZ,↓Za1,↓Za8,↓ZaK,↓ZaS,↓Zbl,↓ZaT,↓Zbj,↓Zau,↓Zaj,AI.want,↓AI.step,↓Zbe,AOp.ev,AX.ev,evs,zas,zaS,Za2,Fr.get,Fr.put,AV.cells,↓Za0,↓Zbo,↓Za5,↓Zbn,↓Zbh,↓Za6,ZaV,ZaY,ZaR,Zbk,Zbq,Zbi,Zbg,Zbp,Zbm,ZaO,undef,↓Zcj,↓Zci,ZcU,ZcF,Zcq.ev,↓reduceIte,Nat.reduceEqDiff,Zbd,↓cond_false,↓cond_true,cond_false,cond_true,Nat.add_zero,zaH,Nat.reduceAdd,Nat.reduceMul,zbB,zbx,Nat.reduceLeDiff,List.getElem?_cons_zero,List.getElem?_cons_succ,Option.map_some,ZaI,Za4,Zc4,beq_self_eq_true,zbL,zbc,zbh,zbi,zaZ,Zaw,Int.toNat_natCast,zaE,false_implies,implies_true,true_and,and_true,and_self,List.nil_append,zaI,List.cons_append,Value.oneCell',Zb9,splice,rowsOf,ZaL,List.take_succ_cons,List.take_zero,za3,zaX,zbu,zbv,List.length_cons,List.length_nil,zaf,Zaa.ZaB,Zaa.ZaD,Zaa.ZaH,Zaa.Zax,Zaa.Zal,Zaa.Zah,Zaa.Zae,Zaa.Zat,Zaa.Zag,Zgb,Zgb,d1,d2,zaj,zaI]
    refine Zj1 fun G hG=>?_
    have hGn:G.next=H.next+1+k+1:=by rw[hG];simp
    have hg0:G.get (H.next+1+k)=some (.cells [.sl .full [],.i x.measures] 37):=by rw[hG];exact Zaa.Zal (by simp)
    have hGe:Zaa.Ext H G:=by rw[hG];exact hx.bump.alloc.set (by omega)
    clear hG
    refine ZhG (σ:=Zaa) (N:=x.sizes.length) (fun j s=>ZhS H (H.next+1+k) G.next j x.sizes x.measures s) (fun j s=>[(24,.sl .no (rII x.sizes)),(6,.ptr (H.next+1+k) 0),(1,.i most)])
     (fun j s=>s) (by unfold maxLen;omega) (by decide) ((G.set (H.next+1+k) (.cells [.sl (.own G.next) [],.i x.measures] 37)).alloc (.tok 0 57 1)) ?_ ?_ ?_ ?_
    ·refine⟨by omega,by omega,by omega,?_,Zaa.Zae (H:=G.set _ _),(hGe.set (by omega)).alloc⟩
     rw[Zaa.Zag (by simp;omega)]
     exact Zaa.Zal (by omega)
    ·exact(GStep.fr (F':=[(26,.i ((0:Nat):Int)),(25,.i x.sizes.length),(24,.sl .no (rII x.sizes)),(6,.ptr (H.next+1+k) 0),(1,.i most)]) (by simp[Fr.get])).trans (GStep.ZdO (H.next+1+k) 0 37 57 1 hg0 rfl)
    ·intro j s hj hinv
     have hg:=Zhb hj
     have h0:(0:Int)<=j:=by omega
     have hlj:(rII (x.sizes.take j)).length=j:=by simp;omega
     have hl1:=(ZcP (b5 _ (zaq hj))).2.1
     have hc:=hinv.cell
     have ht:=hinv.tok
     have hc1:=Zaa.lt hc
     have ht1:=Zaa.lt ht
     have hne:=hinv.ne
     have hne':=zbC hne
     have hZ:=an7 hg<|h0;refine Kz1 ?_
     have hZ:=hc;refine Kz1 ?_
     refine Zap.use (ZfI .no x.sizes[j] _ (by omega)) ?_
     rintro r H' ⟨rfl,k',rfl⟩
     have ha1:=ZdQ (x.sizes.take j)
     have hb1:j+1<=maxLen:=by unfold maxLen;omega
     have hb2:(j+1) * 24<=140737488355328:=by omega
     refine⟨ZdV rfl rfl (by simp(disch:=first|assumption|omega|simp only[nx]<;>omega|fail)only[YC,YZ,↓ZaZ,↓Za1,↓Za8,↓ZaK,↓ZaS,↓Zbl,↓ZaT,↓Zbj,↓Zau,↓Zaj,AI.want,↓AI.step,↓Zbe,AOp.ev,AX.ev,evs,zas,zaS,Za2,Fr.get,Fr.put,AV.cells,↓Za0,↓Zbo,↓Za5,↓Zbn,↓Zbh,↓Za6,ZaV,ZaY,ZaR,Zbk,Zbq,Zbi,Zbg,Zbp,Zbm,ZaO,undef,↓Zcj,↓Zci,ZcU,ZcF,Zcq.ev,↓reduceIte,Nat.reduceEqDiff,Zbd,↓cond_false,↓cond_true,cond_false,cond_true,Nat.add_zero,zaH,Nat.reduceAdd,Nat.reduceMul,zbB,zbx,Nat.reduceLeDiff,List.getElem?_cons_zero,List.getElem?_cons_succ,Option.map_some,ZaI,Za4,Zc4,beq_self_eq_true,zbL,zbc,zbh,zbi,zaZ,Zaw,Int.toNat_natCast,zaE,false_implies,implies_true,true_and,and_true,and_self,List.nil_append,zaI,List.cons_append,Value.oneCell',Zb9,splice,rowsOf,ZaL,List.take_succ_cons,List.take_zero,za3,zaX,zbu,zbv,List.length_cons,List.length_nil,zaf,Zaa.ZaB,Zaa.ZaD,Zaa.ZaH,Zaa.Zax,Zaa.Zal,Zaa.Zah,Zaa.Zae,Zaa.Zat,Zaa.Zag,hc]),?_⟩
     have ho1:ZaE 1 [[AV.sl .no (rI x.sizes[j])]]=true:=rfl
     have hZ:=an7 hlj<|an7 ha1<|an7 hb1<|an7 hb2<|an7 hc<|an7 ht<|ho1;refine Kz1 ?_
     rw[ZjZ hj]
     exact⟨_,hinv.next (k:=k'),GStep.fr (by simp[Fr.get])⟩
    ·intro s hinv
     have hc:=hinv.cell
     have hc1:=Zaa.lt hc
     simp(disch:=first|assumption|omega|simp only[nx]<;>omega|fail)only[YC,YZ,↓ZaZ,↓Za1,↓Za8,↓ZaK,↓ZaS,↓Zbl,↓ZaT,↓Zbj,↓Zau,↓Zaj,AI.want,↓AI.step,↓Zbe,AOp.ev,AX.ev,evs,zas,zaS,Za2,Fr.get,Fr.put,AV.cells,↓Za0,↓Zbo,↓Za5,↓Zbn,↓Zbh,↓Za6,ZaV,ZaY,ZaR,Zbk,Zbq,Zbi,Zbg,Zbp,Zbm,ZaO,undef,↓Zcj,↓Zci,ZcU,ZcF,Zcq.ev,↓reduceIte,Nat.reduceEqDiff,Zbd,↓cond_false,↓cond_true,cond_false,cond_true,Nat.add_zero,zaH,Nat.reduceAdd,Nat.reduceMul,zbB,zbx,Nat.reduceLeDiff,List.getElem?_cons_zero,List.getElem?_cons_succ,Option.map_some,ZaI,Za4,Zc4,beq_self_eq_true,zbL,zbc,zbh,zbi,zaZ,Zaw,Int.toNat_natCast,zaE,false_implies,implies_true,true_and,and_true,and_self,List.nil_append,zaI,List.cons_append,Value.oneCell',Zb9,splice,rowsOf,ZaL,List.take_succ_cons,List.take_zero,za3,zaX,zbu,zbv,List.length_cons,List.length_nil,zaf,Zaa.ZaB,Zaa.ZaD,Zaa.ZaH,Zaa.Zax,Zaa.Zal,Zaa.Zah,Zaa.Zae,Zaa.Zat,Zaa.Zag,Zgb,zaI,hc]
     refine Zaq ⟨hinv.ext.alloc,?_⟩
     rw[if_pos ⟨hm,by simp at d1;omega,by simp at d2;omega⟩]
     refine⟨s.next,.own G.next,rfl,by have:=hinv.ext.next;omega,?_⟩
     rw[Zaa.Zae,zaK]
     rfl
def NoAr (H:Zaa) (a:AV):Prop:=a=.sc (.pointer none)\/∃id,a=.ptr id 0/\H.get id=some (.cells [.sl .full [],.i 0,.sl .full [],.i 0] 117)
theorem NoAr.ext {H H':Zaa} {a:AV} (h:NoAr H a) (hx:Zaa.Ext H H'):NoAr H' a:=by
 rcases h with rfl|⟨id,rfl,h⟩
 ·exact .inl rfl
 ·exact .inr ⟨id,rfl,hx.get _ _ h⟩
theorem there_no {H:Zaa} {a:AV} (h:NoAr H a):Zay Tryz.prog 60 [a] H (ZrY H (.b false)):=by
 refine ZdU hE cf60 (zab rfl) ?_
 rcases h with rfl|⟨id,rfl,h⟩
 ·simp(disch:=first|assumption|omega|simp only[nx]<;>omega|fail)only[YC,YZ,↓ZaZ,↓Za1,↓Za8,↓ZaK,↓ZaS,↓Zbl,↓ZaT,↓Zbj,↓Zau,↓Zaj,AI.want,↓AI.step,↓Zbe,AOp.ev,AX.ev,evs,zas,zaS,Za2,Fr.get,Fr.put,AV.cells,↓Za0,↓Zbo,↓Za5,↓Zbn,↓Zbh,↓Za6,ZaV,ZaY,ZaR,Zbk,Zbq,Zbi,Zbg,Zbp,Zbm,ZaO,undef,↓Zcj,↓Zci,ZcU,ZcF,Zcq.ev,↓reduceIte,Nat.reduceEqDiff,Zbd,↓cond_false,↓cond_true,cond_false,cond_true,Nat.add_zero,zaH,Nat.reduceAdd,Nat.reduceMul,zbB,zbx,Nat.reduceLeDiff,List.getElem?_cons_zero,List.getElem?_cons_succ,Option.map_some,ZaI,Za4,Zc4,beq_self_eq_true,zbL,zbc,zbh,zbi,zaZ,Zaw,Int.toNat_natCast,zaE,false_implies,implies_true,true_and,and_true,and_self,List.nil_append,zaI,List.cons_append,Value.oneCell',Zb9,splice,rowsOf,ZaL,List.take_succ_cons,List.take_zero,za3,zaX,zbu,zbv,List.length_cons,List.length_nil,zaf,Zaa.ZaB,Zaa.ZaD,Zaa.ZaH,Zaa.Zax,Zaa.Zal,Zaa.Zah,Zaa.Zae,Zaa.Zat,Zaa.Zag,ZvP,Bool.true_bne,Bool.xor_true,Bool.bne_true]
  exact Zaq ⟨rfl,.refl _⟩
 ·have d:decide (((0:Nat):Int) > 0)=false:=by decide
  simp(disch:=first|assumption|omega|simp only[nx]<;>omega|fail)only[YC,YZ,↓ZaZ,↓Za1,↓Za8,↓ZaK,↓ZaS,↓Zbl,↓ZaT,↓Zbj,↓Zau,↓Zaj,AI.want,↓AI.step,↓Zbe,AOp.ev,AX.ev,evs,zas,zaS,Za2,Fr.get,Fr.put,AV.cells,↓Za0,↓Zbo,↓Za5,↓Zbn,↓Zbh,↓Za6,ZaV,ZaY,ZaR,Zbk,Zbq,Zbi,Zbg,Zbp,Zbm,ZaO,undef,↓Zcj,↓Zci,ZcU,ZcF,Zcq.ev,↓reduceIte,Nat.reduceEqDiff,Zbd,↓cond_false,↓cond_true,cond_false,cond_true,Nat.add_zero,zaH,Nat.reduceAdd,Nat.reduceMul,zbB,zbx,Nat.reduceLeDiff,List.getElem?_cons_zero,List.getElem?_cons_succ,Option.map_some,ZaI,Za4,Zc4,beq_self_eq_true,zbL,zbc,zbh,zbi,zaZ,Zaw,Int.toNat_natCast,zaE,false_implies,implies_true,true_and,and_true,and_self,List.nil_append,zaI,List.cons_append,Value.oneCell',Zb9,splice,rowsOf,ZaL,List.take_succ_cons,List.take_zero,za3,zaX,zbu,zbv,List.length_cons,List.length_nil,zaf,Zaa.ZaB,Zaa.ZaD,Zaa.ZaH,Zaa.Zax,Zaa.Zal,Zaa.Zah,Zaa.Zae,Zaa.Zat,Zaa.Zag,ZvP,Bool.true_bne,Bool.xor_false,h,d]
  exact Zaq ⟨rfl,.refl _⟩
theorem Zeu {H:Zaa} {id:Nat} {x:Shp} {tok:Tok} {nodes:AV} {most:Int} (h:H.get id=some (.cells (eAr x tok nodes most) 117)) (hl:1<=x.sizes.length):Zay Tryz.prog 60 [.ptr id 0] H (ZrY H (.b true)):=by
 refine ZdU hE cf60 (zab rfl) ?_
 unfold eAr at h
 have d:decide ((x.sizes.length:Int) > 0)=true:=by simp;omega
 simp(disch:=first|assumption|omega|simp only[nx]<;>omega|fail)only[YC,YZ,↓ZaZ,↓Za1,↓Za8,↓ZaK,↓ZaS,↓Zbl,↓ZaT,↓Zbj,↓Zau,↓Zaj,AI.want,↓AI.step,↓Zbe,AOp.ev,AX.ev,evs,zas,zaS,Za2,Fr.get,Fr.put,AV.cells,↓Za0,↓Zbo,↓Za5,↓Zbn,↓Zbh,↓Za6,ZaV,ZaY,ZaR,Zbk,Zbq,Zbi,Zbg,Zbp,Zbm,ZaO,undef,↓Zcj,↓Zci,ZcU,ZcF,Zcq.ev,↓reduceIte,Nat.reduceEqDiff,Zbd,↓cond_false,↓cond_true,cond_false,cond_true,Nat.add_zero,zaH,Nat.reduceAdd,Nat.reduceMul,zbB,zbx,Nat.reduceLeDiff,List.getElem?_cons_zero,List.getElem?_cons_succ,Option.map_some,ZaI,Za4,Zc4,beq_self_eq_true,zbL,zbc,zbh,zbi,zaZ,Zaw,Int.toNat_natCast,zaE,false_implies,implies_true,true_and,and_true,and_self,List.nil_append,zaI,List.cons_append,Value.oneCell',Zb9,splice,rowsOf,ZaL,List.take_succ_cons,List.take_zero,za3,zaX,zbu,zbv,List.length_cons,List.length_nil,zaf,Zaa.ZaB,Zaa.ZaD,Zaa.ZaH,Zaa.Zax,Zaa.Zal,Zaa.Zah,Zaa.Zae,Zaa.Zat,Zaa.Zag,ZvP,Bool.true_bne,Bool.xor_false,h,zaj,d]
 exact Zaq ⟨rfl,.refl _⟩
theorem shape_no {H:Zaa} {a:AV} (h:NoAr H a):Zay Tryz.prog 65 [a] H (ZrY H (.agg [.sl .full [],.i 0])):=by
 refine ZdU hE cf65 (zab rfl) ?_
 have hx:Zaa.Ext H (H.alloc (.cells [.sl .full [],.i 0] 37)):=(Zaa.Ext.refl H).alloc
 refine Kz0 ?_
 refine Zap.use (there_no (h.ext hx)) ?_
 rintro r H' ⟨rfl,hx'⟩
 have hg:=hx'.get _ _ (Zaa.Zae (H:=H) (o:=.cells [.sl .full [],.i 0] 37))
 have hl:=Zaa.lt hg
 have hx2:=hx.trans hx'
 have hZ:=hg;refine Kz1 ?_
 exact Zaq ⟨rfl,hx2.set (zaf _)⟩
def ShapeQ (x:Shp) (H:Zaa) (r:AV) (H':Zaa):Prop:=Zaa.Ext H H'/\∃t,r=.agg [.sl t (rII x.sizes),.i x.measures]
set_option maxHeartbeats 1000000 in
theorem ZlR {H:Zaa} {id:Nat} {x:Shp} {tok:Tok} {nodes:AV} {most:Int} (h:H.get id=some (.cells (eAr x tok nodes most) 117)) (hm:ZbS x=true):Zay Tryz.prog 65 [.ptr id 0] H (ShapeQ x H):=by
 refine ZdU hE cf65 (zab rfl) ?_
 obtain⟨b1,b2,b3,b4,b5⟩:=Zby hm
 have hx:Zaa.Ext H (H.alloc (.cells [.sl .full [],.i 0] 37)):=(Zaa.Ext.refl H).alloc
 refine Kz0 ?_
 refine Zap.use (Zeu (hx.get _ _ h) b1) ?_
 rintro r H1 ⟨rfl,hx'⟩
 have hg:=hx'.get _ _ (Zaa.Zae (H:=H) (o:=.cells [.sl .full [],.i 0] 37))
 have hl:=Zaa.lt hg
 have hx2:=hx.trans hx'
 have h1:=hx2.get _ _ h
 have hid:=Zaa.lt h
 have hn1:=hx2.next
 unfold eAr at h1
 have hZ:=h1;refine Kz3 ?_
 refine Zj1 fun G hG=>?_
 have hGn:G.next=H1.next+1:=by rw[hG];simp
 have hg0:G.get H1.next=some (.cells [.sl .full [],.i x.measures] 37):=by rw[hG];exact Zaa.Zal (by simp)
 have hGe:Zaa.Ext H1 G:=by rw[hG];exact(Zaa.Ext.refl H1).alloc.set (zaf _)
 refine ZhG (σ:=Zaa) (N:=x.sizes.length) (fun j s=>ZhS H1 H1.next G.next j x.sizes x.measures s) (fun j s=>[(20,.sl tok (rII x.sizes)),(3,.ptr H1.next 0),(2,.ptr H.next 0)])
  (fun j s=>s) (by unfold maxLen;omega) (by decide) ((G.set H1.next (.cells [.sl (.own G.next) [],.i x.measures] 37)).alloc (.tok 0 57 1)) ?_ ?_ ?_ ?_
 ·refine⟨by omega,by omega,by omega,?_,Zaa.Zae (H:=G.set _ _),(hGe.set (by omega)).alloc⟩
  rw[Zaa.Zag (by simp;omega)]
  exact Zaa.Zal (by omega)
 ·exact(GStep.fr (F':=[(22,.i ((0:Nat):Int)),(21,.i x.sizes.length),(20,.sl tok (rII x.sizes)),(3,.ptr H1.next 0),(2,.ptr H.next 0)]) (by simp[Fr.get])).trans (GStep.ZdO H1.next 0 37 57 1 hg0 rfl)
 ·intro j s hj hinv
  have hgj:=Zhb hj
  have h0:(0:Int)<=j:=by omega
  have hlj:(rII (x.sizes.take j)).length=j:=by simp;omega
  have hl1:=(ZcP (b5 _ (zaq hj))).2.1
  have hc:=hinv.cell
  have ht:=hinv.tok
  have hc1:=Zaa.lt hc
  have ht1:=Zaa.lt ht
  have hne:=hinv.ne
  have hne':=zbC hne
  have hZ:=an7 hgj<|h0;refine Kz1 ?_
  have hZ:=hc;refine Kz1 ?_
  refine Zap.use (ZfI .no x.sizes[j] _ (by omega)) ?_
  rintro r H' ⟨rfl,k',rfl⟩
  have ha1:=ZdQ (x.sizes.take j)
  have hb1:j+1<=maxLen:=by unfold maxLen;omega
  have hb2:(j+1) * 24<=140737488355328:=by omega
  refine⟨ZdV rfl rfl (by simp(disch:=first|assumption|omega|simp only[nx]<;>omega|fail)only[YC,YZ,↓ZaZ,↓Za1,↓Za8,↓ZaK,↓ZaS,↓Zbl,↓ZaT,↓Zbj,↓Zau,↓Zaj,AI.want,↓AI.step,↓Zbe,AOp.ev,AX.ev,evs,zas,zaS,Za2,Fr.get,Fr.put,AV.cells,↓Za0,↓Zbo,↓Za5,↓Zbn,↓Zbh,↓Za6,ZaV,ZaY,ZaR,Zbk,Zbq,Zbi,Zbg,Zbp,Zbm,ZaO,undef,↓Zcj,↓Zci,ZcU,ZcF,Zcq.ev,↓reduceIte,Nat.reduceEqDiff,Zbd,↓cond_false,↓cond_true,cond_false,cond_true,Nat.add_zero,zaH,Nat.reduceAdd,Nat.reduceMul,zbB,zbx,Nat.reduceLeDiff,List.getElem?_cons_zero,List.getElem?_cons_succ,Option.map_some,ZaI,Za4,Zc4,beq_self_eq_true,zbL,zbc,zbh,zbi,zaZ,Zaw,Int.toNat_natCast,zaE,false_implies,implies_true,true_and,and_true,and_self,List.nil_append,zaI,List.cons_append,Value.oneCell',Zb9,splice,rowsOf,ZaL,List.take_succ_cons,List.take_zero,za3,zaX,zbu,zbv,List.length_cons,List.length_nil,zaf,Zaa.ZaB,Zaa.ZaD,Zaa.ZaH,Zaa.Zax,Zaa.Zal,Zaa.Zah,Zaa.Zae,Zaa.Zat,Zaa.Zag,hc]),?_⟩
  have ho1:ZaE 1 [[AV.sl .no (rI x.sizes[j])]]=true:=rfl
  have hZ:=an7 hlj<|an7 ha1<|an7 hb1<|an7 hb2<|an7 hc<|an7 ht<|ho1;refine Kz1 ?_
  rw[ZjZ hj]
  exact⟨_,hinv.next (k:=k'),GStep.fr (by simp[Fr.get])⟩
 ·intro s hinv
  have hc:=hinv.cell
  have hc1:=Zaa.lt hc
  have hgs:=hinv.ext.get _ _ hg
  have hls:=Zaa.lt hgs
  have hx3:=hx2.trans hinv.ext
  have hZ:=an7 hc<|hgs;refine Kz1 ?_
  refine Zaq ⟨hx3.set (zaf _),.own G.next,?_⟩
  rw[zaK]
end Go.Proofs.YtaapiigfmdhobaaGreat
