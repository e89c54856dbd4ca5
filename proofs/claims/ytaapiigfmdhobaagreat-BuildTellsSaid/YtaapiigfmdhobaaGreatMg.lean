/- Texts of the walk, joined: S1 S2 S3 S4 S5 S6. -/
import Derived.Test.YtaapiigfmdhobaaGreatMd
import Derived.Test.YtaapiigfmdhobaaGreatMf
import Derived.Test.YtaapiigfmdhobaaGreatMe
namespace Go.Proofs.YtaapiigfmdhobaaGreat
set_option linter.unusedSimpArgs false
set_option linter.unusedVariables false
open Go.RowKit
def eI (l:List Int):AV:=.sl .no (l.map fun n=>[.i n])
def eII (l:List (List Int)):AV:=.sl .no (l.map fun l=>[eI l])
def eShp (x:Shp):List AV:=[eII x.sizes,.i x.measures]
def small (x:Shp):Bool:=(x.sizes.take 21).all (fun l=>decide (l.length≤10))&&decide (x.sizes.length≤20)
abbrev rI (l:List Int):List (List AV):=l.map fun n=>[.i n]
abbrev rII (l:List (List Int)):List (List AV):=l.map fun l=>[.sl .no (rI l)]
theorem rI_get {l:List Int} {k:Nat} (h:k<l.length):(rI l)[k]?=some [.i l[k]]:=by simp [h]
theorem rII_get {l:List (List Int)} {k:Nat} (h:k<l.length):(rII l)[k]?=some [.sl .no (rI l[k])]:=by simp [h]
theorem eShp_eq (x:Shp):eShp x=[.sl .no (rII x.sizes),.i x.measures]:=rfl
theorem shpMay_eq (x:Shp):shpMay x=(!decide ((x.sizes.length:Int)<1)&&!decide ((x.sizes.length:Int) > 16)&&!decide (x.measures<1)&&!decide (x.measures > 3)&&x.sizes.all sizesMay):=by
 have e1:decide (1≤x.sizes.length)=!decide ((x.sizes.length:Int)<1):=by
  rw [← decide_not];congr 1;simp;omega
 have e2:decide (x.sizes.length≤16)=!decide ((x.sizes.length:Int) > 16):=by
  rw [← decide_not];congr 1;simp;omega
 have e3:decide (1≤x.measures)=!decide (x.measures<1):=by
  rw [← decide_not];congr 1;simp
 have e4:decide (x.measures≤3)=!decide (x.measures > 3):=by
  rw [← decide_not];congr 1;simp
 unfold shpMay
 rw [e1,e2,e3,e4]
theorem sizesMay_eq (l:List Int):sizesMay l=(!decide ((l.length:Int)<1)&&!decide ((l.length:Int) > 4)&&rowMay none l):=by
 have e1:decide (1≤l.length)=!decide ((l.length:Int)<1):=by
  rw [← decide_not];congr 1;simp;omega
 have e2:decide (l.length≤4)=!decide ((l.length:Int) > 4):=by
  rw [← decide_not];congr 1;simp;omega
 unfold sizesMay
 rw [e1,e2]
theorem may_sound (x:Shp) (H:AHeap):Sound Tryz.prog 94 [.agg (eShp x)] H (Pure H (.b (shpMay x))):=by
 refine fn_sound hE cf94 (Nat.le_of_ble_eq_true rfl) ?_
 have hx:AHeap.Ext H (H.alloc (.cells [.sl .no (rII x.sizes),.i x.measures] 37)):=(AHeap.Ext.refl H).alloc
 have hs:=shpMay_eq x
 rw [eShp_eq]
 cases d1:decide ((x.sizes.length:Int)<1) with
 | true =>
  simp (disch:=first|omega|(simp only [nx_alloc,nx_bump,nx_set]<;>omega)|fail) only [YC,YZ,undefA,undef,RetQ,resA,resL,ARes.ev,AW_seq,AW_reg,AW_blk,AW_cond,AW_skip,AW_ret,AW_exit,AW_drw,AWOps,AWDraw,AI.want,AI.step,AOp.ev,AX.ev,evs,List.map_cons,List.map_nil,argsFr,Fr.get,Fr.put,AV.cells,SeqQ_n,SeqQ_r,SeqQ_e,BlkQ_n,BlkQ_r,BlkQ_e,LoopQ_n,LoopQ_r,LoopQ_e,RngQ_n,RngQ_r,RngQ_e,RnsQ_n,RnsQ_r,RnsQ_e,List.nil_append,AHeap.get_bump,AHeap.next_alloc,AHeap.next_bump,AHeap.next_set,AHeap.get_alloc_at,AHeap.get_alloc_ne,AHeap.get_set_self,AHeap.get_set_ne,set_alloc_at,set_alloc_lt,set_bump,↓reduceIte,Nat.reduceEqDiff,AHeap.get_alloc_self,ldRow,cond_false,cond_true,Nat.add_zero,Nat.zero_add,List.getElem?_cons_zero,List.getElem?_cons_succ,Option.map_some,binSc,intSc,unSc,beq_self_eq_true,BEq.rfl,Bool.false_beq,Bool.true_beq,Bool.not_true,Bool.not_false,wrap_of,Int.toNat_natCast,List.not_mem_nil,false_implies,implies_true,true_and,and_true,c94_0,List.length_map,d1]
  refine fin_pure hx ?_
  rw [hs,d1];rfl
 | false =>
  cases d2:decide ((x.sizes.length:Int) > 16) with
  | true =>
   simp (disch:=first|omega|(simp only [nx_alloc,nx_bump,nx_set]<;>omega)|fail) only [YC,YZ,undefA,undef,RetQ,resA,resL,ARes.ev,AW_seq,AW_reg,AW_blk,AW_cond,AW_skip,AW_ret,AW_exit,AW_drw,AWOps,AWDraw,AI.want,AI.step,AOp.ev,AX.ev,evs,List.map_cons,List.map_nil,argsFr,Fr.get,Fr.put,AV.cells,SeqQ_n,SeqQ_r,SeqQ_e,BlkQ_n,BlkQ_r,BlkQ_e,LoopQ_n,LoopQ_r,LoopQ_e,RngQ_n,RngQ_r,RngQ_e,RnsQ_n,RnsQ_r,RnsQ_e,List.nil_append,AHeap.get_bump,AHeap.next_alloc,AHeap.next_bump,AHeap.next_set,AHeap.get_alloc_at,AHeap.get_alloc_ne,AHeap.get_set_self,AHeap.get_set_ne,set_alloc_at,set_alloc_lt,set_bump,↓reduceIte,Nat.reduceEqDiff,AHeap.get_alloc_self,ldRow,cond_false,cond_true,Nat.add_zero,Nat.zero_add,List.getElem?_cons_zero,List.getElem?_cons_succ,Option.map_some,binSc,intSc,unSc,beq_self_eq_true,BEq.rfl,Bool.false_beq,Bool.true_beq,Bool.not_true,Bool.not_false,wrap_of,Int.toNat_natCast,List.not_mem_nil,false_implies,implies_true,true_and,and_true,c94_0,List.length_map,d1,d2]
   refine fin_pure hx ?_
   rw [hs,d1,d2];rfl
  | false =>
   cases d3:decide (x.measures<1) with
   | true =>
    simp (disch:=first|omega|(simp only [nx_alloc,nx_bump,nx_set]<;>omega)|fail) only [YC,YZ,undefA,undef,RetQ,resA,resL,ARes.ev,AW_seq,AW_reg,AW_blk,AW_cond,AW_skip,AW_ret,AW_exit,AW_drw,AWOps,AWDraw,AI.want,AI.step,AOp.ev,AX.ev,evs,List.map_cons,List.map_nil,argsFr,Fr.get,Fr.put,AV.cells,SeqQ_n,SeqQ_r,SeqQ_e,BlkQ_n,BlkQ_r,BlkQ_e,LoopQ_n,LoopQ_r,LoopQ_e,RngQ_n,RngQ_r,RngQ_e,RnsQ_n,RnsQ_r,RnsQ_e,List.nil_append,AHeap.get_bump,AHeap.next_alloc,AHeap.next_bump,AHeap.next_set,AHeap.get_alloc_at,AHeap.get_alloc_ne,AHeap.get_set_self,AHeap.get_set_ne,set_alloc_at,set_alloc_lt,set_bump,↓reduceIte,Nat.reduceEqDiff,AHeap.get_alloc_self,ldRow,cond_false,cond_true,Nat.add_zero,Nat.zero_add,List.getElem?_cons_zero,List.getElem?_cons_succ,Option.map_some,binSc,intSc,unSc,beq_self_eq_true,BEq.rfl,Bool.false_beq,Bool.true_beq,Bool.not_true,Bool.not_false,wrap_of,Int.toNat_natCast,List.not_mem_nil,false_implies,implies_true,true_and,and_true,c94_0,List.length_map,d1,d2,d3]
    refine fin_pure hx ?_
    rw [hs,d1,d2,d3];rfl
   | false =>
    cases d4:decide (x.measures > 3) with
    | true =>
     simp (disch:=first|omega|(simp only [nx_alloc,nx_bump,nx_set]<;>omega)|fail) only [YC,YZ,undefA,undef,RetQ,resA,resL,ARes.ev,AW_seq,AW_reg,AW_blk,AW_cond,AW_skip,AW_ret,AW_exit,AW_drw,AWOps,AWDraw,AI.want,AI.step,AOp.ev,AX.ev,evs,List.map_cons,List.map_nil,argsFr,Fr.get,Fr.put,AV.cells,SeqQ_n,SeqQ_r,SeqQ_e,BlkQ_n,BlkQ_r,BlkQ_e,LoopQ_n,LoopQ_r,LoopQ_e,RngQ_n,RngQ_r,RngQ_e,RnsQ_n,RnsQ_r,RnsQ_e,List.nil_append,AHeap.get_bump,AHeap.next_alloc,AHeap.next_bump,AHeap.next_set,AHeap.get_alloc_at,AHeap.get_alloc_ne,AHeap.get_set_self,AHeap.get_set_ne,set_alloc_at,set_alloc_lt,set_bump,↓reduceIte,Nat.reduceEqDiff,AHeap.get_alloc_self,ldRow,cond_false,cond_true,Nat.add_zero,Nat.zero_add,List.getElem?_cons_zero,List.getElem?_cons_succ,Option.map_some,binSc,intSc,unSc,beq_self_eq_true,BEq.rfl,Bool.false_beq,Bool.true_beq,Bool.not_true,Bool.not_false,wrap_of,Int.toNat_natCast,List.not_mem_nil,false_implies,implies_true,true_and,and_true,c94_0,List.length_map,d1,d2,d3,d4]
     refine fin_pure hx ?_
     rw [hs,d1,d2,d3,d4];rfl
    | false =>
     have hlen:x.sizes.length≤16:=by simp at d2;omega
     rw [d1,d2,d3,d4] at hs
     simp only [Bool.not_false,Bool.true_and] at hs
     simp (disch:=first|omega|(simp only [nx_alloc,nx_bump,nx_set]<;>omega)|fail) only [YC,YZ,undefA,undef,RetQ,resA,resL,ARes.ev,AW_seq,AW_reg,AW_blk,AW_cond,AW_skip,AW_ret,AW_exit,AW_drw,AWOps,AWDraw,AI.want,AI.step,AOp.ev,AX.ev,evs,List.map_cons,List.map_nil,argsFr,Fr.get,Fr.put,AV.cells,SeqQ_n,SeqQ_r,SeqQ_e,BlkQ_n,BlkQ_r,BlkQ_e,LoopQ_n,LoopQ_r,LoopQ_e,RngQ_n,RngQ_r,RngQ_e,RnsQ_n,RnsQ_r,RnsQ_e,List.nil_append,AHeap.get_bump,AHeap.next_alloc,AHeap.next_bump,AHeap.next_set,AHeap.get_alloc_at,AHeap.get_alloc_ne,AHeap.get_set_self,AHeap.get_set_ne,set_alloc_at,set_alloc_lt,set_bump,↓reduceIte,Nat.reduceEqDiff,AHeap.get_alloc_self,ldRow,cond_false,cond_true,Nat.add_zero,Nat.zero_add,List.getElem?_cons_zero,List.getElem?_cons_succ,Option.map_some,binSc,intSc,unSc,beq_self_eq_true,BEq.rfl,Bool.false_beq,Bool.true_beq,Bool.not_true,Bool.not_false,wrap_of,Int.toNat_natCast,List.not_mem_nil,false_implies,implies_true,true_and,and_true,c94_0,List.length_map,d1,d2,d3,d4]
     refine AW_range (fun k=>shpMay x=(x.sizes.drop k).all sizesMay) (fun _=>[(28,.sl .no (rII x.sizes)),(1,.ptr H.next 0),(2,.b false)]) (fun _=>H.alloc (.cells [.sl .no (rII x.sizes),.i x.measures] 37)) (N:=x.sizes.length) (by unfold maxLen;omega) (by decide) (by decide) (by decide) (by rw [hs];rfl) (GStep.fr (by simp [Fr.get])) ?_ ?_
     ·intro k hk hinv
      rw [all_step _ _ hk,sizesMay_eq] at hinv
      have hg:=rII_get hk
      have h0:(0:Int)≤k:=by omega
      generalize hl:x.sizes[k]=l at hinv hg
      cases d5:decide ((l.length:Int)<1) with
      | true =>
       simp (disch:=first|omega|(simp only [nx_alloc,nx_bump,nx_set]<;>omega)|fail) only [YC,YZ,undefA,undef,RetQ,resA,resL,ARes.ev,AW_seq,AW_reg,AW_blk,AW_cond,AW_skip,AW_ret,AW_exit,AW_drw,AWOps,AWDraw,AI.want,AI.step,AOp.ev,AX.ev,evs,List.map_cons,List.map_nil,argsFr,Fr.get,Fr.put,AV.cells,SeqQ_n,SeqQ_r,SeqQ_e,BlkQ_n,BlkQ_r,BlkQ_e,LoopQ_n,LoopQ_r,LoopQ_e,RngQ_n,RngQ_r,RngQ_e,RnsQ_n,RnsQ_r,RnsQ_e,List.nil_append,AHeap.get_bump,AHeap.next_alloc,AHeap.next_bump,AHeap.next_set,AHeap.get_alloc_at,AHeap.get_alloc_ne,AHeap.get_set_self,AHeap.get_set_ne,set_alloc_at,set_alloc_lt,set_bump,↓reduceIte,Nat.reduceEqDiff,AHeap.get_alloc_self,ldRow,cond_false,cond_true,Nat.add_zero,Nat.zero_add,List.getElem?_cons_zero,List.getElem?_cons_succ,Option.map_some,binSc,intSc,unSc,beq_self_eq_true,BEq.rfl,Bool.false_beq,Bool.true_beq,Bool.not_true,Bool.not_false,wrap_of,Int.toNat_natCast,List.not_mem_nil,false_implies,implies_true,true_and,and_true,c94_0,List.length_cons,List.length_nil,hg,h0,List.length_map,d5]
       refine fin_pure hx ?_
       rw [hinv,d5];rfl
      | false =>
       cases d6:decide ((l.length:Int) > 4) with
       | true =>
        simp (disch:=first|omega|(simp only [nx_alloc,nx_bump,nx_set]<;>omega)|fail) only [YC,YZ,undefA,undef,RetQ,resA,resL,ARes.ev,AW_seq,AW_reg,AW_blk,AW_cond,AW_skip,AW_ret,AW_exit,AW_drw,AWOps,AWDraw,AI.want,AI.step,AOp.ev,AX.ev,evs,List.map_cons,List.map_nil,argsFr,Fr.get,Fr.put,AV.cells,SeqQ_n,SeqQ_r,SeqQ_e,BlkQ_n,BlkQ_r,BlkQ_e,LoopQ_n,LoopQ_r,LoopQ_e,RngQ_n,RngQ_r,RngQ_e,RnsQ_n,RnsQ_r,RnsQ_e,List.nil_append,AHeap.get_bump,AHeap.next_alloc,AHeap.next_bump,AHeap.next_set,AHeap.get_alloc_at,AHeap.get_alloc_ne,AHeap.get_set_self,AHeap.get_set_ne,set_alloc_at,set_alloc_lt,set_bump,↓reduceIte,Nat.reduceEqDiff,AHeap.get_alloc_self,ldRow,cond_false,cond_true,Nat.add_zero,Nat.zero_add,List.getElem?_cons_zero,List.getElem?_cons_succ,Option.map_some,binSc,intSc,unSc,beq_self_eq_true,BEq.rfl,Bool.false_beq,Bool.true_beq,Bool.not_true,Bool.not_false,wrap_of,Int.toNat_natCast,List.not_mem_nil,false_implies,implies_true,true_and,and_true,c94_0,List.length_cons,List.length_nil,hg,h0,List.length_map,d5,d6]
        refine fin_pure hx ?_
        rw [hinv,d5,d6];rfl
       | false =>
        rw [d5,d6] at hinv
        simp only [Bool.not_false,Bool.true_and] at hinv
        have hl4:l.length≤4:=by simp at d6;omega
        simp (disch:=first|omega|(simp only [nx_alloc,nx_bump,nx_set]<;>omega)|fail) only [YC,YZ,undefA,undef,RetQ,resA,resL,ARes.ev,AW_seq,AW_reg,AW_blk,AW_cond,AW_skip,AW_ret,AW_exit,AW_drw,AWOps,AWDraw,AI.want,AI.step,AOp.ev,AX.ev,evs,List.map_cons,List.map_nil,argsFr,Fr.get,Fr.put,AV.cells,SeqQ_n,SeqQ_r,SeqQ_e,BlkQ_n,BlkQ_r,BlkQ_e,LoopQ_n,LoopQ_r,LoopQ_e,RngQ_n,RngQ_r,RngQ_e,RnsQ_n,RnsQ_r,RnsQ_e,List.nil_append,AHeap.get_bump,AHeap.next_alloc,AHeap.next_bump,AHeap.next_set,AHeap.get_alloc_at,AHeap.get_alloc_ne,AHeap.get_set_self,AHeap.get_set_ne,set_alloc_at,set_alloc_lt,set_bump,↓reduceIte,Nat.reduceEqDiff,AHeap.get_alloc_self,ldRow,cond_false,cond_true,Nat.add_zero,Nat.zero_add,List.getElem?_cons_zero,List.getElem?_cons_succ,Option.map_some,binSc,intSc,unSc,beq_self_eq_true,BEq.rfl,Bool.false_beq,Bool.true_beq,Bool.not_true,Bool.not_false,wrap_of,Int.toNat_natCast,List.not_mem_nil,false_implies,implies_true,true_and,and_true,c94_0,List.length_cons,List.length_nil,hg,h0,List.length_map,d5,d6]
        refine AW_range (fun j=>shpMay x=(rowMay (intAhead l j) (l.drop j)&&(x.sizes.drop (k+1)).all sizesMay)) (fun _=>[(42,.sl .no (rI l)),(4,.sl .no (rI l)),(30,.i k),(29,.i x.sizes.length),(28,.sl .no (rII x.sizes)),(1,.ptr H.next 0),(2,.b false)]) (fun _=>H.alloc (.cells [.sl .no (rII x.sizes),.i x.measures] 37)) (N:=l.length) (by unfold maxLen;omega) (by decide) (by decide) (by decide) hinv (GStep.fr (by simp [Fr.get])) ?_ ?_
        ·intro j hj hinv
         rw [rowMay_step l j hj] at hinv
         have hgj:=rI_get hj
         have h0j:(0:Int)≤j:=by omega
         cases e1:decide (l[j]<1) with
         | true =>
          simp (disch:=first|omega|(simp only [nx_alloc,nx_bump,nx_set]<;>omega)|fail) only [YC,YZ,undefA,undef,RetQ,resA,resL,ARes.ev,AW_seq,AW_reg,AW_blk,AW_cond,AW_skip,AW_ret,AW_exit,AW_drw,AWOps,AWDraw,AI.want,AI.step,AOp.ev,AX.ev,evs,List.map_cons,List.map_nil,argsFr,Fr.get,Fr.put,AV.cells,SeqQ_n,SeqQ_r,SeqQ_e,BlkQ_n,BlkQ_r,BlkQ_e,LoopQ_n,LoopQ_r,LoopQ_e,RngQ_n,RngQ_r,RngQ_e,RnsQ_n,RnsQ_r,RnsQ_e,List.nil_append,AHeap.get_bump,AHeap.next_alloc,AHeap.next_bump,AHeap.next_set,AHeap.get_alloc_at,AHeap.get_alloc_ne,AHeap.get_set_self,AHeap.get_set_ne,set_alloc_at,set_alloc_lt,set_bump,↓reduceIte,Nat.reduceEqDiff,AHeap.get_alloc_self,ldRow,cond_false,cond_true,Nat.add_zero,Nat.zero_add,List.getElem?_cons_zero,List.getElem?_cons_succ,Option.map_some,binSc,intSc,unSc,beq_self_eq_true,BEq.rfl,Bool.false_beq,Bool.true_beq,Bool.not_true,Bool.not_false,wrap_of,Int.toNat_natCast,List.not_mem_nil,false_implies,implies_true,true_and,and_true,c94_0,List.length_cons,List.length_nil,hgj,h0j,e1]
          refine fin_pure hx ?_
          have:decide (1≤l[j])=false:=by simp at e1 ⊢;omega
          rw [hinv,this];rfl
         | false =>
          have f1:decide (1≤l[j])=true:=by simp at e1 ⊢;omega
          cases e2:decide (l[j] > 200) with
          | true =>
           simp (disch:=first|omega|(simp only [nx_alloc,nx_bump,nx_set]<;>omega)|fail) only [YC,YZ,undefA,undef,RetQ,resA,resL,ARes.ev,AW_seq,AW_reg,AW_blk,AW_cond,AW_skip,AW_ret,AW_exit,AW_drw,AWOps,AWDraw,AI.want,AI.step,AOp.ev,AX.ev,evs,List.map_cons,List.map_nil,argsFr,Fr.get,Fr.put,AV.cells,SeqQ_n,SeqQ_r,SeqQ_e,BlkQ_n,BlkQ_r,BlkQ_e,LoopQ_n,LoopQ_r,LoopQ_e,RngQ_n,RngQ_r,RngQ_e,RnsQ_n,RnsQ_r,RnsQ_e,List.nil_append,AHeap.get_bump,AHeap.next_alloc,AHeap.next_bump,AHeap.next_set,AHeap.get_alloc_at,AHeap.get_alloc_ne,AHeap.get_set_self,AHeap.get_set_ne,set_alloc_at,set_alloc_lt,set_bump,↓reduceIte,Nat.reduceEqDiff,AHeap.get_alloc_self,ldRow,cond_false,cond_true,Nat.add_zero,Nat.zero_add,List.getElem?_cons_zero,List.getElem?_cons_succ,Option.map_some,binSc,intSc,unSc,beq_self_eq_true,BEq.rfl,Bool.false_beq,Bool.true_beq,Bool.not_true,Bool.not_false,wrap_of,Int.toNat_natCast,List.not_mem_nil,false_implies,implies_true,true_and,and_true,c94_0,List.length_cons,List.length_nil,hgj,h0j,e1,e2]
           refine fin_pure hx ?_
           have:decide (l[j]≤200)=false:=by simp at e2 ⊢;omega
           rw [hinv,this,f1];rfl
          | false =>
           have f2:decide (l[j]≤200)=true:=by simp at e2 ⊢;omega
           rw [f1,f2,Bool.true_and,Bool.true_and] at hinv
           by_cases hj0:j=0
           ·subst hj0
            have e3:decide (((0:Nat):Int) > 0)=false:=by simp
            simp (disch:=first|omega|(simp only [nx_alloc,nx_bump,nx_set]<;>omega)|fail) only [YC,YZ,undefA,undef,RetQ,resA,resL,ARes.ev,AW_seq,AW_reg,AW_blk,AW_cond,AW_skip,AW_ret,AW_exit,AW_drw,AWOps,AWDraw,AI.want,AI.step,AOp.ev,AX.ev,evs,List.map_cons,List.map_nil,argsFr,Fr.get,Fr.put,AV.cells,SeqQ_n,SeqQ_r,SeqQ_e,BlkQ_n,BlkQ_r,BlkQ_e,LoopQ_n,LoopQ_r,LoopQ_e,RngQ_n,RngQ_r,RngQ_e,RnsQ_n,RnsQ_r,RnsQ_e,List.nil_append,AHeap.get_bump,AHeap.next_alloc,AHeap.next_bump,AHeap.next_set,AHeap.get_alloc_at,AHeap.get_alloc_ne,AHeap.get_set_self,AHeap.get_set_ne,set_alloc_at,set_alloc_lt,set_bump,↓reduceIte,Nat.reduceEqDiff,AHeap.get_alloc_self,ldRow,cond_false,cond_true,Nat.add_zero,Nat.zero_add,List.getElem?_cons_zero,List.getElem?_cons_succ,Option.map_some,binSc,intSc,unSc,beq_self_eq_true,BEq.rfl,Bool.false_beq,Bool.true_beq,Bool.not_true,Bool.not_false,wrap_of,Int.toNat_natCast,List.not_mem_nil,false_implies,implies_true,true_and,and_true,c94_0,List.length_cons,List.length_nil,hgj,h0j,e1,e2,e3]
            refine ⟨?_,GStep.fr (by simp [Fr.get])⟩
            rw [hinv];rfl
           ·have e3:decide ((j:Int) > 0)=true:=by simp;omega
            have hj1:j - 1<l.length:=by omega
            have hgi:=rI_get hj1
            have h0i:(0:Int)≤(j:Int) - 1:=by omega
            have hti:((j:Int) - 1).toNat=j - 1:=by omega
            have hai:leI (intAhead l j) l[j]=decide (l[j]≤l[j - 1]):=by
             unfold intAhead
             rw [if_neg hj0,List.getElem?_eq_getElem hj1]
             rfl
            rw [hai] at hinv
            cases e4:decide (l[j] > l[j - 1]) with
            | true =>
             simp (disch:=first|omega|(simp only [nx_alloc,nx_bump,nx_set]<;>omega)|fail) only [YC,YZ,undefA,undef,RetQ,resA,resL,ARes.ev,AW_seq,AW_reg,AW_blk,AW_cond,AW_skip,AW_ret,AW_exit,AW_drw,AWOps,AWDraw,AI.want,AI.step,AOp.ev,AX.ev,evs,List.map_cons,List.map_nil,argsFr,Fr.get,Fr.put,AV.cells,SeqQ_n,SeqQ_r,SeqQ_e,BlkQ_n,BlkQ_r,BlkQ_e,LoopQ_n,LoopQ_r,LoopQ_e,RngQ_n,RngQ_r,RngQ_e,RnsQ_n,RnsQ_r,RnsQ_e,List.nil_append,AHeap.get_bump,AHeap.next_alloc,AHeap.next_bump,AHeap.next_set,AHeap.get_alloc_at,AHeap.get_alloc_ne,AHeap.get_set_self,AHeap.get_set_ne,set_alloc_at,set_alloc_lt,set_bump,↓reduceIte,Nat.reduceEqDiff,AHeap.get_alloc_self,ldRow,cond_false,cond_true,Nat.add_zero,Nat.zero_add,List.getElem?_cons_zero,List.getElem?_cons_succ,Option.map_some,binSc,intSc,unSc,beq_self_eq_true,BEq.rfl,Bool.false_beq,Bool.true_beq,Bool.not_true,Bool.not_false,wrap_of,Int.toNat_natCast,List.not_mem_nil,false_implies,implies_true,true_and,and_true,c94_0,List.length_cons,List.length_nil,hgj,h0j,e1,e2,e3,h0i,hti,hgi,e4]
             refine fin_pure hx ?_
             have:decide (l[j]≤l[j - 1])=false:=by simp at e4 ⊢;omega
             rw [hinv,this];rfl
            | false =>
             simp (disch:=first|omega|(simp only [nx_alloc,nx_bump,nx_set]<;>omega)|fail) only [YC,YZ,undefA,undef,RetQ,resA,resL,ARes.ev,AW_seq,AW_reg,AW_blk,AW_cond,AW_skip,AW_ret,AW_exit,AW_drw,AWOps,AWDraw,AI.want,AI.step,AOp.ev,AX.ev,evs,List.map_cons,List.map_nil,argsFr,Fr.get,Fr.put,AV.cells,SeqQ_n,SeqQ_r,SeqQ_e,BlkQ_n,BlkQ_r,BlkQ_e,LoopQ_n,LoopQ_r,LoopQ_e,RngQ_n,RngQ_r,RngQ_e,RnsQ_n,RnsQ_r,RnsQ_e,List.nil_append,AHeap.get_bump,AHeap.next_alloc,AHeap.next_bump,AHeap.next_set,AHeap.get_alloc_at,AHeap.get_alloc_ne,AHeap.get_set_self,AHeap.get_set_ne,set_alloc_at,set_alloc_lt,set_bump,↓reduceIte,Nat.reduceEqDiff,AHeap.get_alloc_self,ldRow,cond_false,cond_true,Nat.add_zero,Nat.zero_add,List.getElem?_cons_zero,List.getElem?_cons_succ,Option.map_some,binSc,intSc,unSc,beq_self_eq_true,BEq.rfl,Bool.false_beq,Bool.true_beq,Bool.not_true,Bool.not_false,wrap_of,Int.toNat_natCast,List.not_mem_nil,false_implies,implies_true,true_and,and_true,c94_0,List.length_cons,List.length_nil,hgj,h0j,e1,e2,e3,h0i,hti,hgi,e4]
             refine ⟨?_,GStep.fr (by simp [Fr.get])⟩
             have:decide (l[j]≤l[j - 1])=true:=by simp at e4 ⊢;omega
             rw [hinv,this,Bool.true_and]
        ·intro hinv
         simp (disch:=first|omega|(simp only [nx_alloc,nx_bump,nx_set]<;>omega)|fail) only [YC,YZ,undefA,undef,RetQ,resA,resL,ARes.ev,AW_seq,AW_reg,AW_blk,AW_cond,AW_skip,AW_ret,AW_exit,AW_drw,AWOps,AWDraw,AI.want,AI.step,AOp.ev,AX.ev,evs,List.map_cons,List.map_nil,argsFr,Fr.get,Fr.put,AV.cells,SeqQ_n,SeqQ_r,SeqQ_e,BlkQ_n,BlkQ_r,BlkQ_e,LoopQ_n,LoopQ_r,LoopQ_e,RngQ_n,RngQ_r,RngQ_e,RnsQ_n,RnsQ_r,RnsQ_e,List.nil_append,AHeap.get_bump,AHeap.next_alloc,AHeap.next_bump,AHeap.next_set,AHeap.get_alloc_at,AHeap.get_alloc_ne,AHeap.get_set_self,AHeap.get_set_ne,set_alloc_at,set_alloc_lt,set_bump,↓reduceIte,Nat.reduceEqDiff,AHeap.get_alloc_self,ldRow,cond_false,cond_true,Nat.add_zero,Nat.zero_add,List.getElem?_cons_zero,List.getElem?_cons_succ,Option.map_some,binSc,intSc,unSc,beq_self_eq_true,BEq.rfl,Bool.false_beq,Bool.true_beq,Bool.not_true,Bool.not_false,wrap_of,Int.toNat_natCast,List.not_mem_nil,false_implies,implies_true,true_and,and_true,c94_0]
         refine ⟨?_,GStep.fr (by simp [Fr.get])⟩
         rw [hinv,List.drop_of_length_le (Nat.le_refl _)]
         rfl
     ·intro hinv
      simp (disch:=first|omega|(simp only [nx_alloc,nx_bump,nx_set]<;>omega)|fail) only [YC,YZ,undefA,undef,RetQ,resA,resL,ARes.ev,AW_seq,AW_reg,AW_blk,AW_cond,AW_skip,AW_ret,AW_exit,AW_drw,AWOps,AWDraw,AI.want,AI.step,AOp.ev,AX.ev,evs,List.map_cons,List.map_nil,argsFr,Fr.get,Fr.put,AV.cells,SeqQ_n,SeqQ_r,SeqQ_e,BlkQ_n,BlkQ_r,BlkQ_e,LoopQ_n,LoopQ_r,LoopQ_e,RngQ_n,RngQ_r,RngQ_e,RnsQ_n,RnsQ_r,RnsQ_e,List.nil_append,AHeap.get_bump,AHeap.next_alloc,AHeap.next_bump,AHeap.next_set,AHeap.get_alloc_at,AHeap.get_alloc_ne,AHeap.get_set_self,AHeap.get_set_ne,set_alloc_at,set_alloc_lt,set_bump,↓reduceIte,Nat.reduceEqDiff,AHeap.get_alloc_self,ldRow,cond_false,cond_true,Nat.add_zero,Nat.zero_add,List.getElem?_cons_zero,List.getElem?_cons_succ,Option.map_some,binSc,intSc,unSc,beq_self_eq_true,BEq.rfl,Bool.false_beq,Bool.true_beq,Bool.not_true,Bool.not_false,wrap_of,Int.toNat_natCast,List.not_mem_nil,false_implies,implies_true,true_and,and_true,c94_0]
      refine fin_pure hx ?_
      rw [hinv,List.drop_of_length_le (Nat.le_refl _)];rfl
theorem allLen_rI (l:List Int):allLen 1 (rI l)=true:=allLen_map (f:=fun n=>[AV.i n]) (fun _=>rfl) l
theorem allLen_nil {sz:Nat}:allLen sz []=true:=rfl
theorem clone_sound (tok:Tok) (l:List Int) (H:AHeap) (hl:l.length≤1000000):Sound Tryz.prog 95 [.sl tok (rI l)] H (Pure H (.sl .no (rI l))):=by
 refine fn_sound hE cf95 (Nat.le_of_ble_eq_true rfl) ?_
 cases l with
 | nil =>
  simp (disch:=first|omega|(simp only [nx_alloc,nx_bump,nx_set]<;>omega)|fail) only [YC,YZ,undefA,undef,RetQ,resA,resL,ARes.ev,AW_seq,AW_reg,AW_blk,AW_cond,AW_skip,AW_ret,AW_exit,AW_drw,AWOps,AWDraw,AI.want,AI.step,AOp.ev,AX.ev,evs,List.map_cons,List.map_nil,argsFr,Fr.get,Fr.put,AV.cells,SeqQ_n,SeqQ_r,SeqQ_e,BlkQ_n,BlkQ_r,BlkQ_e,LoopQ_n,LoopQ_r,LoopQ_e,RngQ_n,RngQ_r,RngQ_e,RnsQ_n,RnsQ_r,RnsQ_e,List.nil_append,AHeap.get_bump,AHeap.next_alloc,AHeap.next_bump,AHeap.next_set,AHeap.get_alloc_at,AHeap.get_alloc_ne,AHeap.get_set_self,AHeap.get_set_ne,set_alloc_at,set_alloc_lt,set_bump,↓reduceIte,Nat.reduceEqDiff,AHeap.get_alloc_self,ldRow,cond_false,cond_true,Nat.add_zero,Nat.zero_add,List.getElem?_cons_zero,List.getElem?_cons_succ,Option.map_some,binSc,intSc,unSc,beq_self_eq_true,BEq.rfl,Bool.false_beq,Bool.true_beq,Bool.not_true,Bool.not_false,wrap_of,Int.toNat_natCast,List.not_mem_nil,false_implies,implies_true,true_and,and_true,c95_0,rowsOf,rowsIn,allLen_nil,List.length_nil,List.append_nil,Nat.zero_mul,Nat.zero_le]
  exact ⟨fin_pure (.refl _) rfl,fin_pure (.refl _) rfl⟩
 | cons a l =>
  have hal:=allLen_rI (a :: l)
  have h1:(rI (a :: l)).length≤maxLen:=by simp at hl ⊢;unfold maxLen;omega
  have h2:(rI (a :: l)).length * 8≤140737488355328:=by simp at hl ⊢;omega
  have hc:rI (a :: l)=[.i a] :: rI l:=rfl
  generalize hr:rI (a :: l)=r at *
  subst hc
  simp (disch:=first|omega|(simp only [nx_alloc,nx_bump,nx_set]<;>omega)|fail) only [YC,YZ,undefA,undef,RetQ,resA,resL,ARes.ev,AW_seq,AW_reg,AW_blk,AW_cond,AW_skip,AW_ret,AW_exit,AW_drw,AWOps,AWDraw,AI.want,AI.step,AOp.ev,AX.ev,evs,List.map_cons,List.map_nil,argsFr,Fr.get,Fr.put,AV.cells,SeqQ_n,SeqQ_r,SeqQ_e,BlkQ_n,BlkQ_r,BlkQ_e,LoopQ_n,LoopQ_r,LoopQ_e,RngQ_n,RngQ_r,RngQ_e,RnsQ_n,RnsQ_r,RnsQ_e,List.nil_append,AHeap.get_bump,AHeap.next_alloc,AHeap.next_bump,AHeap.next_set,AHeap.get_alloc_at,AHeap.get_alloc_ne,AHeap.get_set_self,AHeap.get_set_ne,set_alloc_at,set_alloc_lt,set_bump,↓reduceIte,Nat.reduceEqDiff,AHeap.get_alloc_self,ldRow,cond_false,cond_true,Nat.add_zero,Nat.zero_add,List.getElem?_cons_zero,List.getElem?_cons_succ,Option.map_some,binSc,intSc,unSc,beq_self_eq_true,BEq.rfl,Bool.false_beq,Bool.true_beq,Bool.not_true,Bool.not_false,wrap_of,Int.toNat_natCast,List.not_mem_nil,false_implies,implies_true,true_and,and_true,c95_0,rowsOf,rowsIn,hal,h1,h2,List.nil_append,List.length_nil,allLen_nil,Bool.xor_false,Bool.false_bne]
  exact fin_pure (AHeap.Ext.refl _).alloc rfl
def eAr (x:Shp) (tok:Tok) (nodes:AV) (most:Int):List AV:=[.sl tok (rII x.sizes),.i x.measures,nodes,.i most]
def NewQ (x:Shp) (most:Int) (H:AHeap) (r:AV) (H':AHeap):Prop :=
 AHeap.Ext H H'∧if shpMay x=true∧0≤most∧most≤131072 then ∃ id tok,r=.tup [.ptr id 0,.i 0]∧H.next≤id∧H'.get id=some (.cells (eAr x tok (.sl .full []) most) 117)
 else r=.tup [.sc (.pointer none),.i 2]
theorem allLen_rII (l:List (List Int)):allLen 1 (rII l)=true:=allLen_map (f:=fun l=>[AV.sl .no (rI l)]) (fun _=>rfl) l
theorem rII_snoc {l:List (List Int)} {j:Nat} (h:j<l.length):rII (l.take j)++[[AV.sl .no (rI l[j])]]=rII (l.take (j+1)):=by
 rw [List.take_add_one,List.getElem?_eq_getElem h]
 simp only [Option.toList_some,List.map_append,List.map_cons,List.map_nil]
structure CopyAt (H0:AHeap) (id t j:Nat) (l:List (List Int)) (m:Int) (s:AHeap):Prop where
 ne:id≠t
 lo:H0.next≤id
 lo2:H0.next≤t
 cell:s.get id=some (.cells [.sl (.own t) (rII (l.take j)),.i m] 37)
 tok:s.get t=some (.tok j 57 1)
 ext:AHeap.Ext H0 s
theorem CopyAt.next {H0:AHeap} {id t j k:Nat} {l:List (List Int)} {m:Int} {s:AHeap} (h:CopyAt H0 id t j l m s):CopyAt H0 id t (j+1) l m (((s.bump k).set t (.tok (j+1) 57 1)).set id (.cells [.sl (.own t) (rII (l.take (j+1))),.i m] 37)):=by
 have h1:=AHeap.lt h.cell
 have h2:=AHeap.lt h.tok
 refine ⟨h.ne,h.lo,h.lo2,AHeap.get_set_self (by simp;omega),?_,(h.ext.bump.set h.lo2).set h.lo⟩
 rw [AHeap.get_set_ne (Ne.symm h.ne)]
 exact AHeap.get_set_self (by simp;omega)
set_option maxHeartbeats 1000000 in
theorem new_sound (x:Shp) (most:Int) (H:AHeap):Sound Tryz.prog 51 [.agg (eShp x),.i most] H (NewQ x most H):=by
 refine fn_sound hE cf51 (Nat.le_of_ble_eq_true rfl) ?_
 have hx:AHeap.Ext H (H.alloc (.cells [.sl .no (rII x.sizes),.i x.measures] 37)):=(AHeap.Ext.refl H).alloc
 rw [eShp_eq]
 simp (disch:=first|assumption|omega|(simp only [nx_alloc,nx_bump,nx_set]<;>omega)|fail) only [YC,YZ,↓AW_seq,↓AW_reg,↓AW_blk,↓AW_cond,↓AW_skip,↓AW_ret,↓AW_exit,↓AW_drw,↓AWOps,↓AWDraw,AI.want,↓AI.step,↓Sound_box,AOp.ev,AX.ev,evs,List.map_cons,List.map_nil,argsFr,Fr.get,Fr.put,AV.cells,↓SeqQ_n,↓SeqQ_r,↓SeqQ_e,↓BlkQ_n,↓BlkQ_r,↓BlkQ_e,LoopQ_n,LoopQ_r,LoopQ_e,RngQ_n,RngQ_r,RngQ_e,RnsQ_n,RnsQ_r,RnsQ_e,undefA,undef,↓RetQ_r,↓RetQ_n,resA,resL,ARes.ev,↓reduceIte,Nat.reduceEqDiff,ldRow,↓cond_false,↓cond_true,cond_false,cond_true,Nat.add_zero,Nat.zero_add,Nat.reduceAdd,Nat.reduceMul,Nat.one_mul,Nat.mul_one,Nat.reduceLeDiff,List.getElem?_cons_zero,List.getElem?_cons_succ,Option.map_some,binSc,intSc,unSc,beq_self_eq_true,BEq.rfl,Bool.false_beq,Bool.true_beq,Bool.not_true,Bool.not_false,wrap_of,Int.toNat_natCast,List.not_mem_nil,false_implies,implies_true,true_and,and_true,and_self,List.nil_append,List.append_nil,List.cons_append,Value.oneCell',fillA,splice,rowsOf,rowsIn,List.take_succ_cons,List.take_zero,List.drop_succ_cons,List.drop_zero,List.drop_nil,List.take_nil,List.length_cons,List.length_nil,Nat.le_refl,AHeap.get_bump,AHeap.next_bump,AHeap.next_set,AHeap.next_alloc,AHeap.get_set_self,AHeap.get_set_ne,AHeap.get_alloc_self,AHeap.get_alloc_at,AHeap.get_alloc_ne,c51_0,List.take,List.drop,List.length_cons,List.length_nil,Nat.le_refl,Nat.reduceAdd,List.append_nil,AV.cells]
 refine CallK.use (may_sound x _) ?_
 rintro r H' ⟨rfl,k,rfl⟩
 have bad:¬ (shpMay x=true∧0≤most∧most≤131072)→∃ r2 H2,RStep (.tup [.sc (.pointer none),.i 2]) ((H.alloc (.cells [.sl .no (rII x.sizes),.i x.measures] 37)).bump k) r2 H2∧NewQ x most H r2 H2:=by
  intro hn
  refine fin_keep ⟨hx.bump,?_⟩
  rw [if_neg hn]
 cases hm:shpMay x with
 | false =>
  simp (disch:=first|assumption|omega|(simp only [nx_alloc,nx_bump,nx_set]<;>omega)|fail) only [YC,YZ,↓AW_seq,↓AW_reg,↓AW_blk,↓AW_cond,↓AW_skip,↓AW_ret,↓AW_exit,↓AW_drw,↓AWOps,↓AWDraw,AI.want,↓AI.step,↓Sound_box,AOp.ev,AX.ev,evs,List.map_cons,List.map_nil,argsFr,Fr.get,Fr.put,AV.cells,↓SeqQ_n,↓SeqQ_r,↓SeqQ_e,↓BlkQ_n,↓BlkQ_r,↓BlkQ_e,LoopQ_n,LoopQ_r,LoopQ_e,RngQ_n,RngQ_r,RngQ_e,RnsQ_n,RnsQ_r,RnsQ_e,undefA,undef,↓RetQ_r,↓RetQ_n,resA,resL,ARes.ev,↓reduceIte,Nat.reduceEqDiff,ldRow,↓cond_false,↓cond_true,cond_false,cond_true,Nat.add_zero,Nat.zero_add,Nat.reduceAdd,Nat.reduceMul,Nat.one_mul,Nat.mul_one,Nat.reduceLeDiff,List.getElem?_cons_zero,List.getElem?_cons_succ,Option.map_some,binSc,intSc,unSc,beq_self_eq_true,BEq.rfl,Bool.false_beq,Bool.true_beq,Bool.not_true,Bool.not_false,wrap_of,Int.toNat_natCast,List.not_mem_nil,false_implies,implies_true,true_and,and_true,and_self,List.nil_append,List.append_nil,List.cons_append,Value.oneCell',fillA,splice,rowsOf,rowsIn,List.take_succ_cons,List.take_zero,List.drop_succ_cons,List.drop_zero,List.drop_nil,List.take_nil,List.length_cons,List.length_nil,Nat.le_refl,AHeap.get_bump,AHeap.next_bump,AHeap.next_set,AHeap.next_alloc,AHeap.get_set_self,AHeap.get_set_ne,AHeap.get_alloc_self,AHeap.get_alloc_at,AHeap.get_alloc_ne,c51_0]
  exact bad (by simp [hm])
 | true =>
  cases d1:decide (most<0) with
  | true =>
   simp (disch:=first|assumption|omega|(simp only [nx_alloc,nx_bump,nx_set]<;>omega)|fail) only [YC,YZ,↓AW_seq,↓AW_reg,↓AW_blk,↓AW_cond,↓AW_skip,↓AW_ret,↓AW_exit,↓AW_drw,↓AWOps,↓AWDraw,AI.want,↓AI.step,↓Sound_box,AOp.ev,AX.ev,evs,List.map_cons,List.map_nil,argsFr,Fr.get,Fr.put,AV.cells,↓SeqQ_n,↓SeqQ_r,↓SeqQ_e,↓BlkQ_n,↓BlkQ_r,↓BlkQ_e,LoopQ_n,LoopQ_r,LoopQ_e,RngQ_n,RngQ_r,RngQ_e,RnsQ_n,RnsQ_r,RnsQ_e,undefA,undef,↓RetQ_r,↓RetQ_n,resA,resL,ARes.ev,↓reduceIte,Nat.reduceEqDiff,ldRow,↓cond_false,↓cond_true,cond_false,cond_true,Nat.add_zero,Nat.zero_add,Nat.reduceAdd,Nat.reduceMul,Nat.one_mul,Nat.mul_one,Nat.reduceLeDiff,List.getElem?_cons_zero,List.getElem?_cons_succ,Option.map_some,binSc,intSc,unSc,beq_self_eq_true,BEq.rfl,Bool.false_beq,Bool.true_beq,Bool.not_true,Bool.not_false,wrap_of,Int.toNat_natCast,List.not_mem_nil,false_implies,implies_true,true_and,and_true,and_self,List.nil_append,List.append_nil,List.cons_append,Value.oneCell',fillA,splice,rowsOf,rowsIn,List.take_succ_cons,List.take_zero,List.drop_succ_cons,List.drop_zero,List.drop_nil,List.take_nil,List.length_cons,List.length_nil,Nat.le_refl,AHeap.get_bump,AHeap.next_bump,AHeap.next_set,AHeap.next_alloc,AHeap.get_set_self,AHeap.get_set_ne,AHeap.get_alloc_self,AHeap.get_alloc_at,AHeap.get_alloc_ne,c51_0,d1]
   exact bad (by simp at d1;omega)
  | false =>
   cases d2:decide (most > 131072) with
   | true =>
    simp (disch:=first|assumption|omega|(simp only [nx_alloc,nx_bump,nx_set]<;>omega)|fail) only [YC,YZ,↓AW_seq,↓AW_reg,↓AW_blk,↓AW_cond,↓AW_skip,↓AW_ret,↓AW_exit,↓AW_drw,↓AWOps,↓AWDraw,AI.want,↓AI.step,↓Sound_box,AOp.ev,AX.ev,evs,List.map_cons,List.map_nil,argsFr,Fr.get,Fr.put,AV.cells,↓SeqQ_n,↓SeqQ_r,↓SeqQ_e,↓BlkQ_n,↓BlkQ_r,↓BlkQ_e,LoopQ_n,LoopQ_r,LoopQ_e,RngQ_n,RngQ_r,RngQ_e,RnsQ_n,RnsQ_r,RnsQ_e,undefA,undef,↓RetQ_r,↓RetQ_n,resA,resL,ARes.ev,↓reduceIte,Nat.reduceEqDiff,ldRow,↓cond_false,↓cond_true,cond_false,cond_true,Nat.add_zero,Nat.zero_add,Nat.reduceAdd,Nat.reduceMul,Nat.one_mul,Nat.mul_one,Nat.reduceLeDiff,List.getElem?_cons_zero,List.getElem?_cons_succ,Option.map_some,binSc,intSc,unSc,beq_self_eq_true,BEq.rfl,Bool.false_beq,Bool.true_beq,Bool.not_true,Bool.not_false,wrap_of,Int.toNat_natCast,List.not_mem_nil,false_implies,implies_true,true_and,and_true,and_self,List.nil_append,List.append_nil,List.cons_append,Value.oneCell',fillA,splice,rowsOf,rowsIn,List.take_succ_cons,List.take_zero,List.drop_succ_cons,List.drop_zero,List.drop_nil,List.take_nil,List.length_cons,List.length_nil,Nat.le_refl,AHeap.get_bump,AHeap.next_bump,AHeap.next_set,AHeap.next_alloc,AHeap.get_set_self,AHeap.get_set_ne,AHeap.get_alloc_self,AHeap.get_alloc_at,AHeap.get_alloc_ne,c51_0,d1,d2]
    exact bad (by simp at d2;omega)
   | false =>
    obtain ⟨b1,b2,b3,b4,b5⟩:=shpMay_bounds hm
    simp (disch:=first|assumption|omega|(simp only [nx_alloc,nx_bump,nx_set]<;>omega)|fail) only [YC,YZ,↓AW_seq,↓AW_reg,↓AW_blk,↓AW_cond,↓AW_skip,↓AW_ret,↓AW_exit,↓AW_drw,↓AWOps,↓AWDraw,AI.want,↓AI.step,↓Sound_box,AOp.ev,AX.ev,evs,List.map_cons,List.map_nil,argsFr,Fr.get,Fr.put,AV.cells,↓SeqQ_n,↓SeqQ_r,↓SeqQ_e,↓BlkQ_n,↓BlkQ_r,↓BlkQ_e,LoopQ_n,LoopQ_r,LoopQ_e,RngQ_n,RngQ_r,RngQ_e,RnsQ_n,RnsQ_r,RnsQ_e,undefA,undef,↓RetQ_r,↓RetQ_n,resA,resL,ARes.ev,↓reduceIte,Nat.reduceEqDiff,ldRow,↓cond_false,↓cond_true,cond_false,cond_true,Nat.add_zero,Nat.zero_add,Nat.reduceAdd,Nat.reduceMul,Nat.one_mul,Nat.mul_one,Nat.reduceLeDiff,List.getElem?_cons_zero,List.getElem?_cons_succ,Option.map_some,binSc,intSc,unSc,beq_self_eq_true,BEq.rfl,Bool.false_beq,Bool.true_beq,Bool.not_true,Bool.not_false,wrap_of,Int.toNat_natCast,List.not_mem_nil,false_implies,implies_true,true_and,and_true,and_self,List.nil_append,List.append_nil,List.cons_append,Value.oneCell',fillA,splice,rowsOf,rowsIn,List.take_succ_cons,List.take_zero,List.drop_succ_cons,List.drop_zero,List.drop_nil,List.take_nil,List.length_cons,List.length_nil,Nat.le_refl,AHeap.get_bump,AHeap.next_bump,AHeap.next_set,AHeap.next_alloc,AHeap.get_set_self,AHeap.get_set_ne,AHeap.get_alloc_self,AHeap.get_alloc_at,AHeap.get_alloc_ne,c51_0,c51_0,d1,d2,List.length_map,List.append_nil]
    refine AW_let fun G hG=>?_
    have hGn:G.next=H.next+1+k+1:=by rw [hG];simp
    have hg0:G.get (H.next+1+k)=some (.cells [.sl .full [],.i x.measures] 37):=by rw [hG];exact AHeap.get_set_self (by simp)
    have hGe:AHeap.Ext H G:=by rw [hG];exact hx.bump.alloc.set (by omega)
    clear hG
    refine AW_rangeS (σ:=AHeap) (N:=x.sizes.length) (fun j s=>CopyAt H (H.next+1+k) G.next j x.sizes x.measures s) (fun j s=>[(24,.sl .no (rII x.sizes)),(6,.ptr (H.next+1+k) 0),(1,.i most)])
     (fun j s=>s) (by unfold maxLen;omega) (by decide) ((G.set (H.next+1+k) (.cells [.sl (.own G.next) [],.i x.measures] 37)).alloc (.tok 0 57 1)) ?_ ?_ ?_ ?_
    ·refine ⟨by omega,by omega,by omega,?_,AHeap.get_alloc_self (H:=G.set _ _),(hGe.set (by omega)).alloc⟩
     rw [AHeap.get_alloc_ne (by simp;omega)]
     exact AHeap.get_set_self (by omega)
    ·exact (GStep.fr (F':=[(26,.i ((0:Nat):Int)),(25,.i x.sizes.length),(24,.sl .no (rII x.sizes)),(6,.ptr (H.next+1+k) 0),(1,.i most)]) (by simp [Fr.get])).trans (GStep.tokCell (H.next+1+k) 0 37 57 1 hg0 rfl)
    ·intro j s hj hinv
     have hg:=rII_get hj
     have h0:(0:Int)≤j:=by omega
     have hlj:(rII (x.sizes.take j)).length=j:=by simp;omega
     have hl1:=(sizesMay_bounds (b5 _ (List.getElem_mem hj))).2.1
     have hc:=hinv.cell
     have ht:=hinv.tok
     have hc1:=AHeap.lt hc
     have ht1:=AHeap.lt ht
     have hne:=hinv.ne
     have hne':=Ne.symm hne
     simp (disch:=first|assumption|omega|(simp only [nx_alloc,nx_bump,nx_set]<;>omega)|fail) only [YC,YZ,↓AW_seq,↓AW_reg,↓AW_blk,↓AW_cond,↓AW_skip,↓AW_ret,↓AW_exit,↓AW_drw,↓AWOps,↓AWDraw,AI.want,↓AI.step,↓Sound_box,AOp.ev,AX.ev,evs,List.map_cons,List.map_nil,argsFr,Fr.get,Fr.put,AV.cells,↓SeqQ_n,↓SeqQ_r,↓SeqQ_e,↓BlkQ_n,↓BlkQ_r,↓BlkQ_e,LoopQ_n,LoopQ_r,LoopQ_e,RngQ_n,RngQ_r,RngQ_e,RnsQ_n,RnsQ_r,RnsQ_e,undefA,undef,↓RetQ_r,↓RetQ_n,resA,resL,ARes.ev,↓reduceIte,Nat.reduceEqDiff,ldRow,↓cond_false,↓cond_true,cond_false,cond_true,Nat.add_zero,Nat.zero_add,Nat.reduceAdd,Nat.reduceMul,Nat.one_mul,Nat.mul_one,Nat.reduceLeDiff,List.getElem?_cons_zero,List.getElem?_cons_succ,Option.map_some,binSc,intSc,unSc,beq_self_eq_true,BEq.rfl,Bool.false_beq,Bool.true_beq,Bool.not_true,Bool.not_false,wrap_of,Int.toNat_natCast,List.not_mem_nil,false_implies,implies_true,true_and,and_true,and_self,List.nil_append,List.append_nil,List.cons_append,Value.oneCell',fillA,splice,rowsOf,rowsIn,List.take_succ_cons,List.take_zero,List.drop_succ_cons,List.drop_zero,List.drop_nil,List.take_nil,List.length_cons,List.length_nil,Nat.le_refl,AHeap.get_bump,AHeap.next_bump,AHeap.next_set,AHeap.next_alloc,AHeap.get_set_self,AHeap.get_set_ne,AHeap.get_alloc_self,AHeap.get_alloc_at,AHeap.get_alloc_ne,c51_0,hg,h0]
     simp (disch:=first|assumption|omega|(simp only [nx_alloc,nx_bump,nx_set]<;>omega)|fail) only [YC,YZ,↓AW_seq,↓AW_reg,↓AW_blk,↓AW_cond,↓AW_skip,↓AW_ret,↓AW_exit,↓AW_drw,↓AWOps,↓AWDraw,AI.want,↓AI.step,↓Sound_box,AOp.ev,AX.ev,evs,List.map_cons,List.map_nil,argsFr,Fr.get,Fr.put,AV.cells,↓SeqQ_n,↓SeqQ_r,↓SeqQ_e,↓BlkQ_n,↓BlkQ_r,↓BlkQ_e,LoopQ_n,LoopQ_r,LoopQ_e,RngQ_n,RngQ_r,RngQ_e,RnsQ_n,RnsQ_r,RnsQ_e,undefA,undef,↓RetQ_r,↓RetQ_n,resA,resL,ARes.ev,↓reduceIte,Nat.reduceEqDiff,ldRow,↓cond_false,↓cond_true,cond_false,cond_true,Nat.add_zero,Nat.zero_add,Nat.reduceAdd,Nat.reduceMul,Nat.one_mul,Nat.mul_one,Nat.reduceLeDiff,List.getElem?_cons_zero,List.getElem?_cons_succ,Option.map_some,binSc,intSc,unSc,beq_self_eq_true,BEq.rfl,Bool.false_beq,Bool.true_beq,Bool.not_true,Bool.not_false,wrap_of,Int.toNat_natCast,List.not_mem_nil,false_implies,implies_true,true_and,and_true,and_self,List.nil_append,List.append_nil,List.cons_append,Value.oneCell',fillA,splice,rowsOf,rowsIn,List.take_succ_cons,List.take_zero,List.drop_succ_cons,List.drop_zero,List.drop_nil,List.take_nil,List.length_cons,List.length_nil,Nat.le_refl,AHeap.get_bump,AHeap.next_bump,AHeap.next_set,AHeap.next_alloc,AHeap.get_set_self,AHeap.get_set_ne,AHeap.get_alloc_self,AHeap.get_alloc_at,AHeap.get_alloc_ne,c51_0,hc]
     refine CallK.use (clone_sound .no x.sizes[j] _ (by omega)) ?_
     rintro r H' ⟨rfl,k',rfl⟩
     have ha1:=allLen_rII (x.sizes.take j)
     have hb1:j+1≤maxLen:=by unfold maxLen;omega
     have hb2:(j+1) * 24≤140737488355328:=by omega
     refine ⟨stable_one rfl rfl (by simp (disch:=first|assumption|omega|(simp only [nx_alloc,nx_bump,nx_set]<;>omega)|fail) only [YC,YZ,↓AW_seq,↓AW_reg,↓AW_blk,↓AW_cond,↓AW_skip,↓AW_ret,↓AW_exit,↓AW_drw,↓AWOps,↓AWDraw,AI.want,↓AI.step,↓Sound_box,AOp.ev,AX.ev,evs,List.map_cons,List.map_nil,argsFr,Fr.get,Fr.put,AV.cells,↓SeqQ_n,↓SeqQ_r,↓SeqQ_e,↓BlkQ_n,↓BlkQ_r,↓BlkQ_e,LoopQ_n,LoopQ_r,LoopQ_e,RngQ_n,RngQ_r,RngQ_e,RnsQ_n,RnsQ_r,RnsQ_e,undefA,undef,↓RetQ_r,↓RetQ_n,resA,resL,ARes.ev,↓reduceIte,Nat.reduceEqDiff,ldRow,↓cond_false,↓cond_true,cond_false,cond_true,Nat.add_zero,Nat.zero_add,Nat.reduceAdd,Nat.reduceMul,Nat.one_mul,Nat.mul_one,Nat.reduceLeDiff,List.getElem?_cons_zero,List.getElem?_cons_succ,Option.map_some,binSc,intSc,unSc,beq_self_eq_true,BEq.rfl,Bool.false_beq,Bool.true_beq,Bool.not_true,Bool.not_false,wrap_of,Int.toNat_natCast,List.not_mem_nil,false_implies,implies_true,true_and,and_true,and_self,List.nil_append,List.append_nil,List.cons_append,Value.oneCell',fillA,splice,rowsOf,rowsIn,List.take_succ_cons,List.take_zero,List.drop_succ_cons,List.drop_zero,List.drop_nil,List.take_nil,List.length_cons,List.length_nil,Nat.le_refl,AHeap.get_bump,AHeap.next_bump,AHeap.next_set,AHeap.next_alloc,AHeap.get_set_self,AHeap.get_set_ne,AHeap.get_alloc_self,AHeap.get_alloc_at,AHeap.get_alloc_ne,hc]),?_⟩
     have ho1:allLen 1 [[AV.sl .no (rI x.sizes[j])]]=true:=rfl
     simp (disch:=first|assumption|omega|(simp only [nx_alloc,nx_bump,nx_set]<;>omega)|fail) only [YC,YZ,↓AW_seq,↓AW_reg,↓AW_blk,↓AW_cond,↓AW_skip,↓AW_ret,↓AW_exit,↓AW_drw,↓AWOps,↓AWDraw,AI.want,↓AI.step,↓Sound_box,AOp.ev,AX.ev,evs,List.map_cons,List.map_nil,argsFr,Fr.get,Fr.put,AV.cells,↓SeqQ_n,↓SeqQ_r,↓SeqQ_e,↓BlkQ_n,↓BlkQ_r,↓BlkQ_e,LoopQ_n,LoopQ_r,LoopQ_e,RngQ_n,RngQ_r,RngQ_e,RnsQ_n,RnsQ_r,RnsQ_e,undefA,undef,↓RetQ_r,↓RetQ_n,resA,resL,ARes.ev,↓reduceIte,Nat.reduceEqDiff,ldRow,↓cond_false,↓cond_true,cond_false,cond_true,Nat.add_zero,Nat.zero_add,Nat.reduceAdd,Nat.reduceMul,Nat.one_mul,Nat.mul_one,Nat.reduceLeDiff,List.getElem?_cons_zero,List.getElem?_cons_succ,Option.map_some,binSc,intSc,unSc,beq_self_eq_true,BEq.rfl,Bool.false_beq,Bool.true_beq,Bool.not_true,Bool.not_false,wrap_of,Int.toNat_natCast,List.not_mem_nil,false_implies,implies_true,true_and,and_true,and_self,List.nil_append,List.append_nil,List.cons_append,Value.oneCell',fillA,splice,rowsOf,rowsIn,List.take_succ_cons,List.take_zero,List.drop_succ_cons,List.drop_zero,List.drop_nil,List.take_nil,List.length_cons,List.length_nil,Nat.le_refl,AHeap.get_bump,AHeap.next_bump,AHeap.next_set,AHeap.next_alloc,AHeap.get_set_self,AHeap.get_set_ne,AHeap.get_alloc_self,AHeap.get_alloc_at,AHeap.get_alloc_ne,hlj,ha1,hb1,hb2,hc,ht,ho1]
     rw [rII_snoc hj]
     exact ⟨_,hinv.next (k:=k'),GStep.fr (by simp [Fr.get])⟩
    ·intro s hinv
     have hc:=hinv.cell
     have hc1:=AHeap.lt hc
     simp (disch:=first|assumption|omega|(simp only [nx_alloc,nx_bump,nx_set]<;>omega)|fail) only [YC,YZ,↓AW_seq,↓AW_reg,↓AW_blk,↓AW_cond,↓AW_skip,↓AW_ret,↓AW_exit,↓AW_drw,↓AWOps,↓AWDraw,AI.want,↓AI.step,↓Sound_box,AOp.ev,AX.ev,evs,List.map_cons,List.map_nil,argsFr,Fr.get,Fr.put,AV.cells,↓SeqQ_n,↓SeqQ_r,↓SeqQ_e,↓BlkQ_n,↓BlkQ_r,↓BlkQ_e,LoopQ_n,LoopQ_r,LoopQ_e,RngQ_n,RngQ_r,RngQ_e,RnsQ_n,RnsQ_r,RnsQ_e,undefA,undef,↓RetQ_r,↓RetQ_n,resA,resL,ARes.ev,↓reduceIte,Nat.reduceEqDiff,ldRow,↓cond_false,↓cond_true,cond_false,cond_true,Nat.add_zero,Nat.zero_add,Nat.reduceAdd,Nat.reduceMul,Nat.one_mul,Nat.mul_one,Nat.reduceLeDiff,List.getElem?_cons_zero,List.getElem?_cons_succ,Option.map_some,binSc,intSc,unSc,beq_self_eq_true,BEq.rfl,Bool.false_beq,Bool.true_beq,Bool.not_true,Bool.not_false,wrap_of,Int.toNat_natCast,List.not_mem_nil,false_implies,implies_true,true_and,and_true,and_self,List.nil_append,List.append_nil,List.cons_append,Value.oneCell',fillA,splice,rowsOf,rowsIn,List.take_succ_cons,List.take_zero,List.drop_succ_cons,List.drop_zero,List.drop_nil,List.take_nil,List.length_cons,List.length_nil,Nat.le_refl,AHeap.get_bump,AHeap.next_bump,AHeap.next_set,AHeap.next_alloc,AHeap.get_set_self,AHeap.get_set_ne,AHeap.get_alloc_self,AHeap.get_alloc_at,AHeap.get_alloc_ne,c51_0,List.append_nil,hc]
     refine fin_keep ⟨hinv.ext.alloc,?_⟩
     rw [if_pos ⟨hm,by simp at d1;omega,by simp at d2;omega⟩]
     refine ⟨s.next,.own G.next,rfl,by have:=hinv.ext.next;omega,?_⟩
     rw [AHeap.get_alloc_self,List.take_length]
     rfl
def NoAr (H:AHeap) (a:AV):Prop:=a=.sc (.pointer none)∨∃ id,a=.ptr id 0∧H.get id=some (.cells [.sl .full [],.i 0,.sl .full [],.i 0] 117)
theorem NoAr.ext {H H':AHeap} {a:AV} (h:NoAr H a) (hx:AHeap.Ext H H'):NoAr H' a:=by
 rcases h with rfl|⟨id,rfl,h⟩
 ·exact .inl rfl
 ·exact .inr ⟨id,rfl,hx.get _ _ h⟩
theorem there_yes {H:AHeap} {id:Nat} {x:Shp} {tok:Tok} {nodes:AV} {most:Int} (h:H.get id=some (.cells (eAr x tok nodes most) 117)) (hl:1≤x.sizes.length):Sound Tryz.prog 60 [.ptr id 0] H (PureE H (.b true)):=by
 refine fn_sound hE cf60 (Nat.le_of_ble_eq_true rfl) ?_
 unfold eAr at h
 have d:decide ((x.sizes.length:Int) > 0)=true:=by simp;omega
 simp (disch:=first|assumption|omega|(simp only [nx_alloc,nx_bump,nx_set]<;>omega)|fail) only [YC,YZ,↓AW_seq,↓AW_reg,↓AW_blk,↓AW_cond,↓AW_skip,↓AW_ret,↓AW_exit,↓AW_drw,↓AWOps,↓AWDraw,AI.want,↓AI.step,↓Sound_box,AOp.ev,AX.ev,evs,List.map_cons,List.map_nil,argsFr,Fr.get,Fr.put,AV.cells,↓SeqQ_n,↓SeqQ_r,↓SeqQ_e,↓BlkQ_n,↓BlkQ_r,↓BlkQ_e,LoopQ_n,LoopQ_r,LoopQ_e,RngQ_n,RngQ_r,RngQ_e,RnsQ_n,RnsQ_r,RnsQ_e,undefA,undef,↓RetQ_r,↓RetQ_n,resA,resL,ARes.ev,↓reduceIte,Nat.reduceEqDiff,ldRow,↓cond_false,↓cond_true,cond_false,cond_true,Nat.add_zero,Nat.zero_add,Nat.reduceAdd,Nat.reduceMul,Nat.one_mul,Nat.mul_one,Nat.reduceLeDiff,List.getElem?_cons_zero,List.getElem?_cons_succ,Option.map_some,binSc,intSc,unSc,beq_self_eq_true,BEq.rfl,Bool.false_beq,Bool.true_beq,Bool.not_true,Bool.not_false,wrap_of,Int.toNat_natCast,List.not_mem_nil,false_implies,implies_true,true_and,and_true,and_self,List.nil_append,List.append_nil,List.cons_append,Value.oneCell',fillA,splice,rowsOf,rowsIn,List.take_succ_cons,List.take_zero,List.drop_succ_cons,List.drop_zero,List.drop_nil,List.take_nil,List.length_cons,List.length_nil,Nat.le_refl,AHeap.get_bump,AHeap.next_bump,AHeap.next_set,AHeap.next_alloc,AHeap.get_set_self,AHeap.get_set_ne,AHeap.get_alloc_self,AHeap.get_alloc_at,AHeap.get_alloc_ne,c60_0,Bool.true_bne,Bool.xor_false,h,List.length_map,d]
 exact fin_keep ⟨rfl,.refl _⟩
def ShapeQ (x:Shp) (H:AHeap) (r:AV) (H':AHeap):Prop:=AHeap.Ext H H'∧∃ t,r=.agg [.sl t (rII x.sizes),.i x.measures]
set_option maxHeartbeats 1000000 in
theorem shape_yes {H:AHeap} {id:Nat} {x:Shp} {tok:Tok} {nodes:AV} {most:Int} (h:H.get id=some (.cells (eAr x tok nodes most) 117)) (hm:shpMay x=true):Sound Tryz.prog 65 [.ptr id 0] H (ShapeQ x H):=by
 refine fn_sound hE cf65 (Nat.le_of_ble_eq_true rfl) ?_
 obtain ⟨b1,b2,b3,b4,b5⟩:=shpMay_bounds hm
 have hx:AHeap.Ext H (H.alloc (.cells [.sl .full [],.i 0] 37)):=(AHeap.Ext.refl H).alloc
 simp (disch:=first|assumption|omega|(simp only [nx_alloc,nx_bump,nx_set]<;>omega)|fail) only [YC,YZ,↓AW_seq,↓AW_reg,↓AW_blk,↓AW_cond,↓AW_skip,↓AW_ret,↓AW_exit,↓AW_drw,↓AWOps,↓AWDraw,AI.want,↓AI.step,↓Sound_box,AOp.ev,AX.ev,evs,List.map_cons,List.map_nil,argsFr,Fr.get,Fr.put,AV.cells,↓SeqQ_n,↓SeqQ_r,↓SeqQ_e,↓BlkQ_n,↓BlkQ_r,↓BlkQ_e,LoopQ_n,LoopQ_r,LoopQ_e,RngQ_n,RngQ_r,RngQ_e,RnsQ_n,RnsQ_r,RnsQ_e,undefA,undef,↓RetQ_r,↓RetQ_n,resA,resL,ARes.ev,↓reduceIte,Nat.reduceEqDiff,ldRow,↓cond_false,↓cond_true,cond_false,cond_true,Nat.add_zero,Nat.zero_add,Nat.reduceAdd,Nat.reduceMul,Nat.one_mul,Nat.mul_one,Nat.reduceLeDiff,List.getElem?_cons_zero,List.getElem?_cons_succ,Option.map_some,binSc,intSc,unSc,beq_self_eq_true,BEq.rfl,Bool.false_beq,Bool.true_beq,Bool.not_true,Bool.not_false,wrap_of,Int.toNat_natCast,List.not_mem_nil,false_implies,implies_true,true_and,and_true,and_self,List.nil_append,List.append_nil,List.cons_append,Value.oneCell',fillA,splice,rowsOf,rowsIn,List.take_succ_cons,List.take_zero,List.drop_succ_cons,List.drop_zero,List.drop_nil,List.take_nil,List.length_cons,List.length_nil,Nat.le_refl,AHeap.get_bump,AHeap.next_bump,AHeap.next_set,AHeap.next_alloc,AHeap.get_set_self,AHeap.get_set_ne,AHeap.get_alloc_self,AHeap.get_alloc_at,AHeap.get_alloc_ne,c65_0]
 refine CallK.use (there_yes (hx.get _ _ h) b1) ?_
 rintro r H1 ⟨rfl,hx'⟩
 have hg:=hx'.get _ _ (AHeap.get_alloc_self (H:=H) (o:=.cells [.sl .full [],.i 0] 37))
 have hl:=AHeap.lt hg
 have hx2:=hx.trans hx'
 have h1:=hx2.get _ _ h
 have hid:=AHeap.lt h
 have hn1:=hx2.next
 unfold eAr at h1
 simp (disch:=first|assumption|omega|(simp only [nx_alloc,nx_bump,nx_set]<;>omega)|fail) only [YC,YZ,↓AW_seq,↓AW_reg,↓AW_blk,↓AW_cond,↓AW_skip,↓AW_ret,↓AW_exit,↓AW_drw,↓AWOps,↓AWDraw,AI.want,↓AI.step,↓Sound_box,AOp.ev,AX.ev,evs,List.map_cons,List.map_nil,argsFr,Fr.get,Fr.put,AV.cells,↓SeqQ_n,↓SeqQ_r,↓SeqQ_e,↓BlkQ_n,↓BlkQ_r,↓BlkQ_e,LoopQ_n,LoopQ_r,LoopQ_e,RngQ_n,RngQ_r,RngQ_e,RnsQ_n,RnsQ_r,RnsQ_e,undefA,undef,↓RetQ_r,↓RetQ_n,resA,resL,ARes.ev,↓reduceIte,Nat.reduceEqDiff,ldRow,↓cond_false,↓cond_true,cond_false,cond_true,Nat.add_zero,Nat.zero_add,Nat.reduceAdd,Nat.reduceMul,Nat.one_mul,Nat.mul_one,Nat.reduceLeDiff,List.getElem?_cons_zero,List.getElem?_cons_succ,Option.map_some,binSc,intSc,unSc,beq_self_eq_true,BEq.rfl,Bool.false_beq,Bool.true_beq,Bool.not_true,Bool.not_false,wrap_of,Int.toNat_natCast,List.not_mem_nil,false_implies,implies_true,true_and,and_true,and_self,List.nil_append,List.append_nil,List.cons_append,Value.oneCell',fillA,splice,rowsOf,rowsIn,List.take_succ_cons,List.take_zero,List.drop_succ_cons,List.drop_zero,List.drop_nil,List.take_nil,List.length_cons,List.length_nil,Nat.le_refl,AHeap.get_bump,AHeap.next_bump,AHeap.next_set,AHeap.next_alloc,AHeap.get_set_self,AHeap.get_set_ne,AHeap.get_alloc_self,AHeap.get_alloc_at,AHeap.get_alloc_ne,c65_0,h1,List.length_map]
 refine AW_let fun G hG=>?_
 have hGn:G.next=H1.next+1:=by rw [hG];simp
 have hg0:G.get H1.next=some (.cells [.sl .full [],.i x.measures] 37):=by rw [hG];exact AHeap.get_set_self (by simp)
 have hGe:AHeap.Ext H1 G:=by rw [hG];exact (AHeap.Ext.refl H1).alloc.set (Nat.le_refl _)
 refine AW_rangeS (σ:=AHeap) (N:=x.sizes.length) (fun j s=>CopyAt H1 H1.next G.next j x.sizes x.measures s) (fun j s=>[(20,.sl tok (rII x.sizes)),(3,.ptr H1.next 0),(2,.ptr H.next 0)])
  (fun j s=>s) (by unfold maxLen;omega) (by decide) ((G.set H1.next (.cells [.sl (.own G.next) [],.i x.measures] 37)).alloc (.tok 0 57 1)) ?_ ?_ ?_ ?_
 ·refine ⟨by omega,by omega,by omega,?_,AHeap.get_alloc_self (H:=G.set _ _),(hGe.set (by omega)).alloc⟩
  rw [AHeap.get_alloc_ne (by simp;omega)]
  exact AHeap.get_set_self (by omega)
 ·exact (GStep.fr (F':=[(22,.i ((0:Nat):Int)),(21,.i x.sizes.length),(20,.sl tok (rII x.sizes)),(3,.ptr H1.next 0),(2,.ptr H.next 0)]) (by simp [Fr.get])).trans (GStep.tokCell H1.next 0 37 57 1 hg0 rfl)
 ·intro j s hj hinv
  have hgj:=rII_get hj
  have h0:(0:Int)≤j:=by omega
  have hlj:(rII (x.sizes.take j)).length=j:=by simp;omega
  have hl1:=(sizesMay_bounds (b5 _ (List.getElem_mem hj))).2.1
  have hc:=hinv.cell
  have ht:=hinv.tok
  have hc1:=AHeap.lt hc
  have ht1:=AHeap.lt ht
  have hne:=hinv.ne
  have hne':=Ne.symm hne
  simp (disch:=first|assumption|omega|(simp only [nx_alloc,nx_bump,nx_set]<;>omega)|fail) only [YC,YZ,↓AW_seq,↓AW_reg,↓AW_blk,↓AW_cond,↓AW_skip,↓AW_ret,↓AW_exit,↓AW_drw,↓AWOps,↓AWDraw,AI.want,↓AI.step,↓Sound_box,AOp.ev,AX.ev,evs,List.map_cons,List.map_nil,argsFr,Fr.get,Fr.put,AV.cells,↓SeqQ_n,↓SeqQ_r,↓SeqQ_e,↓BlkQ_n,↓BlkQ_r,↓BlkQ_e,LoopQ_n,LoopQ_r,LoopQ_e,RngQ_n,RngQ_r,RngQ_e,RnsQ_n,RnsQ_r,RnsQ_e,undefA,undef,↓RetQ_r,↓RetQ_n,resA,resL,ARes.ev,↓reduceIte,Nat.reduceEqDiff,ldRow,↓cond_false,↓cond_true,cond_false,cond_true,Nat.add_zero,Nat.zero_add,Nat.reduceAdd,Nat.reduceMul,Nat.one_mul,Nat.mul_one,Nat.reduceLeDiff,List.getElem?_cons_zero,List.getElem?_cons_succ,Option.map_some,binSc,intSc,unSc,beq_self_eq_true,BEq.rfl,Bool.false_beq,Bool.true_beq,Bool.not_true,Bool.not_false,wrap_of,Int.toNat_natCast,List.not_mem_nil,false_implies,implies_true,true_and,and_true,and_self,List.nil_append,List.append_nil,List.cons_append,Value.oneCell',fillA,splice,rowsOf,rowsIn,List.take_succ_cons,List.take_zero,List.drop_succ_cons,List.drop_zero,List.drop_nil,List.take_nil,List.length_cons,List.length_nil,Nat.le_refl,AHeap.get_bump,AHeap.next_bump,AHeap.next_set,AHeap.next_alloc,AHeap.get_set_self,AHeap.get_set_ne,AHeap.get_alloc_self,AHeap.get_alloc_at,AHeap.get_alloc_ne,c65_0,hgj,h0]
  simp (disch:=first|assumption|omega|(simp only [nx_alloc,nx_bump,nx_set]<;>omega)|fail) only [YC,YZ,↓AW_seq,↓AW_reg,↓AW_blk,↓AW_cond,↓AW_skip,↓AW_ret,↓AW_exit,↓AW_drw,↓AWOps,↓AWDraw,AI.want,↓AI.step,↓Sound_box,AOp.ev,AX.ev,evs,List.map_cons,List.map_nil,argsFr,Fr.get,Fr.put,AV.cells,↓SeqQ_n,↓SeqQ_r,↓SeqQ_e,↓BlkQ_n,↓BlkQ_r,↓BlkQ_e,LoopQ_n,LoopQ_r,LoopQ_e,RngQ_n,RngQ_r,RngQ_e,RnsQ_n,RnsQ_r,RnsQ_e,undefA,undef,↓RetQ_r,↓RetQ_n,resA,resL,ARes.ev,↓reduceIte,Nat.reduceEqDiff,ldRow,↓cond_false,↓cond_true,cond_false,cond_true,Nat.add_zero,Nat.zero_add,Nat.reduceAdd,Nat.reduceMul,Nat.one_mul,Nat.mul_one,Nat.reduceLeDiff,List.getElem?_cons_zero,List.getElem?_cons_succ,Option.map_some,binSc,intSc,unSc,beq_self_eq_true,BEq.rfl,Bool.false_beq,Bool.true_beq,Bool.not_true,Bool.not_false,wrap_of,Int.toNat_natCast,List.not_mem_nil,false_implies,implies_true,true_and,and_true,and_self,List.nil_append,List.append_nil,List.cons_append,Value.oneCell',fillA,splice,rowsOf,rowsIn,List.take_succ_cons,List.take_zero,List.drop_succ_cons,List.drop_zero,List.drop_nil,List.take_nil,List.length_cons,List.length_nil,Nat.le_refl,AHeap.get_bump,AHeap.next_bump,AHeap.next_set,AHeap.next_alloc,AHeap.get_set_self,AHeap.get_set_ne,AHeap.get_alloc_self,AHeap.get_alloc_at,AHeap.get_alloc_ne,c65_0,hc]
  refine CallK.use (clone_sound .no x.sizes[j] _ (by omega)) ?_
  rintro r H' ⟨rfl,k',rfl⟩
  have ha1:=allLen_rII (x.sizes.take j)
  have hb1:j+1≤maxLen:=by unfold maxLen;omega
  have hb2:(j+1) * 24≤140737488355328:=by omega
  refine ⟨stable_one rfl rfl (by simp (disch:=first|assumption|omega|(simp only [nx_alloc,nx_bump,nx_set]<;>omega)|fail) only [YC,YZ,↓AW_seq,↓AW_reg,↓AW_blk,↓AW_cond,↓AW_skip,↓AW_ret,↓AW_exit,↓AW_drw,↓AWOps,↓AWDraw,AI.want,↓AI.step,↓Sound_box,AOp.ev,AX.ev,evs,List.map_cons,List.map_nil,argsFr,Fr.get,Fr.put,AV.cells,↓SeqQ_n,↓SeqQ_r,↓SeqQ_e,↓BlkQ_n,↓BlkQ_r,↓BlkQ_e,LoopQ_n,LoopQ_r,LoopQ_e,RngQ_n,RngQ_r,RngQ_e,RnsQ_n,RnsQ_r,RnsQ_e,undefA,undef,↓RetQ_r,↓RetQ_n,resA,resL,ARes.ev,↓reduceIte,Nat.reduceEqDiff,ldRow,↓cond_false,↓cond_true,cond_false,cond_true,Nat.add_zero,Nat.zero_add,Nat.reduceAdd,Nat.reduceMul,Nat.one_mul,Nat.mul_one,Nat.reduceLeDiff,List.getElem?_cons_zero,List.getElem?_cons_succ,Option.map_some,binSc,intSc,unSc,beq_self_eq_true,BEq.rfl,Bool.false_beq,Bool.true_beq,Bool.not_true,Bool.not_false,wrap_of,Int.toNat_natCast,List.not_mem_nil,false_implies,implies_true,true_and,and_true,and_self,List.nil_append,List.append_nil,List.cons_append,Value.oneCell',fillA,splice,rowsOf,rowsIn,List.take_succ_cons,List.take_zero,List.drop_succ_cons,List.drop_zero,List.drop_nil,List.take_nil,List.length_cons,List.length_nil,Nat.le_refl,AHeap.get_bump,AHeap.next_bump,AHeap.next_set,AHeap.next_alloc,AHeap.get_set_self,AHeap.get_set_ne,AHeap.get_alloc_self,AHeap.get_alloc_at,AHeap.get_alloc_ne,hc]),?_⟩
  have ho1:allLen 1 [[AV.sl .no (rI x.sizes[j])]]=true:=rfl
  simp (disch:=first|assumption|omega|(simp only [nx_alloc,nx_bump,nx_set]<;>omega)|fail) only [YC,YZ,↓AW_seq,↓AW_reg,↓AW_blk,↓AW_cond,↓AW_skip,↓AW_ret,↓AW_exit,↓AW_drw,↓AWOps,↓AWDraw,AI.want,↓AI.step,↓Sound_box,AOp.ev,AX.ev,evs,List.map_cons,List.map_nil,argsFr,Fr.get,Fr.put,AV.cells,↓SeqQ_n,↓SeqQ_r,↓SeqQ_e,↓BlkQ_n,↓BlkQ_r,↓BlkQ_e,LoopQ_n,LoopQ_r,LoopQ_e,RngQ_n,RngQ_r,RngQ_e,RnsQ_n,RnsQ_r,RnsQ_e,undefA,undef,↓RetQ_r,↓RetQ_n,resA,resL,ARes.ev,↓reduceIte,Nat.reduceEqDiff,ldRow,↓cond_false,↓cond_true,cond_false,cond_true,Nat.add_zero,Nat.zero_add,Nat.reduceAdd,Nat.reduceMul,Nat.one_mul,Nat.mul_one,Nat.reduceLeDiff,List.getElem?_cons_zero,List.getElem?_cons_succ,Option.map_some,binSc,intSc,unSc,beq_self_eq_true,BEq.rfl,Bool.false_beq,Bool.true_beq,Bool.not_true,Bool.not_false,wrap_of,Int.toNat_natCast,List.not_mem_nil,false_implies,implies_true,true_and,and_true,and_self,List.nil_append,List.append_nil,List.cons_append,Value.oneCell',fillA,splice,rowsOf,rowsIn,List.take_succ_cons,List.take_zero,List.drop_succ_cons,List.drop_zero,List.drop_nil,List.take_nil,List.length_cons,List.length_nil,Nat.le_refl,AHeap.get_bump,AHeap.next_bump,AHeap.next_set,AHeap.next_alloc,AHeap.get_set_self,AHeap.get_set_ne,AHeap.get_alloc_self,AHeap.get_alloc_at,AHeap.get_alloc_ne,hlj,ha1,hb1,hb2,hc,ht,ho1]
  rw [rII_snoc hj]
  exact ⟨_,hinv.next (k:=k'),GStep.fr (by simp [Fr.get])⟩
 ·intro s hinv
  have hc:=hinv.cell
  have hc1:=AHeap.lt hc
  have hgs:=hinv.ext.get _ _ hg
  have hls:=AHeap.lt hgs
  have hx3:=hx2.trans hinv.ext
  simp (disch:=first|assumption|omega|(simp only [nx_alloc,nx_bump,nx_set]<;>omega)|fail) only [YC,YZ,↓AW_seq,↓AW_reg,↓AW_blk,↓AW_cond,↓AW_skip,↓AW_ret,↓AW_exit,↓AW_drw,↓AWOps,↓AWDraw,AI.want,↓AI.step,↓Sound_box,AOp.ev,AX.ev,evs,List.map_cons,List.map_nil,argsFr,Fr.get,Fr.put,AV.cells,↓SeqQ_n,↓SeqQ_r,↓SeqQ_e,↓BlkQ_n,↓BlkQ_r,↓BlkQ_e,LoopQ_n,LoopQ_r,LoopQ_e,RngQ_n,RngQ_r,RngQ_e,RnsQ_n,RnsQ_r,RnsQ_e,undefA,undef,↓RetQ_r,↓RetQ_n,resA,resL,ARes.ev,↓reduceIte,Nat.reduceEqDiff,ldRow,↓cond_false,↓cond_true,cond_false,cond_true,Nat.add_zero,Nat.zero_add,Nat.reduceAdd,Nat.reduceMul,Nat.one_mul,Nat.mul_one,Nat.reduceLeDiff,List.getElem?_cons_zero,List.getElem?_cons_succ,Option.map_some,binSc,intSc,unSc,beq_self_eq_true,BEq.rfl,Bool.false_beq,Bool.true_beq,Bool.not_true,Bool.not_false,wrap_of,Int.toNat_natCast,List.not_mem_nil,false_implies,implies_true,true_and,and_true,and_self,List.nil_append,List.append_nil,List.cons_append,Value.oneCell',fillA,splice,rowsOf,rowsIn,List.take_succ_cons,List.take_zero,List.drop_succ_cons,List.drop_zero,List.drop_nil,List.take_nil,List.length_cons,List.length_nil,Nat.le_refl,AHeap.get_bump,AHeap.next_bump,AHeap.next_set,AHeap.next_alloc,AHeap.get_set_self,AHeap.get_set_ne,AHeap.get_alloc_self,AHeap.get_alloc_at,AHeap.get_alloc_ne,c65_0,hc,hgs]
  refine fin_keep ⟨hx3.set (Nat.le_refl _),.own G.next,?_⟩
  rw [List.take_length]
end Go.Proofs.YtaapiigfmdhobaaGreat
