/- Texts of the walk. -/
import Derived.WalkSpells
import Derived.WalkLawsBesides
import Derived.Deep.AppendLies
import Derived.Lib.Hide
import Derived.Deep.LoopGhost
import Derived.BigQuiet
import Derived.OrdersIn
import Derived.RangeFuncCalls
namespace Go.Proofs.YtfjjpndoeppbhaaGreatDoor
theorem an7{a b:Prop}(x:a)(y:b):a∧b:=⟨x,y⟩
theorem ttr{g:Prop}(h:g):True→g:=fun _=>h
theorem tv:True:=trivial
set_option linter.defProp false
def zaa:=@Option.some.injEq
def zab:=@List.getElem?_eq_getElem
def zac:=@List.length_append
def zad:=@Nat.le_refl
def zae:=@Iff.rfl
def zaf:=@Prod.mk.injEq
def zah:=@List.getElem?_eq_some_iff
def zai:=@List.getD_eq_getElem?_getD
def zaj:=@List.length_take
def zak:=@List.mem_cons_self
def zal:=@Array.getElem?_eq_getElem
def zam:=@List.length_map
def zan:=@List.append_assoc
def zao:=@Array.getElem?_eq_some_iff
def zaq:=@List.length_drop
def zar:=@List.mem_cons_of_mem
def zas:=@List.take_succ_eq_append_getElem
def zat:=@Nat.zero_le
def zau:=@List.getElem_mem
def zav:=@List.take_of_length_le
def zaw:=@List.mem_append
def zax:=@Nat.zero_add
def zay:=@List.mem_cons
def zaz:=@List.take_length
def zaA:=@List.eq_nil_of_length_eq_zero
def zaB:=@List.mem_of_mem_take
def zaC:=@List.getElem?_append_left
def zaD:=@List.map_cons
def zaE:=@List.getElem?_append_right
def zaF:=@Nat.mod_eq_of_lt
def zaG:=@Nat.le_trans
def zaH:=@List.mem_map
def zaI:=@List.append_nil
def zaJ:=@List.mem_append_left
def zaK:=@List.getElem_of_mem
def zaL:=@Int.eq_ofNat_of_zero_le
def zaM:=@Nat.lt_of_lt_of_le
def zaN:=@List.mem_of_getElem?
def zaO:=@List.getElem?_map
def zaP:=@Nat.min_eq_left
def zaQ:=@Array.getElem?_setIfInBounds
def zaR:=@List.mem_append_right
def zaS:=@List.take_append_drop
def zaT:=@Nat.le_of_ble_eq_true
def zaU:=@List.nodup_cons
def zaV:=@Bool.and_eq_true
def zaW:=@List.mem_of_mem_drop
def zaX:=@Nat.add_mul
def zaY:=@List.mem_replicate
def zaZ:=@List.length_replicate
def za1:=@List.take_left'
def za3:=@Int.tdiv_eq_ediv_of_nonneg
def za4:=@BitVec.toNat_ofNat
def za5:=@List.drop_drop
def za6:=@List.all_eq_true
def za7:=@Nat.mul_comm
def za9:=@Array.ext'
def zba:=@Int.toNat_of_nonneg
def zbb:=@List.mem_range
def zbc:=@List.getElem?_take
def zbd:=@List.getElem?_drop
def zbe:=@Nat.mul_le_mul_right
def zbf:=@Nat.zero_mul
def zbg:=@List.drop_eq_nil_of_le
def zbh:=@Nat.lt_succ_iff_lt_or_eq
def zbi:=@List.drop_left'
def zbj:=@Nat.lt_of_le_of_lt
def zbk:=@Nat.testBit_two_pow_mul_add
def zbl:=@List.nodup_append
def zbm:=@List.length_pos_iff
def zbn:=@Ne.symm
def zbo:=@List.contains_iff_mem
def zbp:=@List.take_append_of_le_length
def zbq:=@List.mem_flatten
def zbr:=@List.mem_singleton
def zbs:=@Nat.add_assoc
def zbt:=@Nat.pow_le_pow_right
def zbu:=@List.flatMap_cons
def zbv:=@List.mem_filter
def zbw:=@BitVec.getLsbD_ushiftRight
def zbx:=@Int.tmod_eq_emod_of_nonneg
def zby:=@List.drop_zero
def zbz:=@BitVec.toNat_ushiftRight
def zbA:=@List.size_toArray
def zbB:=@List.countP_cons
def zbC:=@Nat.min_eq_right
def zbD:=@BitVec.shiftRight_add
def zbE:=@List.perm_append_comm
def zbF:=@List.getElem?_set_ne
def zbG:=@Nat.mod_lt
def zbH:=@Nat.shiftRight_eq_div_pow
def zbI:=@List.mem_or_eq_of_mem_set
def zbJ:=@Nat.mul_one
def zbK:=@Nat.lt_or_ge
def zbL:=@Array.all_eq_true_iff_forall_mem
def zbM:=@Nat.div_eq_of_lt
def zbN:=@Nat.add_comm
def zbO:=@List.not_mem_nil
def zbP:=@Array.toList_append
def zbQ:=@Bool.eq_iff_iff
def zbR:=@List.eq_nil_iff_forall_not_mem
def zbS:=@List.mapM_cons
def zbT:=@List.getElem?_eq_none
def zbU:=@Array.getElem?_modify
def zbV:=@Classical.choose_spec
def zbW:=@Nat.le_add_right
def zbX:=@BitVec.xor_assoc
def zbY:=@Int.fdiv_eq_ediv_of_nonneg
def zbZ:=@List.flatMap_append
def zb0:=@Nat.div_add_mod
def zb1:=@List.map_append
def zb2:=@Nat.testBit_and
def zb3:=@Option.isSome_iff_exists
def zb4:=@List.map_map
def zb5:=@Nat.add_sub_cancel
def zb6:=@Bool.false_eq_true
def zb7:=@List.nodup_nil
def zb8:=@Nat.mod_two_eq_one_iff_testBit_zero
def zb9:=@Classical.axiomOfChoice
def zca:=@Nat.add_sub_cancel_left
def zcb:=@List.getElem?_replicate
def zcc:=@List.length_eq_zero_iff
def zcd:=@List.ext_getElem?
def zce:=@List.countP_congr
def zcf:=@Option.mem_toList
def zcg:=@List.foldl_append
def zch:=@ByteArray.data_extract
def zci:=@Nat.testBit_lt_two_pow
def zcj:=@List.set_eq_take_append_cons_drop
def zck:=@List.Perm.append_right
def zcl:=@List.take_add
def zcm:=@ByteArray.ext
def zcn:=@List.prefix_refl
def zco:=@Array.mem_of_getElem?
def zcp:=@Nat.div_lt_iff_lt_mul
def zcq:=@BitVec.eq_of_toNat_eq
def zcr:=@List.replicate_append_replicate
def zcs:=@Array.getElem_of_mem
def zct:=@Bool.or_eq_false_iff
def zcu:=@Nat.eq_of_testBit_eq
def zcv:=@Nat.pow_lt_pow_right
def zcw:=@Nat.mul_le_mul_left
def zcx:=@Array.getElem?_push
def zcy:=@List.map_congr_left
def zcz:=@List.filter_eq_self
def zcA:=@List.drop_take
def zcB:=@Nat.and_one_is_mod
def zcC:=@List.prefix_append
def zcD:=@Nat.mul_assoc
def zcE:=@List.map_take
def zcF:=@Nat.le_succ_of_le
def zcG:=@Bool.not_eq_true'
set_option linter.defProp false
set_option maxHeartbeats 64000000
theorem Xa {p:Prop} (h:p:=by omega):p:=h
theorem Xb {p:Prop} (h:p:=by decide):p:=h
theorem Xc {p:Prop} (h:p:=by simp):p:=h
theorem Xf {p:Prop} (h:p:=by simp;omega):p:=h
theorem Xg {p:Prop} (h:p:=by kernel_rfl):p:=h
set_option linter.unusedSimpArgs false
set_option linter.unusedVariables false
open Go.RowKit
theorem add_block (a:Addr) (n:Nat):(a.add n).block=a.block:=by unfold Addr.add;split<;>rfl
theorem add_add (a:Addr) (i j:Nat):(a.add i).add j=a.add (i+j):=by
 unfold Addr.add
 by_cases hi:i=0<;>by_cases hj:j=0<;>simp[hi,hj,zbs]
section
variable {S S':Nat->Prop} {a b c w w':World}
end
section
variable {w w':World} {g:Nat} {t:TypeId} {cs:List Value}
end
def Rd (w:World) (F:Nat->Prop) (size:Nat) (A:Option Addr) (n:Nat) (xs:List Value):Prop :=
 xs.length=n * size/\(0<n->∃ad,A=some ad/\F ad.block/\∀j u,xs[j]?=some u->w.cell? (ad.add j)=some u)
section
variable {w w':World} {F F':Nat->Prop} {size n:Nat} {A:Option Addr} {xs:List Value}
theorem Rd.nil:Rd w F size A 0 []:=⟨Xc,fun h=>absurd h Xa⟩
theorem Rd.lit (h:Rd w F size A n xs) (hn:0<n) (hs:0<size):∃b o,A=some ⟨b,o,none⟩/\F b/\∀j u,xs[j]?=some u->w.cell? ⟨b,o+j,none⟩=some u:=by
 obtain⟨⟨b,o,sp⟩,e,hb,hc⟩:=h.2 hn
 have hpos:0<xs.length:=by rw[h.1];exact Nat.mul_pos hn hs
 have h0:=hc 0 _ (zab hpos)
 have hsp:sp=none:=by
  cases sp with
  | none=>rfl
  | some x =>
   simp only[Addr.add,if_true,World.cell?]at h0
   split at h0<;>simp at h0
 subst hsp
 refine⟨b,o,e,hb,fun j u hu=>?_⟩
 have:=hc j u hu
 unfold Addr.add at this
 split at this
 ·rename_i hj;subst hj;exact this
 ·exact this
end
section
variable {P:Program} (w:World)
end
def ints (l:List Int):List Value:=l.map (.int .i64)
structure KpB (n:Nat) (bs:Nat->Prop) (W W':World):Prop where
 size:W.heap.size<=W'.heap.size
 d:W'.heap[n]?=W.heap[n]?
 l:W'.heap[n+1]?=W.heap[n+1]?
 b:∀b,bs b->W'.heap[b]?=W.heap[b]?
structure Mut (bs:Nat->Prop) (W W':World):Prop where
 os:W'.os=W.os
 tape:W'.tape=W.tape
 output:W'.output=W.output
 size:W'.heap.size=W.heap.size
 other:∀b,¬bs b->W'.heap[b]?=W.heap[b]?
 nd:∀b,bs b->W.heap[b]?≠some (.deferred (some []))
def SeqX (P:Program) (f:Nat) (lb:Array Value) (us:List (Array Value)) (bs:Nat->Prop) (w:World):Prop :=
 ∃K:Nat->World->Prop,(∀k W W',K k W->(∀b,bs b->W'.heap[b]?=W.heap[b]?)->K k W')/\K 0 w /\
 ∀(n l:Nat) (J:Nat->World->Prop) (Jx:World->Prop) (W:World),w.heap.size<=W.heap.size->K 0 W ->
  (∀k W1 q,J k W1->J k (W1.drewN q))->(∀W1 q,Jx W1->Jx (W1.drewN q))->(∀k W1 W2,J k W1->Mut bs W1 W2->J k W2) ->
  (∀k u W1,J k W1->us[k]?=some u->K k W1->YieldAt Fence.wide n P l u W1 fun e W' =>
   (e=.returned (.bool true)/\J (k+1) W'/\∀b,bs b->W'.heap[b]?=W1.heap[b]?)\/(e=.returned (.bool false)/\Jx W')) ->
  J 0 W->CallsIn Fence.wide (n+1) P f (#[.func (.yield l) #[] #[]]++lb) W fun e W'=>(∃v,e=.returned v)/\(J us.length W'\/Jx W')
theorem ZxX {P:Program} {gO:Operand} {ps:Array Tmp} {assign body:Code} {Q:Exit->Act->World->Prop} {a:Act} {w:World} {m gf:Nat} {lb:Array Value}
  (hg:a.eval gO=.func (.func gf) #[] lb) (eg:∀args w,(callFunc gf args).run P w=.ok (.enter gf args) w) {us:List (Array Value)} {bs:Nat->Prop} (hseq:SeqX P gf lb us bs w)
  (hbs:∀b,bs b->b<w.heap.size) (hps:∀(k:Nat) u,us[k]?=some u->u.size=ps.size) (I:Nat->World->Prop) (Ir:World->Prop) (A:Nat->Act->World->Prop)
  (h0:∀r,I 0 ((w.alloc (.deferred (some []))).alloc (.loop r)))
  (mI:∀k W W',I k W->Mut bs W W'->I k W') (qI:∀k W q,I k W->I k (W.drewN q)) (qR:∀W q,Ir W->Ir (W.drewN q))
  (lI:∀k W r r',I k W->W.heap[w.heap.size+1]?=some (.loop r)->I k (W.putObj (w.heap.size+1) (.loop r'))) (lR:∀W r r',Ir W->W.heap[w.heap.size+1]?=some (.loop r)->Ir (W.putObj (w.heap.size+1) (.loop r')))
  (lA:∀k a' W r r',A k a' W->W.heap[w.heap.size+1]?=some (.loop r)->A k a' (W.putObj (w.heap.size+1) (.loop r')))
  (hassign:∀k u W,I k W->us[k]?=some u->assign.wpIn (Fence.wide.inRound (w.heap.size+1)) m P (Exit.then (fun a' W'=>A k a' W'/\KpB w.heap.size bs W W') (fun _ _ _=>False))
   { tmps:=(ps.zip u).foldl (fun t (p,v)=>t.setIfInBounds p v) a.tmps,defers:=[] } W)
  (hbody:∀k a' W,A k a' W->k<us.length->body.wpIn (Fence.wide.inRound (w.heap.size+1)) m P (fun e _ W2=>match e with
   | .normal=>I (k+1) W2/\KpB w.heap.size bs W W2
   | .ret=>Ir W2/\KpB w.heap.size bs W W2
   | _=>False) a' W)
  (hdone:∀W,I us.length W->W.heap[w.heap.size]?=some (.deferred (some []))->Q .normal { a with defers:={ target:=.collected w.heap.size,args:=#[] } :: a.defers } W)
  (hstop:∀W,Ir W->W.heap[w.heap.size]?=some (.deferred (some []))->Q .ret { a with defers:={ target:=.collected w.heap.size,args:=#[] } :: a.defers } W) :
  (Code.rangeFunc gO ps assign body).wpIn Fence.wide (m+2) P Q a w:=by
 obtain⟨K,hKs,hK0,hseq⟩:=hseq
 refine wpIn_rangeFunc ?_
 intro fn hfn
 obtain⟨rec,hrec⟩:∃rec:LoopState->Option Code->Loop,rec=fun st pe=>{ state:=st,pending:=pe,fn,tmps:=a.tmps,params:=ps,assign,body,defers:=w.heap.size }:=⟨_,rfl⟩
 obtain⟨W1,hW1⟩:∃W1,(w.alloc (.deferred (some []))).alloc (.loop (rec .ready none))=W1:=⟨_,rfl⟩
 have hL1:W1.heap[w.heap.size+1]?=some (.loop (rec .ready none)):=by
  rw[<- hW1];have:=World.alloc_heap_new (w.alloc (.deferred (some []))) (.loop (rec .ready none));rwa [World.size_alloc]at this
 have hK1:W1.heap[w.heap.size]?=some (.deferred (some [])):=by
  rw[<- hW1];exact(Below.heap_alloc _ _ _ Xc).trans (World.alloc_heap_new w _)
 have hI1:I 0 W1:=by rw[<- hW1];exact h0 _
 have hb1:∀b,bs b->W1.heap[b]?=w.heap[b]?:=fun b hb=>by
  have:=hbs b hb
  rw[<- hW1]
  exact(Below.heap_alloc _ _ _ Xf).trans (Below.heap_alloc _ _ _ this)
 refine⟨w.heap.size+1,[{ target:=.collected w.heap.size,args:=#[] }],W1,{ target:=.fn (.func gf) lb,args:=#[.func (.yield (w.heap.size+1)) #[] #[]] },W1,gf,
  #[.func (.yield (w.heap.size+1)) #[] #[]]++lb,W1,?_,?_,fun _ _=>trivial,?_,(fun h=>by cases h),?_⟩
 ·rw[<- hW1,hrec];exact run_enterLoop_outer _ _ _ _ _
 ·simp only[resolve,hg]
  simp[go_sem]
 ·simp[invoke,go_sem,eg]
 ·have hlt1:w.heap.size+1<W1.heap.size:=(zao.1 hL1).1
  refine(hseq m (w.heap.size+1)
   (fun k W=>I k W/\W.heap[w.heap.size+1]?=some (.loop (rec .ready none))/\W.heap[w.heap.size]?=some (.deferred (some [])))
   (fun W=>Ir W/\W.heap[w.heap.size+1]?=some (.loop (rec .done (some .ret)))/\W.heap[w.heap.size]?=some (.deferred (some [])))
   W1 Xa (hKs 0 w W1 hK0 hb1) (fun k W2 q h=>⟨qI k W2 q h.1,h.2.1,h.2.2⟩) (fun W2 q h=>⟨qR W2 q h.1,h.2.1,h.2.2⟩)
   (fun k W2 W3 h hM=>⟨mI k W2 W3 h.1 hM,(hM.other _ fun e=>by have:=hbs _ e;omega).trans h.2.1,(hM.other _ fun e=>by have:=hbs _ e;omega).trans h.2.2⟩) ?_ ⟨hI1,hL1,hK1⟩).mono ?_
  ·-- one round
   rintro k u W ⟨hi,hl,hk⟩ hu _
   have hy:=run_yield (P:=P) (args:=u) hl (by rw[hrec];exact hps k u hu)
   rw[hrec]at hy
   have hku:k<us.length:=(zah.1 hu).1
   refine⟨fn,_,assign,body,hy,roundIn_of_wpIn hfn (wpIn_mono (hassign k u W hi hu) ?_)⟩
   clear hy
   intro e a' Wa hp
   cases e with
   | normal =>
    obtain⟨ha,hka⟩:=hp
    have hla:=hka.l.trans hl
    have hda:=hka.d.trans hk
    have hlt:w.heap.size+1<Wa.heap.size:=(zao.1 hla).1
    refine⟨_,run_beginRound hla (by rw[hrec]),?_⟩
    have hl2:(Wa.putObj (w.heap.size+1) (.loop { rec .ready none with state:=.busy })).heap[w.heap.size+1]?=some (.loop { rec .ready none with state:=.busy }):=World.putObj_heap_same hlt
    have hd2:(Wa.putObj (w.heap.size+1) (.loop { rec .ready none with state:=.busy })).heap[w.heap.size]?=some (.deferred (some [])):=(World.putObj_heap_other Xa).trans hda
    have hb2:∀b,bs b->(Wa.putObj (w.heap.size+1) (.loop { rec .ready none with state:=.busy })).heap[b]?=W.heap[b]?:=fun b hb=>by
     have:=hbs b hb
     exact(World.putObj_heap_other Xa).trans (hka.b b hb)
    refine wpIn_mono (hbody k a' _ (lA k a' Wa _ _ ha hla) hku) ?_
    have fin:∀(jump:Option Code) (W3:World),KpB w.heap.size bs (Wa.putObj (w.heap.size+1) (.loop { rec .ready none with state:=.busy })) W3 ->
      (Instr.endRound (w.heap.size+1) jump).run P W3=.ok (.bool jump.isNone) (W3.putObj (w.heap.size+1) (.loop (rec (if jump.isNone then .ready else .done) jump))) /\
      W3.heap[w.heap.size+1]?=some (.loop { rec .ready none with state:=.busy }) /\
      (W3.putObj (w.heap.size+1) (.loop (rec (if jump.isNone then .ready else .done) jump))).heap[w.heap.size+1]?=some (.loop (rec (if jump.isNone then .ready else .done) jump)) /\
      (W3.putObj (w.heap.size+1) (.loop (rec (if jump.isNone then .ready else .done) jump))).heap[w.heap.size]?=some (.deferred (some [])) /\
      ∀b,bs b->(W3.putObj (w.heap.size+1) (.loop (rec (if jump.isNone then .ready else .done) jump))).heap[b]?=W.heap[b]?:=fun jump W3 hk3=>by
     have hl3:=hk3.l.trans hl2
     have:=run_endRound (P:=P) jump hl3
     rw[hrec]at this ⊢
     refine⟨this,by rw[hrec]at hl3;exact hl3,World.putObj_heap_same (zao.1 hl3).1,(World.putObj_heap_other Xa).trans (hk3.d.trans hd2),fun b hb=>?_⟩
     have:=hbs b hb
     exact(World.putObj_heap_other Xa).trans ((hk3.b b hb).trans (by rw[<- hb2 b hb,hrec]))
    rintro e a3 W3 hp
    cases e with
    | normal =>
     obtain⟨hi3,hk3⟩:=hp
     obtain⟨hr,hl3,hl4,hd4,hb4⟩:=fin none W3 hk3
     exact⟨_,_,hr,.inl ⟨rfl,⟨lI _ _ _ _ hi3 hl3,hl4,hd4⟩,hb4⟩⟩
    | ret =>
     obtain⟨hi3,hk3⟩:=hp
     obtain⟨hr,hl3,hl4,hd4,hb4⟩:=fin (some .ret) W3 hk3
     exact⟨_,_,hr,.inr ⟨rfl,lR _ _ _ hi3 hl3,hl4,hd4⟩⟩
    | _=>exact hp.elim
   | _=>exact hp.elim
  ·-- behind the iterator
   rintro e W2 ⟨⟨v,rfl⟩,(⟨hi,hl,hk⟩|⟨hi,hl,hk⟩)⟩
   ·exact⟨none,_,by have:=run_endLoop (P:=P) hl (by rw[hrec];simp);rw[hrec]at this;exact this,hdone _ (lI _ _ _ _ hi hl) ((World.putObj_heap_other Xa).trans hk)⟩
   ·exact⟨some .ret,_,by have:=run_endLoop (P:=P) hl (by rw[hrec];simp);rw[hrec]at this;exact this,wpIn_ret (hstop _ (lR _ _ _ hi hl) ((World.putObj_heap_other Xa).trans hk))⟩
theorem Oper.Zyr {P:Program} {o:Oper} {a:Act} {w:World} {K:Act->World->Prop} {Q:Exit->Act->World->Prop} {F:Fence} (hF:F=Fence.wide\/∃l,F=Fence.wide.inRound l) (m:Nat) (hd:F.round=none\/∀c,o.op≠.defer c) (h:o.wp P a w K Q):o.wpIn F m P a w K Q:=by
 have hfn:∀f,F.fn f:=by rcases hF with rfl|⟨l,rfl⟩<;>exact fun _=>trivial
 have hdp:F.depth.isSome=true->1<=m:=by rcases hF with rfl|⟨l,rfl⟩<;>(intro h;cases h)
 have hsem:o.semAt F.round a.eval=execOp a.eval o:=by
  rcases hd with hd|hd
  ·rw[hd];rfl
  ·exact Oper.semAt_eq _ _ _ hd
 refine⟨fun f _=>hfn f,?_⟩
 rw[hsem]
 unfold Oper.wp at h
 generalize (execOp a.eval o).run P w=r at h
 cases r with
 | halt x w'=>cases x<;>first|exact h|exact h.elim
 | ok x w' =>
  cases x with
  | value v=>exact h
  | skip=>exact h
  | defer d=>exact h
  | enter f args =>
   refine⟨hdp,?_⟩
   have h2:Calls P f args w' _:=h
   rcases hF with rfl|⟨l,rfl⟩
   ·exact callsIn_wide.2 h2
   ·exact CallsIn.inRound l (callsIn_wide.2 h2)
  | row row args =>
   refine⟨hdp,fun c cs _=>?_⟩
   have h2:Rows P row args w' _:=h
   obtain⟨v,w2,q1,q2⟩:=h2 c cs
   refine⟨v,w2,q1,?_⟩
   rcases hF with rfl|⟨l,rfl⟩
   ·exact stepsIn_wide.2 q2
   ·exact stepsIn_wide.2 q2
  | _=>exact h.elim
def Zxx (P:Program) (ops:Array Oper) (Q:Exit->Act->World->Prop):List Oper->Act->World->Prop
 | [],a,w=>Q .normal a w
 | o :: rest,a,w=>if Region.wanted o (yielded ops a.tmps) then o.wp P a w (Zxx P ops Q rest) Q else Zxx P ops Q rest (a.put o.dst undef) w
def wpOp2 (P:Program) (ops:Array Oper) (Q:Exit->Act->World->Prop) (i:Nat) (K:Act->World->Prop) (a:Act) (w:World):Prop :=
 match ops[i]? with
 | none=>K a w
 | some o=>if Region.wanted o (yielded ops a.tmps) then o.wp P a w K Q else K (a.put o.dst undef) w
def ZxO (P:Program) (md:Region.Mode) (ops:Array Oper) (Q:Exit->Act->World->Prop):Nat->Array Bool->Act->World->Prop
 | 0,listed,a,w=>Region.ready md ops listed=[]/\Q .normal a w
 | fuel+1,listed,a,w =>
  (Region.ready md ops listed=[]->Q .normal a w) /\
  ∀i∈Region.ready md ops listed,wpOp2 P ops Q i (ZxO P md ops Q fuel (listed.setIfInBounds i true)) a w
section
variable {P:Program} {ops:Array Oper} {Q:Exit->Act->World->Prop} {F:Fence}
theorem Zxs (hF:F=Fence.wide\/∃l,F=Fence.wide.inRound l) (m:Nat):∀(os:List Oper) (a:Act) (w:World),(F.round=none\/∀o∈os,∀c,o.op≠.defer c)->Zxx P ops Q os a w->wpListIn F m P ops Q os a w
 | [],_,_,_,h=>h
 | o :: os,a,w,hd,h=>by
  have hfn:∀f,F.fn f:=by rcases hF with rfl|⟨l,rfl⟩<;>exact fun _=>trivial
  have hd2:F.round=none\/∀o∈os,∀c,o.op≠.defer c:=hd.imp id fun h o ho=>h o (zar _ ho)
  unfold wpListIn
  unfold Zxx at h
  split
  ·rename_i hw
   rw[if_pos hw]at h
   refine Oper.Zyr hF m (hd.imp id fun h=>h o zak) (Oper.wp_mono (fun a w h=>Zxs hF m os a w hd2 h) h)
  ·rename_i hw
   rw[if_neg hw]at h
   exact⟨fun f _=>hfn f,Zxs hF m os _ w hd2 h⟩
theorem Zxp {md:Region.Mode} (hF:F=Fence.wide\/∃l,F=Fence.wide.inRound l) (m:Nat) (hd:F.round=none\/∀o∈ops,∀c,o.op≠.defer c):∀(fuel:Nat) (listed:Array Bool) (a:Act) (w:World),ZxO P md ops Q fuel listed a w->wpAnyIn F m P md ops Q fuel listed a w
 | 0,_,_,_,h=>h
 | fuel+1,listed,a,w,h=>by
  have hfn:∀f,F.fn f:=by rcases hF with rfl|⟨l,rfl⟩<;>exact fun _=>trivial
  refine⟨h.1,fun i hi=>?_⟩
  have h2:=h.2 i hi
  unfold wpOp2 at h2
  unfold wpOpIn
  cases ho:ops[i]? with
  | none=>rw[ho]at h2;exact Zxp hF m hd fuel _ _ _ h2
  | some o =>
   rw[ho]at h2
   simp only at h2 ⊢
   split
   ·rename_i hw
    rw[if_pos hw]at h2
    exact Oper.Zyr hF m (hd.imp id fun h=>h o (zco ho)) (Oper.wp_mono (fun a w h=>Zxp hF m hd fuel _ a w h) h2)
   ·rename_i hw
    rw[if_neg hw]at h2
    exact⟨fun f _=>hfn f,Zxp hF m hd fuel _ _ _ h2⟩
end
def ovlId:Nat:=262
def ZGr:String := "slices.overlaps[int]"
def EnvP (_:Nat->Nat->Prop) (_:World):Prop:=True
theorem EnvP.mono {RO RO':Nat->Nat->Prop} {w w':World} (_:EnvP RO w) (_:∀b j,RO b j->RO' b j) (_:∀b j,RO b j->w'.cell? ⟨b,j,none⟩=w.cell? ⟨b,j,none⟩):EnvP RO' w':=trivial
inductive Tok where
 | no
 | full
 | own (id:Nat)
 deriving DecidableEq
inductive AV where
 | any
 | ub
 | sc (v:Value)
 | sl (tok:Tok) (rows:List (List AV))
 | el (row:List AV) (off:Nat)
 | ptr (id off:Nat)
 | arr (id off len cap:Nat)
 | agg (cs:List AV)
 | tup (vs:List AV)
 | mp (id:Nat)
 | stp (id:Nat) (key:Value)
 | fn (f:FuncId) (first caps:List AV)
 deriving Inhabited
def AV.one:AV->Bool
 | .any|.agg _|.tup _=>false
 | .sc v=>v.oneCell'
 | _=>true
abbrev AV.i (n:Int):AV:=.sc (.int .i64 n)
abbrev AV.b (b:Bool):AV:=.sc (.bool b)
def AV.cells:AV->Option (List AV)
 | .agg cs=>some cs
 | .any|.tup _=>none
 | .sc v=>bif v.oneCell' then some [.sc v] else none
 | a=>some [a]
structure Gh where
 ι:Nat->Option Nat
 τ:Nat->Option (Nat×Nat×Nat)
 β:Nat->Value->Option Nat
 RO:Nat->Nat->Prop
 base:Nat
def Zip (g:Gh) (tok:Tok) (n:Nat) (A:Option Addr) (c:Nat):Prop :=
 match tok with
 | .no=>True
 | .full=>c=n
 | .own id=>∃fr cap blk,g.τ id=some (fr,cap,blk)/\n<=fr/\(n=fr->c=cap/\(0<cap->A=some ⟨blk,0,none⟩))
inductive VR (g:Gh) (w:World):AV->Value->Prop
 | any (v:Value):VR g w .any v
 | ub (b:Bool):VR g w .ub (.bool b)
 | sc (v:Value):VR g w (.sc v) v
 | sl (tok:Tok) (rows:List (List AV)) (A:Option Addr) (c sz b o:Nat) (f:Nat->Nat->Value) (hc:rows.length<=c) (hm:c<=maxLen)
  (hA:rows≠[]->A=some ⟨b,o,none⟩) (hsz:∀r∈rows,r.length=sz/\∀x∈r,x.one=true)
  (hcell:∀i r j x,rows[i]?=some r->r[j]?=some x->w.cell? ⟨b,o+i * sz+j,none⟩=some (f i j)/\g.RO b (o+i * sz+j))
  (hv:∀i r j x,rows[i]?=some r->r[j]?=some x->VR g w x (f i j)) (ht:Zip g tok rows.length A c):VR g w (.sl tok rows) (.slice A rows.length c)
 | el (row:List AV) (off b base:Nat) (f:Nat->Value) (hone:∀x∈row,x.one=true)
  (hcell:∀j x,row[j]?=some x->w.cell? ⟨b,base+j,none⟩=some (f j)/\g.RO b (base+j))
  (hv:∀j x,row[j]?=some x->VR g w x (f j)):VR g w (.el row off) (.pointer (some ⟨b,base+off,none⟩))
 | ptr (id off b:Nat) (h:g.ι id=some b):VR g w (.ptr id off) (.pointer (some ⟨b,off,none⟩))
 | arr (id off len cap b:Nat) (h:g.ι id=some b) (hc:len<=cap) (hm:cap<=maxLen):VR g w (.arr id off len cap) (.slice (some ⟨b,off,none⟩) len cap)
 | agg (cs:List AV) (vs:Array Value) (hl:cs.length=vs.size) (hone:∀x∈cs,x.one=true) (hv:∀(i:Nat) x u,cs[i]?=some x->vs[i]?=some u->VR g w x u):VR g w (.agg cs) (.agg vs)
 | tup (cs:List AV) (vs:Array Value) (hl:cs.length=vs.size) (hv:∀(i:Nat) x u,cs[i]?=some x->vs[i]?=some u->VR g w x u):VR g w (.tup cs) (.tuple vs)
 | mp (id b:Nat) (h:g.ι id=some b):VR g w (.mp id) (.map (some b))
 | stp (id:Nat) (key:Value) (n:Nat) (h:g.β id key=some n):VR g w (.stp id key) (.int .i64 n)
 | fn (f:FuncId) (first caps:List AV) (vf vc:Array Value) (hl1:first.length=vf.size) (hl2:caps.length=vc.size)
  (h1:∀(i:Nat) x u,first[i]?=some x->vf[i]?=some u->VR g w x u) (h2:∀(i:Nat) x u,caps[i]?=some x->vc[i]?=some u->VR g w x u):VR g w (.fn f first caps) (.func (.func f) vf vc)
theorem VR.one {g:Gh} {w:World} {a:AV} {v:Value} (h:VR g w a v) (ho:a.one=true):v.oneCell'=true:=by
 cases h<;>first|rfl|(simp[AV.one]at ho;done)|exact ho
structure Gh.le (g g':Gh) (w w':World):Prop where
 ι:∀id b,g.ι id=some b->g'.ι id=some b
 τ:∀id fr c b,g.τ id=some (fr,c,b)->∃fr' c' b',g'.τ id=some (fr',c',b')/\(fr<fr'\/(fr'=fr/\c'=c/\b'=b))
 β:∀id k n,g.β id k=some n->g'.β id k=some n
 RO:∀b j,g.RO b j->g'.RO b j
 cell:∀b j,g.RO b j->w'.cell? ⟨b,j,none⟩=w.cell? ⟨b,j,none⟩
 dfr:∀b:Nat,w.heap[b]?=some (.deferred (some []))->w'.heap[b]?=some (.deferred (some []))
 base:g'.base=g.base
theorem Gh.le.refl (g:Gh) (w:World):g.le g w w:=⟨fun _ _ h=>h,fun _ _ _ _ h=>⟨_,_,_,h,.inr ⟨rfl,rfl,rfl⟩⟩,fun _ _ _ h=>h,fun _ _ h=>h,fun _ _ _=>rfl,fun _ h=>h,rfl⟩
theorem Gh.le.trans {g g' g'':Gh} {w w' w'':World} (h:g.le g' w w') (k:g'.le g'' w' w''):g.le g'' w w'':=by
 refine⟨fun id b e=>k.ι id b (h.ι id b e),fun id fr c b e=>?_,fun id x n e=>k.β _ _ _ (h.β _ _ _ e),fun b j e=>k.RO b j (h.RO b j e),fun b j e=>(k.cell b j (h.RO b j e)).trans (h.cell b j e),fun b e=>k.dfr b (h.dfr b e),k.base.trans h.base⟩
 obtain⟨fr',c',b',e',h1⟩:=h.τ id fr c b e
 obtain⟨fr'',c'',b'',e'',h2⟩:=k.τ id fr' c' b' e'
 refine⟨fr'',c'',b'',e'',?_⟩
 rcases h1 with h1|⟨rfl,rfl,rfl⟩
 ·rcases h2 with h2|⟨rfl,rfl,rfl⟩
  ·exact .inl Xa
  ·exact .inl h1
 ·exact h2
theorem Zip.mono {g g':Gh} {w w':World} {tok:Tok} {n:Nat} {A:Option Addr} {c:Nat} (h:Zip g tok n A c) (k:g.le g' w w'):Zip g' tok n A c:=by
 cases tok with
 | no=>trivial
 | full=>exact h
 | own id =>
  obtain⟨fr,cap,blk,e,h1,h2⟩:=h
  obtain⟨fr',cap',blk',e',h3⟩:=k.τ id fr cap blk e
  refine⟨fr',cap',blk',e',?_⟩
  rcases h3 with h3|⟨rfl,rfl,rfl⟩
  ·exact⟨Xa,fun h=>by omega⟩
  ·exact⟨h1,h2⟩
theorem VR.mono {g g':Gh} {w w':World} {a:AV} {v:Value} (h:VR g w a v) (k:g.le g' w w'):VR g' w' a v:=by
 induction h with
 | any v=>exact .any v
 | ub b=>exact .ub b
 | sc v=>exact .sc v
 | sl tok rows A c sz b o f hc hm hA hsz hcell hv ht ih =>
  exact .sl tok rows A c sz b o f hc hm hA hsz (fun i r j x hr hx=>⟨(k.cell _ _ (hcell i r j x hr hx).2).trans (hcell i r j x hr hx).1,k.RO _ _ (hcell i r j x hr hx).2⟩) ih (ht.mono k)
 | el row off b base f hone hcell hv ih =>
  exact .el row off b base f hone (fun j x hx=>⟨(k.cell _ _ (hcell j x hx).2).trans (hcell j x hx).1,k.RO _ _ (hcell j x hx).2⟩) ih
 | ptr id off b h=>exact .ptr id off b (k.ι _ _ h)
 | arr id off len cap b h hc hm=>exact .arr id off len cap b (k.ι _ _ h) hc hm
 | agg cs vs hl hone hv ih=>exact .agg cs vs hl hone ih
 | tup cs vs hl hv ih=>exact .tup cs vs hl ih
 | mp id b h=>exact .mp id b (k.ι _ _ h)
 | stp id key n h=>exact .stp id key n (k.β _ _ _ h)
 | fn f first caps vf vc hl1 hl2 h1 h2 ih1 ih2=>exact .fn f first caps vf vc hl1 hl2 ih1 ih2
def VRs (g:Gh) (w:World) (asx:List AV) (vs:List Value):Prop:=asx.length=vs.length/\∀(i:Nat) x u,asx[i]?=some x->vs[i]?=some u->VR g w x u
theorem VRs.mono {g g':Gh} {w w':World} {asx:List AV} {vs:List Value} (h:VRs g w asx vs) (k:g.le g' w w'):VRs g' w' asx vs:=⟨h.1,fun i x u hx hu=>(h.2 i x u hx hu).mono k⟩
theorem VRs.nil {g:Gh} {w:World}:VRs g w [] []:=⟨rfl,fun i x u h=>by simp at h⟩
theorem VRs.cons {g:Gh} {w:World} {a:AV} {v:Value} {asx:List AV} {vs:List Value} (h:VR g w a v) (hs:VRs g w asx vs):VRs g w (a :: asx) (v :: vs):=by
 refine⟨by simp[hs.1],fun i x u hx hu=>?_⟩
 cases i with
 | zero=>simp at hx hu;subst hx hu;exact h
 | succ i=>simp at hx hu;exact hs.2 i x u hx hu
theorem VRs.app {g:Gh} {w:World} {asx bs:List AV} {vs us:List Value} (h:VRs g w asx vs) (k:VRs g w bs us):VRs g w (asx++bs) (vs++us):=by
 refine⟨by simp[h.1,k.1],fun i x u hx hu=>?_⟩
 by_cases hi:i<asx.length
 ·rw[zaC hi]at hx
  rw[zaC (by rw[<- h.1];exact hi)]at hu
  exact h.2 i x u hx hu
 ·rw[zaE Xa]at hx
  rw[zaE (by rw[<- h.1];omega),<- h.1]at hu
  exact k.2 _ x u hx hu
theorem VRs.cut {g:Gh} {w:World} {asx:List AV} {vs:List Value} (h:VRs g w asx vs) (i n:Nat):VRs g w ((asx.drop i).take n) ((vs.drop i).take n):=by
 refine⟨by simp[h.1],fun j x u hx hu=>?_⟩
 rw[zbc]at hx hu
 split at hx
 ·rename_i hj
  rw[if_pos hj]at hu
  rw[zbd]at hx hu
  exact h.2 _ x u hx hu
 ·cases hx
theorem VRs.get {g:Gh} {w:World} {asx:List AV} {vs:List Value} (h:VRs g w asx vs) {i:Nat} {x:AV} (hx:asx[i]?=some x):∃u,vs[i]?=some u/\VR g w x u:=by
 have hi:i<vs.length:=by rw[<- h.1];exact(zah.1 hx).1
 exact⟨vs[i],zab hi,h.2 i x _ hx (zab hi)⟩
theorem VRs.ones {g:Gh} {w:World} {asx:List AV} {vs:List Value} (h:VRs g w asx vs) (ho:∀x∈asx,x.one=true):∀v∈vs,v.oneCell'=true:=by
 intro v hv
 obtain⟨i,hi,rfl⟩:=zaK hv
 have hi2:i<asx.length:=by rw[h.1];exact hi
 exact(h.2 i asx[i] _ (zab hi2) (zab hi)).one (ho _ (zau hi2))
theorem VR.cells {g:Gh} {w:World} {a:AV} {v:Value} {cs:List AV} (h:VR g w a v) (hc:a.cells=some cs):VRs g w cs v.cells.toList/\∀x∈cs,x.one=true:=by
 cases h with
 | agg cs' vs hl hone hv =>
  simp only[AV.cells]at hc
  injection hc with hc
  subst hc
  exact⟨⟨by simpa [Value.cells] using hl,fun i x u hx hu=>hv i x u hx (by simpa [Value.cells] using hu)⟩,hone⟩
 | any v=>simp[AV.cells]at hc
 | tup cs' vs hl hv=>simp[AV.cells]at hc
 | sc v =>
  simp only[AV.cells]at hc
  by_cases ho:v.oneCell'=true
  ·rw[ho,cond_true]at hc
   injection hc with hc
   subst hc
   have e:v.cells=#[v]:=by cases v<;>first|rfl|(simp[Value.oneCell']at ho)
   rw[e]
   exact⟨VRs.nil.cons (.sc v),by simpa [AV.one] using ho⟩
  ·simp only[Bool.not_eq_true]at ho;rw[ho]at hc;cases hc
 | sl tok rows A c sz b o f h1 h2 h3 h4 h5 h6 h7 =>
  simp only[AV.cells]at hc
  injection hc with hc
  subst hc
  exact⟨VRs.nil.cons (.sl tok rows A c sz b o f h1 h2 h3 h4 h5 h6 h7),by simp[AV.one]⟩
 | el row off b base f h1 h2 h3 =>
  simp only[AV.cells]at hc
  injection hc with hc
  subst hc
  exact⟨VRs.nil.cons (.el row off b base f h1 h2 h3),by simp[AV.one]⟩
 | ub b =>
  simp only[AV.cells]at hc
  injection hc with hc
  subst hc
  exact⟨VRs.nil.cons (.ub b),by simp[AV.one]⟩
 | ptr id off b h =>
  simp only[AV.cells]at hc
  injection hc with hc
  subst hc
  exact⟨VRs.nil.cons (.ptr id off b h),by simp[AV.one]⟩
 | arr id off len cap b h h1 h2 =>
  simp only[AV.cells]at hc
  injection hc with hc
  subst hc
  exact⟨VRs.nil.cons (.arr id off len cap b h h1 h2),by simp[AV.one]⟩
 | mp id b h =>
  simp only[AV.cells]at hc
  injection hc with hc
  subst hc
  exact⟨VRs.nil.cons (.mp id b h),by simp[AV.one]⟩
 | stp id key n h =>
  simp only[AV.cells]at hc
  injection hc with hc
  subst hc
  exact⟨VRs.nil.cons (.stp id key n h),by simp[AV.one]⟩
 | fn f first caps vf vc h1 h2 h3 h4 =>
  simp only[AV.cells]at hc
  injection hc with hc
  subst hc
  exact⟨VRs.nil.cons (.fn f first caps vf vc h1 h2 h3 h4),by simp[AV.one]⟩
inductive SK where
 | int (k:IntKind)
 | str
 | bool
 deriving DecidableEq
def SK.is:SK->Value->Bool
 | .int k,.int k' _=>k == k'
 | .str,.string _=>true
 | .bool,.bool _=>true
 | _,_=>false
inductive KK where
 | one (k:SK)
 | row (ks:List SK)
 deriving DecidableEq
def KK.isKey:KK->Value->Prop
 | .one k,v=>k.is v=true
 | .row ks,v=>∃vs:List Value,v=.agg vs.toArray/\vs.length=ks.length/\∀(i:Nat) (k:SK) (x:Value),ks[i]?=some k->vs[i]?=some x->k.is x=true
inductive Zb3 where
 | cells (cs:List AV) (E:TypeId)
 | tok (n:Nat) (E:TypeId) (sz:Nat)
 | map (kk:KK) (es:List (Value×AV)) (del:Bool)
 | iter (mid n:Nat) (seen:List Value)
structure Zaa where
 get:Nat->Option Zb3
 next:Nat
 wf:∀i,next<=i->get i=none
namespace Zaa
def emp:Zaa:=⟨fun _=>none,0,fun _ _=>rfl⟩
def alloc (H:Zaa) (o:Zb3):Zaa:=⟨fun i=>if i=H.next then some o else H.get i,H.next+1,fun i hi=>by rw[if_neg Xa];exact H.wf i Xa⟩
def set (H:Zaa) (id:Nat) (o:Zb3):Zaa:=⟨fun i=>if i=id then (if id<H.next then some o else none) else H.get i,H.next,fun i hi=>by
 split
 ·rw[if_neg Xa]
 ·exact H.wf i hi⟩
def bump (H:Zaa) (k:Nat):Zaa:=⟨H.get,H.next+k,fun i hi=>H.wf i Xa⟩
variable {H H' H'':Zaa} {id:Nat} {o o':Zb3}
theorem lt (h:H.get id=some o):id<H.next:=by
 rcases zbK id H.next with hl|hg
 ·exact hl
 ·rw[H.wf id hg]at h;cases h
@[simp] theorem Zax:(H.alloc o).next=H.next+1:=rfl
@[simp] theorem ZaH:(H.set id o).next=H.next:=rfl
@[simp] theorem ZaD {k:Nat}:(H.bump k).next=H.next+k:=rfl
@[simp] theorem ZaB {k:Nat}:(H.bump k).get id=H.get id:=rfl
@[simp] theorem Zae:(H.alloc o).get H.next=some o:=by simp[alloc]
theorem Zat (h:id=H.next):(H.alloc o).get id=some o:=by subst h;simp
theorem Zag (h:id≠H.next):(H.alloc o).get id=H.get id:=by simp[alloc,h]
theorem ZbA (h:id<H.next):(H.alloc o).get id=H.get id:=Zag Xa
theorem Zal (h:id<H.next):(H.set id o).get id=some o:=by simp[set,h]
theorem Zah {i:Nat} (h:i≠id):(H.set id o).get i=H.get i:=by simp[set,h]
structure Ext (H H':Zaa):Prop where
 next:H.next<=H'.next
 get:∀i o,H.get i=some o->H'.get i=some o
theorem Ext.refl (H:Zaa):Ext H H:=⟨zad _,fun _ _ h=>h⟩
theorem Ext.trans (h:Ext H H') (k:Ext H' H''):Ext H H'':=⟨zaG h.next k.next,fun i o e=>k.get i o (h.get i o e)⟩
theorem Ext.alloc (h:Ext H H'):Ext H (H'.alloc o):=⟨zcF h.next,fun i o' e=>by
 have:=lt (h.get i o' e)
 rw[ZbA this];exact h.get i o' e⟩
theorem Ext.bump {k:Nat} (h:Ext H H'):Ext H (H'.bump k):=⟨zaG h.next (zbW _ _),h.get⟩
theorem Ext.set (h:Ext H H') (hid:H.next<=id):Ext H (H'.set id o):=⟨h.next,fun i o' e=>by
 have:=lt e
 rw[Zah Xa];exact h.get i o' e⟩
end Zaa
def Zyw (g:Gh) (w:World) (id:Nat):Zb3->Prop
 | .cells cs E=>∃b carr,g.ι id=some b/\w.heap[b]?=some (.cells carr E (0,0))/\VRs g w cs carr.toList/\(∀x∈cs,x.one=true)/\∀j,¬g.RO b j
 | .tok n E sz=>∃cap b,g.τ id=some (n,cap,b)/\n<=cap/\cap<=maxLen/\(0<cap->∃carr,w.heap[b]?=some (.cells carr E (0,0))/\carr.size=cap * sz/\∀j,n * sz<=j->¬g.RO b j)
 | .map kk es del=>∃b entries clock,g.ι id=some b/\w.heap[b]?=some (.map entries clock)/\entries.size=es.length /\
  (∀(i:Nat) (k:Value) (x:AV) (e:MapEntry),es[i]?=some (k,x)->entries[i]?=some e->e.key=k/\kk.isKey k/\VR g w x e.val/\e.born<clock/\(del=false->g.β id k=some e.born)) /\
  (∀(i j:Nat) (e e':MapEntry),entries[i]?=some e->entries[j]?=some e'->e.born=e'.born->i=j) /\
  (del=false->∀k n,g.β id k=some n->∃(i:Nat) (e:MapEntry),entries[i]?=some e/\e.key=k)/\(∀j,¬g.RO b j)/\(del=false->clock=es.length)
 | .iter mid n seen=>∃b bm born,g.ι id=some b/\g.ι mid=some bm/\w.heap[b]?=some (.mapIter (some bm) n born n)/\born.size=seen.length/\(∀(i:Nat) (k:Value) (m:Nat),seen[i]?=some k->born[i]?=some m->g.β mid k=some m)/\∀j,¬g.RO b j
def Zcy (g:Gh) (id:Nat) (o:Zb3) (b:Nat):Prop :=
 match o with
 | .tok ..=>∃fr cap,g.τ id=some (fr,cap,b)/\0<cap
 | _=>g.ι id=some b
structure WR (g:Gh) (H:Zaa) (w:World):Prop where
 obj:∀id o,H.get id=some o->Zyw g w id o
 inj:∀id id' o o' b,H.get id=some o->H.get id'=some o'->Zcy g id o b->Zcy g id' o' b->id=id'
 dom:∀id,H.next<=id->g.ι id=none/\g.τ id=none/\∀k,g.β id k=none
 bd:∀id o b,H.get id=some o->Zcy g id o b->b<w.heap.size
 ro:∀b j,g.RO b j->b<w.heap.size
def Own (g:Gh) (H:Zaa) (b:Nat):Prop:=∃id o,H.get id=some o/\Zcy g id o b
structure Stp (g:Gh) (H:Zaa) (w:World) (g':Gh) (H':Zaa) (w':World):Prop where
 le:g.le g' w w'
 next:H.next<=H'.next
 os:w'.os=w.os
 tape:w'.tape=w.tape
 output:w'.output=w.output
 size:w.heap.size<=w'.heap.size
 frame:∀b,b<w.heap.size->¬Own g H b->w'.heap[b]?=w.heap[b]?
 new:∀b,b<w.heap.size->Own g' H' b->Own g H b
 ro:∀b j,b<w.heap.size->g'.RO b j->g.RO b j\/Own g H b
section
variable {g g' g'':Gh} {H H' H'':Zaa} {w w' w'':World}
theorem Stp.refl (g:Gh) (H:Zaa) (w:World):Stp g H w g H w:=⟨.refl _ _,zad _,rfl,rfl,rfl,zad _,fun _ _ _=>rfl,fun _ _ h=>h,fun _ _ _ h=>.inl h⟩
theorem Stp.trans (h : Stp g H w g' H' w') (k : Stp g' H' w' g'' H'' w'') : Stp g H w g'' H'' w'' :=
  ⟨h.le.trans k.le, zaG h.next k.next, k.os.trans h.os, k.tape.trans h.tape, k.output.trans h.output, zaG h.size k.size,
   fun b hb hn => (k.frame b (zaM hb h.size) (fun ho => hn (h.new b hb ho))).trans (h.frame b hb hn),
   fun b hb ho => h.new b hb (k.new b (zaM hb h.size) ho), fun b j hb hr => by
    rcases k.ro b j (zaM hb h.size) hr with hr | ho
    · exact h.ro b j hb hr
    · exact .inr (h.new b hb ho)⟩
end
section
variable {g g':Gh} {H H':Zaa} {w w':World}
theorem Zcy.le {id:Nat} {o:Zb3} {b:Nat} (hτ:g'.τ id=g.τ id) (hι:g'.ι id=g.ι id):Zcy g' id o b ↔ Zcy g id o b:=by
 cases o<;>simp[Zcy,hτ,hι]
theorem Zyw.mono {id:Nat} {o:Zb3} (h:Zyw g w id o) (k:g.le g' w w') (hb:∀b,Zcy g id o b->w'.heap[b]?=w.heap[b]?) (hro:∀b j,Zcy g id o b->g'.RO b j->g.RO b j)
  (hτ:g'.τ id=g.τ id) (hι:g'.ι id=g.ι id) (hβ:∀x,g'.β id x=g.β id x):Zyw g' w' id o:=by
 cases o with
 | cells cs E =>
  obtain⟨b,carr,h1,h2,h3,h4,h5⟩:=h
  exact⟨b,carr,hι.trans h1,(hb b h1).trans h2,h3.mono k,h4,fun j hj=>h5 j (hro b j h1 hj)⟩
 | tok n E sz =>
  obtain⟨cap,b,h1,h2,h3,h4⟩:=h
  refine⟨cap,b,hτ.trans h1,h2,h3,fun hc=>?_⟩
  obtain⟨carr,h5,h6,h7⟩:=h4 hc
  exact⟨carr,(hb b ⟨_,_,h1,hc⟩).trans h5,h6,fun j hj hr=>h7 j hj (hro b j ⟨_,_,h1,hc⟩ hr)⟩
 | map kk es del =>
  obtain⟨b,en,cl,h1,h2,h3,h4,h5,h6,h7⟩:=h
  refine⟨b,en,cl,hι.trans h1,(hb b h1).trans h2,h3,fun i x y e hx he=>?_,h5,fun hd x n hn=>h6 hd x n (by rw[<- hβ];exact hn),fun j hj=>h7.1 j (hro b j h1 hj),h7.2⟩
  obtain⟨h8,h9,h10,h11,h12⟩:=h4 i x y e hx he
  exact⟨h8,h9,h10.mono k,h11,fun hd=>(hβ x).trans (h12 hd)⟩
 | iter mid n seen =>
  obtain⟨b,bm,born,h1,h2,h3,h4,h5,h6⟩:=h
  exact⟨b,bm,born,hι.trans h1,k.ι _ _ h2,(hb b h1).trans h3,h4,fun i x m e1 e2=>k.β _ _ _ (h5 i x m e1 e2),fun j hj=>h6 j (hro b j h1 hj)⟩
theorem Zcb {b:Nat} (h:w'.heap[b]?=w.heap[b]?) (j:Nat):w'.cell? ⟨b,j,none⟩=w.cell? ⟨b,j,none⟩:=World.cell?_of_block (a:=⟨b,j,none⟩) h
theorem Zyf (h:∀b,b<w.heap.size->w'.heap[b]?=w.heap[b]?) (b:Nat) (e:w.heap[b]?=some (.deferred (some []))):w'.heap[b]?=some (.deferred (some [])):=(h b (zao.1 e).1).trans e
theorem ZxC (o:Obj) (b:Nat) (e:w.heap[b]?=some (.deferred (some []))):(w.alloc o).heap[b]?=some (.deferred (some [])):=Zyf (fun _ h=>heap_alloc_old w o h) b e
theorem Zxt (hW:WR g H w) {id b:Nat} {o:Zb3} (h:H.get id=some o) (hb:Zcy g id o b) (e:w.heap[b]?=some (.deferred (some []))):False:=by
 have hr:=hW.obj id o h
 cases o with
 | cells cs E =>
  obtain⟨b',carr,h1,h2,_⟩:=hr
  have hb:g.ι id=some b:=hb
  rw[hb]at h1
  injection h1 with h1
  subst h1
  rw[h2]at e;cases e
 | tok n E sz =>
  obtain⟨cap,b',h1,_,_,h4⟩:=hr
  obtain⟨fr,c,h5,hc⟩:=hb
  rw[h5]at h1
  simp only[zaa,zaf]at h1
  obtain⟨rfl,rfl,rfl⟩:=h1
  obtain⟨carr,h6,_⟩:=h4 hc
  rw[h6]at e;cases e
 | map kk es del =>
  obtain⟨b',en,cl,h1,h2,_⟩:=hr
  have hb:g.ι id=some b:=hb
  rw[hb]at h1
  injection h1 with h1
  subst h1
  rw[h2]at e;cases e
 | iter mid n seen =>
  obtain⟨b',bm,born,h1,_,h2,_⟩:=hr
  have hb:g.ι id=some b:=hb
  rw[hb]at h1
  injection h1 with h1
  subst h1
  rw[h2]at e;cases e
theorem Zl7 (hW:WR g H w) (hh:w'.heap=w.heap) (h1:w'.os=w.os) (h2:w'.tape=w.tape) (h3:w'.output=w.output):WR g H w'/\Stp g H w g H w':=by
 have hc:∀a,w'.cell? a=w.cell? a:=fun a=>by unfold World.cell?;rw[hh]
 have hle:g.le g w w':=⟨fun _ _ h=>h,fun _ _ _ _ h=>⟨_,_,_,h,.inr ⟨rfl,rfl,rfl⟩⟩,fun _ _ _ h=>h,fun _ _ h=>h,fun _ _ _=>hc _,fun b e=>by rw[hh];exact e,rfl⟩
 refine⟨⟨fun id o h=>(hW.obj id o h).mono hle (fun b _=>by rw[hh]) (fun _ _ _ h=>h) rfl rfl (fun _=>rfl),hW.inj,hW.dom,fun id o b h1 h2=>by rw[hh];exact hW.bd id o b h1 h2,fun b j h=>by rw[hh];exact hW.ro b j h⟩,
  ⟨hle,zad _,h1,h2,h3,by rw[hh];exact zad _,fun b _ _=>by rw[hh],fun _ _ h=>h,fun _ _ _ h=>.inl h⟩⟩
theorem WR.drew (hW:WR g H w):WR g H w.drew/\Stp g H w g H w.drew:=Zl7 hW rfl rfl rfl rfl
def Gh.tree (g:Gh) (b:Nat):Gh:={ g with RO:=fun b' j=>g.RO b' j\/b'=b }
theorem le_tree (hW:WR g H w) (o:Obj):g.le (g.tree w.heap.size) w (w.alloc o) :=
 ⟨fun _ _ h=>h,fun _ _ _ _ h=>⟨_,_,_,h,.inr ⟨rfl,rfl,rfl⟩⟩,fun _ _ _ h=>h,fun _ _ h=>.inl h,fun b j h=>Zcb (heap_alloc_old w o (hW.ro b j h)) j,ZxC o,rfl⟩
theorem ZgV (hW:WR g H w) (o:Obj):WR (g.tree w.heap.size) H (w.alloc o)/\Stp g H w (g.tree w.heap.size) H (w.alloc o):=by
 have hle:=le_tree hW o
 refine⟨⟨fun id ob h=>(hW.obj id ob h).mono hle (fun b hb=>heap_alloc_old w o (hW.bd id ob b h hb)) (fun b j hb hj=>?_) rfl rfl (fun _=>rfl),hW.inj,hW.dom,fun id ob b h1 h2=>?_,fun b j h=>?_⟩,
  ⟨hle,zad _,rfl,rfl,rfl,Xc,fun b hb _=>heap_alloc_old w o hb,fun _ _ h=>h,fun b j hb h=>by
   rcases h with h|rfl
   ·exact .inl h
   ·omega⟩⟩
 ·rcases hj with hj|rfl
  ·exact hj
  ·exact absurd (hW.bd id ob _ h hb) Xa
 ·have:=hW.bd id ob b h1 h2;simp;omega
 ·rcases h with h|rfl
  ·have:=hW.ro b j h;simp;omega
  ·simp
def Gh.obj (g:Gh) (id b:Nat):Gh:={ g with ι:=fun i=>if i=id then some b else g.ι i }
theorem ZmG (hW:WR g H w) (o:Obj):g.le (g.obj H.next w.heap.size) w (w.alloc o):=by
 refine⟨fun id b h=>?_,fun _ _ _ _ h=>⟨_,_,_,h,.inr ⟨rfl,rfl,rfl⟩⟩,fun _ _ _ h=>h,fun _ _ h=>h,fun b j h=>Zcb (heap_alloc_old w o (hW.ro b j h)) j,ZxC o,rfl⟩
 have hne:id≠H.next:=by
  rintro rfl
  rw[(hW.dom _ (zad _)).1]at h;cases h
 simp[Gh.obj,hne,h]
theorem Zi0 (hW:WR g H w) (o:Obj) (ob:Zb3) (hk:∀n E sz,ob≠.tok n E sz) (ho:Zyw (g.obj H.next w.heap.size) (w.alloc o) H.next ob):WR (g.obj H.next w.heap.size) (H.alloc ob) (w.alloc o)/\Stp g H w (g.obj H.next w.heap.size) (H.alloc ob) (w.alloc o):=by
 have hle:=ZmG hW o
 have hdom:=hW.dom H.next (zad _)
 have hown:∀id o' b,id<H.next->(Zcy (g.obj H.next w.heap.size) id o' b ↔ Zcy g id o' b):=fun id o' b hl=>Zcy.le rfl (by simp[Gh.obj];omega)
 have hnew:∀b,Zcy (g.obj H.next w.heap.size) H.next ob b->b=w.heap.size:=by
  intro b hb
  cases ob with
  | tok n E sz=>exact absurd rfl (hk n E sz)
  | cells cs E=>simp[Zcy,Gh.obj]at hb;omega
  | map kk es d=>simp[Zcy,Gh.obj]at hb;omega
  | iter mid n seen=>simp[Zcy,Gh.obj]at hb;omega
 have hget:∀id o',(H.alloc ob).get id=some o'->(id=H.next/\o'=ob)\/(id<H.next/\H.get id=some o'):=by
  intro id o' h
  by_cases e:id=H.next
  ·subst e;rw[Zaa.Zae]at h;injection h with h;exact .inl ⟨rfl,h.symm⟩
  ·rw[Zaa.Zag e]at h;exact .inr ⟨Zaa.lt h,h⟩
 refine⟨⟨fun id o' h=>?_,fun id id' o1 o2 b h1 h2 h3 h4=>?_,fun id hid=>?_,fun id o' b h1 h2=>?_,fun b j h=>?_⟩,⟨hle,Nat.le_succ _,rfl,rfl,rfl,Xc,fun b hb _=>heap_alloc_old w o hb,fun b hb ⟨id,o',h1,h2⟩=>?_,fun _ _ _ h=>.inl h⟩⟩
 ·rcases hget id o' h with⟨rfl,rfl⟩|⟨hl,h⟩
  ·exact ho
  ·exact(hW.obj id o' h).mono hle (fun b hb=>heap_alloc_old w o (hW.bd id o' b h hb)) (fun _ _ _ h=>h) rfl (by simp[Gh.obj];omega) (fun _=>rfl)
 ·rcases hget id o1 h1 with⟨e1,e2⟩|⟨hl,k1⟩
  ·rcases hget id' o2 h2 with⟨e3,_⟩|⟨hl2,k2⟩
   ·omega
   ·have e:=hnew b (by have h:=h3;rw[e1,e2]at h;exact h)
    have:=hW.bd id' o2 b k2 ((hown id' o2 b hl2).1 h4)
    omega
  ·rcases hget id' o2 h2 with⟨e3,e4⟩|⟨hl2,k2⟩
   ·have e:=hnew b (by have h:=h4;rw[e3,e4]at h;exact h)
    have:=hW.bd id o1 b k1 ((hown id o1 b hl).1 h3)
    omega
   ·exact hW.inj id id' o1 o2 b k1 k2 ((hown id o1 b hl).1 h3) ((hown id' o2 b hl2).1 h4)
 ·have h:=hW.dom id (by simp at hid;omega)
  refine⟨?_,h.2⟩
  simp only[Zaa.Zax]at hid
  simp[Gh.obj,h.1];omega
 ·rcases hget id o' h1 with⟨rfl,rfl⟩|⟨hl,h1⟩
  ·rw[hnew b h2];simp
  ·have:=hW.bd id o' b h1 ((hown id o' b hl).1 h2);simp;omega
 ·have:=hW.ro b j h;simp;omega
 ·rcases hget id o' h1 with⟨rfl,rfl⟩|⟨hl,h1⟩
  ·rw[hnew b h2]at hb;omega
  ·exact⟨id,o',h1,(hown id o' b hl).1 h2⟩
theorem ZdF (hW:WR g H w) {cs:List AV} {carr:Array Value} (E:TypeId) (h:VRs g w cs carr.toList) (ho:∀x∈cs,x.one=true) :
  WR (g.obj H.next w.heap.size) (H.alloc (.cells cs E)) (w.alloc (.cells carr E))/\Stp g H w (g.obj H.next w.heap.size) (H.alloc (.cells cs E)) (w.alloc (.cells carr E)) /\
   VR (g.obj H.next w.heap.size) (w.alloc (.cells carr E)) (.ptr H.next 0) (.pointer (some ⟨w.heap.size,0,none⟩)):=by
 have hid:(g.obj H.next w.heap.size).ι H.next=some w.heap.size:=by simp[Gh.obj]
 have:=Zi0 hW (.cells carr E) (.cells cs E) (by intros;simp) ⟨_,carr,hid,heap_alloc_new w _,h.mono (ZmG hW _),ho,fun j hj=>absurd (hW.ro _ _ hj) Xa⟩
 exact⟨this.1,this.2,.ptr _ _ _ hid⟩
theorem ZhE (hW:WR g H w) {id b:Nat} {o o':Zb3} (β':Nat->Value->Option Nat) (hβ1:∀i k,i≠id->β' i k=g.β i k) (hβ2:∀k n,g.β id k=some n->β' id k=some n) (hget:H.get id=some o) (hb:Zcy g id o b) (hk:∀b',Zcy g id o' b' ↔ Zcy g id o b') (hother:∀b',b'≠b->w'.heap[b']?=w.heap[b']?) (hsz:w'.heap.size=w.heap.size) (h1:w'.os=w.os) (h2:w'.tape=w.tape) (h3:w'.output=w.output)
  (hcell:∀j,g.RO b j->w'.cell? ⟨b,j,none⟩=w.cell? ⟨b,j,none⟩) (ho:g.le { g with β:=β' } w w'->Zyw { g with β:=β' } w' id o'):WR { g with β:=β' } (H.set id o') w'/\Stp g H w { g with β:=β' } (H.set id o') w':=by
 have hlt:=Zaa.lt hget
 have hle:g.le { g with β:=β' } w w':=by
  refine⟨fun _ _ h=>h,fun _ _ _ _ h=>⟨_,_,_,h,.inr ⟨rfl,rfl,rfl⟩⟩,fun i k n h=>?_,fun _ _ h=>h,fun b' j h=>?_,fun b' h=>(hother b' fun e=>Zxt hW hget (e ▸ hb) h).trans h,rfl⟩
  ·by_cases e:i=id
   ·subst e;exact hβ2 k n h
   ·exact(hβ1 i k e).trans h
  ·by_cases e:b'=b
   ·subst e;exact hcell j h
   ·exact Zcb (hother b' e) j
 have hg2:∀i x,(H.set id o').get i=some x->(i=id/\x=o')\/(i≠id/\H.get i=some x):=by
  intro i x h
  by_cases e:i=id
  ·subst e;rw[Zaa.Zal hlt]at h;injection h with h;exact .inl ⟨rfl,h.symm⟩
  ·rw[Zaa.Zah e]at h;exact .inr ⟨e,h⟩
 have hownS:∀i x b',(H.set id o').get i=some x->Zcy g i x b'->∃y,H.get i=some y/\Zcy g i y b':=by
  intro i x b' h1 h2
  rcases hg2 i x h1 with⟨rfl,rfl⟩|⟨_,h⟩
  ·exact⟨o,hget,(hk b').1 h2⟩
  ·exact⟨x,h,h2⟩
 refine⟨⟨fun i x h=>?_,fun i i' x x' b' k1 k2 k3 k4=>?_,fun i hi=>⟨(hW.dom i hi).1,(hW.dom i hi).2.1,fun k=>(hβ1 i k (by simp only[Zaa.ZaH]at hi;omega)).trans ((hW.dom i hi).2.2 k)⟩,fun i x b' k1 k2=>?_,fun b' j h=>by rw[hsz];exact hW.ro b' j h⟩,⟨hle,zad _,h1,h2,h3,Xa,fun b' _ hn=>?_,fun b' _ ⟨i,x,k1,k2⟩=>?_,fun _ _ _ h=>.inl h⟩⟩
 ·rcases hg2 i x h with⟨rfl,rfl⟩|⟨hne,h⟩
  ·exact ho hle
  ·refine(hW.obj i x h).mono hle (fun b' hb'=>hother b' ?_) (fun _ _ _ h=>h) rfl rfl (fun k=>hβ1 i k hne)
   rintro rfl
   exact hne (hW.inj i id x o _ h hget hb' hb)
 ·obtain⟨y,hy1,hy2⟩:=hownS i x b' k1 k3
  obtain⟨y',hy3,hy4⟩:=hownS i' x' b' k2 k4
  exact hW.inj i i' y y' b' hy1 hy3 hy2 hy4
 ·obtain⟨y,hy1,hy2⟩:=hownS i x b' k1 k2
  rw[hsz];exact hW.bd i y b' hy1 hy2
 ·refine hother b' ?_
  rintro rfl
  exact hn ⟨id,o,hget,hb⟩
 ·obtain⟨y,hy1,hy2⟩:=hownS i x b' k1 k2
  exact⟨i,y,hy1,hy2⟩
theorem Zv5 (hW:WR g H w) (o:Obj):WR g H (w.alloc o)/\Stp g H w g H (w.alloc o):=by
 have hle:g.le g w (w.alloc o):=⟨fun _ _ h=>h,fun _ _ _ _ h=>⟨_,_,_,h,.inr ⟨rfl,rfl,rfl⟩⟩,fun _ _ _ h=>h,fun _ _ h=>h,fun b j h=>Zcb (heap_alloc_old w o (hW.ro b j h)) j,ZxC o,rfl⟩
 refine⟨⟨fun id ob h=>(hW.obj id ob h).mono hle (fun b hb=>heap_alloc_old w o (hW.bd id ob b h hb)) (fun _ _ _ h=>h) rfl rfl (fun _=>rfl),hW.inj,hW.dom,fun id ob b h1 h2=>?_,fun b j h=>?_⟩,
  ⟨hle,zad _,rfl,rfl,rfl,Xc,fun b hb _=>heap_alloc_old w o hb,fun _ _ h=>h,fun _ _ _ h=>.inl h⟩⟩
 ·have:=hW.bd id ob b h1 h2;simp;omega
 ·have:=hW.ro b j h;simp;omega
theorem adopt (hW:WR g H w) {b E:Nat} {cs:List AV} {carr:Array Value} (hb:w.heap[b]?=some (.cells carr E (0,0))) (hro:∀j,¬g.RO b j) (hno:¬Own g H b) (hV:VRs g w cs carr.toList) (hone:∀x∈cs,x.one=true) :
  WR (g.obj H.next b) (H.alloc (.cells cs E)) w/\g.le (g.obj H.next b) w w/\(∀b',Own (g.obj H.next b) (H.alloc (.cells cs E)) b'->b'=b\/Own g H b'):=by
 have hdom:=hW.dom H.next (zad _)
 have hlt:b<w.heap.size:=(zao.1 hb).1
 have hle:g.le (g.obj H.next b) w w:=by
  refine⟨fun id b' h=>?_,fun _ _ _ _ h=>⟨_,_,_,h,.inr ⟨rfl,rfl,rfl⟩⟩,fun _ _ _ h=>h,fun _ _ h=>h,fun _ _ _=>rfl,fun _ h=>h,rfl⟩
  have hne:id≠H.next:=by
   rintro rfl
   rw[hdom.1]at h;cases h
  simp[Gh.obj,hne,h]
 have hown:∀id o' b',id<H.next->(Zcy (g.obj H.next b) id o' b' ↔ Zcy g id o' b'):=fun id o' b' hl=>Zcy.le rfl (by simp[Gh.obj];omega)
 have hnew:∀b',Zcy (g.obj H.next b) H.next (.cells cs E) b'->b'=b:=by
  intro b' h
  simp[Zcy,Gh.obj]at h;omega
 have hget:∀id o',(H.alloc (.cells cs E)).get id=some o'->(id=H.next/\o'=.cells cs E)\/(id<H.next/\H.get id=some o'):=by
  intro id o' h
  by_cases e:id=H.next
  ·subst e;rw[Zaa.Zae]at h;injection h with h;exact .inl ⟨rfl,h.symm⟩
  ·rw[Zaa.Zag e]at h;exact .inr ⟨Zaa.lt h,h⟩
 refine⟨⟨fun id o' h=>?_,fun id id' o1 o2 b' h1 h2 h3 h4=>?_,fun id hid=>?_,fun id o' b' h1 h2=>?_,hW.ro⟩,hle,fun b' ⟨id,o',h1,h2⟩=>?_⟩
 ·rcases hget id o' h with⟨rfl,rfl⟩|⟨hl,h⟩
  ·exact⟨b,carr,by simp[Gh.obj],hb,hV.mono hle,hone,hro⟩
  ·exact(hW.obj id o' h).mono hle (fun _ _=>rfl) (fun _ _ _ h=>h) rfl (by simp[Gh.obj];omega) (fun _=>rfl)
 ·rcases hget id o1 h1 with⟨e1,e2⟩|⟨hl,k1⟩
  ·rcases hget id' o2 h2 with⟨e3,_⟩|⟨hl2,k2⟩
   ·omega
   ·have e:=hnew b' (by have h:=h3;rw[e1,e2]at h;exact h)
    subst e
    exact absurd ⟨id',o2,k2,(hown id' o2 b' hl2).1 h4⟩ hno
  ·rcases hget id' o2 h2 with⟨e3,e4⟩|⟨hl2,k2⟩
   ·have e:=hnew b' (by have h:=h4;rw[e3,e4]at h;exact h)
    subst e
    exact absurd ⟨id,o1,k1,(hown id o1 b' hl).1 h3⟩ hno
   ·exact hW.inj id id' o1 o2 b' k1 k2 ((hown id o1 b' hl).1 h3) ((hown id' o2 b' hl2).1 h4)
 ·have h:=hW.dom id (by simp at hid;omega)
  refine⟨?_,h.2⟩
  simp only[Zaa.Zax]at hid
  simp[Gh.obj,h.1];omega
 ·rcases hget id o' h1 with⟨rfl,rfl⟩|⟨hl,h1⟩
  ·rw[hnew b' h2];exact hlt
  ·exact hW.bd id o' b' h1 ((hown id o' b' hl).1 h2)
 ·rcases hget id o' h1 with⟨rfl,rfl⟩|⟨hl,h1⟩
  ·exact .inl (hnew b' h2)
  ·exact .inr ⟨id,o',h1,(hown id o' b' hl).1 h2⟩
theorem ZfL (hW:WR g H w) {id b:Nat} {o o':Zb3} (hget:H.get id=some o) (hb:Zcy g id o b) (hk:∀b',Zcy g id o' b' ↔ Zcy g id o b') (hother:∀b',b'≠b->w'.heap[b']?=w.heap[b']?) (hsz:w'.heap.size=w.heap.size) (h1:w'.os=w.os) (h2:w'.tape=w.tape) (h3:w'.output=w.output)
  (hcell:∀j,g.RO b j->w'.cell? ⟨b,j,none⟩=w.cell? ⟨b,j,none⟩) (ho:g.le g w w'->Zyw g w' id o'):WR g (H.set id o') w'/\Stp g H w g (H.set id o') w' :=
 ZhE hW g.β (fun _ _ _=>rfl) (fun _ _ h=>h) hget hb hk hother hsz h1 h2 h3 hcell ho
end
inductive AX where
 | t (n:Nat)
 | c (a:AV)
abbrev Fr:=List (Nat×AV)
def Fr.get:Fr->Nat->AV
 | [],_=>.any
 | (k,a) :: F,t=>if t=k then a else Fr.get F t
def Fr.put (F:Fr) (d:Option Nat) (a:AV):Fr:=match d with
 | some d=>(d,a) :: F
 | none=>F
def AX.ev (F:Fr):AX->AV
 | .t n=>Fr.get F n
 | .c a=>a
def evs (F:Fr) (xs:List AX):List AV:=xs.map (AX.ev F)
def ZaO:AV:=.sc undef
def Zel:Value->AV
 | .slice none 0 0=>.sl .full []
 | v=>.sc v
def Zb5:Value->AV
 | .agg cs=>if (cs.toList.map Zel).all AV.one then .agg (cs.toList.map Zel) else .any
 | .func (.func f) first caps=>if first.isEmpty&&caps.isEmpty then .fn f [] [] else .any
 | v=>Zel v
def rawA:Value->AV
 | .agg cs=>if (cs.toList.map AV.sc).all AV.one then .agg (cs.toList.map .sc) else .any
 | v=>.sc v
def zeroA (raw:Bool) (z:Value):AV:=bif raw then rawA z else Zb5 z
def cX:Operand->AX
 | .tmp t=>.t t
 | .const v=>.c (Zb5 v)
 | .global g=>.c (.sc (.pointer (some ⟨g,0,none⟩)))
 | .func f=>.c (.fn f [] [])
def scs:List SK->List AV->Option (List Value)
 | [],[]=>some []
 | k :: ks,.sc v :: cs=>bif k.is v then (scs ks cs).map (v :: ·) else none
 | _,_=>none
def vEq:Value->Value->Bool
 | .int _ a,.int _ b=>a == b
 | .string a,.string b=>a == b
 | .bool a,.bool b=>a == b
 | _,_=>false
def ZgE:List Value->List Value->Bool
 | [],[]=>true
 | a :: asx,b :: bs=>vEq a b&&ZgE asx bs
 | _,_=>false
def KK.of:KK->AV->Option Value
 | .one k,.sc v=>bif k.is v then some v else none
 | .row ks,.agg cs=>(scs ks cs).map fun vs=>.agg vs.toArray
 | _,_=>none
def kEq:Value->Value->Bool
 | .agg a,.agg b=>ZgE a.toList b.toList
 | a,b=>vEq a b
def ZdG (k:Value):List (Value×AV)->Option AV
 | []=>none
 | (k',a) :: es=>bif kEq k k' then some a else ZdG k es
def Ziw (k:Value) (a:AV):List (Value×AV)->List (Value×AV)
 | []=>[(k,a)]
 | (k',b) :: es=>bif kEq k k' then (k,a) :: es else (k',b) :: Ziw k a es
def ZSm (k:Value):List (Value×AV)->List (Value×AV)
 | []=>[]
 | (k',b) :: es=>bif kEq k k' then es else (k',b) :: ZSm k es
inductive AOp where
 | mv (x:AX)
 | pick (c a b:AX)
 | box (E:TypeId) (x:AX)
 | bld (zero:List AV) (parts:List (Nat×Nat×AX))
 | bsl (sz:Nat) (parts:List AX)
 | bsv (E sz:Nat) (parts:List AX)
 | ld (sz:Nat) (agg:Bool) (x:AX)
 | st (sz:Nat) (x y:AX)
 | nck (x:AX)
 | bin (op:BinOp) (x y:AX)
 | eqf (ks:List SK) (neg:Bool) (x y:AX)
 | bnb (neg:Bool) (x y:AX)
 | eqn (kd:Nat) (neg:Bool) (x y:AX)
 | un (op:UnOp) (x:AX)
 | cnv (k:IntKind) (x:AX)
 | cvs (x:AX)
 | sob (x:AX)
 | clr (m:AX)
 | cpy (sz:Nat) (x y:AX)
 | mkf (f:FuncId) (first caps:List AX)
 | mks (E sz bytes:Nat) (zero:List AV) (l c:AX)
 | slc (sz:Nat) (x:AX) (lo hi mx:Option AX)
 | slS (x:AX) (lo hi:Option AX)
 | sla (n sz:Nat) (x:AX) (lo hi mx:Option AX)
 | fla (off:Nat) (x:AX)
 | fld (off sz:Nat) (agg:Bool) (x:AX)
 | ixa (sz:Nat) (x i:AX)
 | ixA (n sz:Nat) (x i:AX)
 | ixv (n sz:Nat) (agg:Bool) (x i:AX)
 | ixs (x i:AX)
 | ext (x:AX) (i:Nat)
 | len (str:Bool) (x:AX)
 | lnA (n:Nat)
 | app (E sz bytes:Nat) (s x:AX)
 | apv (E sz bytes:Nat) (zero:List AV) (s x:AX)
 | mm (max:Bool) (x y:AX)
 | mkm (kk:KK)
 | lkp (kk:KK) (zero:AV) (ok:Bool) (m k:AX)
 | mup (kk:KK) (m k x:AX)
 | men (kk:KK) (zero:AV) (m k:AX)
 | est (m s x:AX)
 | mln (m:AX)
 | rng (m:AX)
 | nxt (str:Bool) (x:AX)
 | ent (x:AX)
 | del (kk:KK) (m k:AX)
 | call (f:AX) (args:List AX)
 | eqs (neg:Bool) (x:AX)
 | cap (x:AX)
 | bad
 | ovl (x y:AX)
 | clv (x:AX)
def Za4 (op:BinOp) (k:IntKind) (a b:Int):Option Value :=
 match op with
 | .add=>some (.int k (k.wrap (a+b)))
 | .sub=>some (.int k (k.wrap (a - b)))
 | .mul=>some (.int k (k.wrap (a * b)))
 | .quo=>if b=0 then none else some (.int k (k.wrap (a.tdiv b)))
 | .rem=>if b=0 then none else some (.int k (a.tmod b))
 | .and=>some (.int k (k.wrap (BitVec.ofInt k.bits a &&& BitVec.ofInt k.bits b).toNat))
 | .or=>some (.int k (k.wrap (BitVec.ofInt k.bits a ||| BitVec.ofInt k.bits b).toNat))
 | .xor=>some (.int k (k.wrap (BitVec.ofInt k.bits a ^^^ BitVec.ofInt k.bits b).toNat))
 | .andNot=>some (.int k (k.wrap (BitVec.ofInt k.bits a &&& ~~~ BitVec.ofInt k.bits b).toNat))
 | .eql=>some (.bool (a == b))
 | .neq=>some (.bool (a != b))
 | .lss=>some (.bool (a<b))
 | .leq=>some (.bool (a<=b))
 | .gtr=>some (.bool (a > b))
 | .geq=>some (.bool (a≥b))
 | _=>none
def ZwL (op:BinOp) (a b:ByteArray):Option Value :=
 match op with
 | .add=>if a.size+b.size<=maxLen then some (.string (a++b)) else none
 | .eql=>some (.bool (a.toList == b.toList))
 | .neq=>some (.bool !(a.toList == b.toList))
 | .lss=>some (.bool (Op.bytesLess a.toList b.toList))
 | .leq=>some (.bool (Op.bytesLess a.toList b.toList || a.toList == b.toList))
 | .gtr=>some (.bool !(Op.bytesLess a.toList b.toList || a.toList == b.toList))
 | .geq=>some (.bool !(Op.bytesLess a.toList b.toList))
 | _=>none
def ZaI (op:BinOp) (u v:Value):Option Value :=
 match u,v with
 | .int k a,.int k' b =>
  match op with
  | .shl=>if b<0 then none else some (.int k (k.wrap (a * 2 ^ min b.toNat k.bits)))
  | .shr=>if b<0 then none else some (.int k (a.fdiv (2 ^ min b.toNat k.bits)))
  | _=>if k=k' then Za4 op k a b else none
 | .string a,.string b=>ZwL op a b
 | _,_=>none
def Zc4 (op:UnOp) (u:Value):Option Value :=
 match op,u with
 | .not,.bool b=>some (.bool !b)
 | .neg,.int k n=>some (.int k (k.wrap (0 - n)))
 | .xor,.int k n=>some (.int k (k.wrap (BitVec.ofInt k.bits (if k.signed then -1 else k.max) ^^^ BitVec.ofInt k.bits n).toNat))
 | _,_=>none
def splice {α:Type} (cs:List α) (off:Nat) (vs:List α):List α:=cs.take off++vs++cs.drop (off+vs.length)
def Zbd (sz:Nat) (agg:Bool) (row:List AV) (off:Nat):Option AV :=
 bif agg then (if off+sz<=row.length then some (.agg ((row.drop off).take sz)) else none) else row[off]?
def Zb9 (F:Fr):List AV->List (Nat×Nat×AX)->Option (List AV)
 | cs,[]=>some cs
 | cs,(off,sz,x) :: rest=>match (x.ev F).cells with
  | some vs=>if vs.length=sz/\off+sz<=cs.length then Zb9 F (splice cs off vs) rest else none
  | none=>none
def rowsOf (F:Fr) (sz:Nat):List AX->Option (List (List AV))
 | []=>some []
 | x :: xs=>match (x.ev F).cells with
  | some vs=>if vs.length=sz then (rowsOf F sz xs).map (vs :: ·) else none
  | none=>none
def Zdi (F:Fr) (d:Nat):Option AX->Option Nat
 | none=>some d
 | some x=>match x.ev F with
  | .sc (.int _ n)=>if 0<=n then some n.toNat else none
  | _=>none
def Zhj (tok:Tok) (n l h:Nat) (m:Option Nat):Tok :=
 match m with
 | some m=>if h=m then .full else .no
 | none=>if l=0/\h=n then tok else if h=n then (match tok with|.full=>.full|_=>.no) else .no
def ZaE (sz:Nat) (rows:List (List AV)):Bool:=rows.all (·.length == sz)
def chunk (sz:Nat):Nat->List AV->List (List AV)
 | 0,_=>[]
 | n+1,cs=>cs.take sz :: chunk sz n (cs.drop sz)
def ZaL (H:Zaa) (sz:Nat):AV->Option (List (List AV))
 | .sl _ rows=>some rows
 | .arr id off len _=>match H.get id with
  | some (.cells cs _)=>if off+len * sz<=cs.length then some (chunk sz len (cs.drop off)) else none
  | _=>none
 | _=>none
def ZmD:List AV->Option Int
 | [.sc (.int .u8 n)]=>some n
 | _=>none
def Zef:List (List AV)->Option (List Int)
 | []=>some []
 | r :: rs=>match ZmD r,Zef rs with
  | some n,some ns=>some (n :: ns)
  | _,_=>none
def strOf (ns:List Int):ByteArray:=ns.foldl (fun r n=>r.push (UInt8.ofNat n.toNat)) ByteArray.empty
def Zgc (es:List (Value×AV)) (seen:List Value):List (Value×AV):=es.filter fun p=>!(seen.any fun k=>kEq k p.1)
def AOp.ev (F : Fr) (H : Zaa) : AOp -> Option (AV × Zaa)
  | .mv x => some (x.ev F, H)
  | .pick c a b => match c.ev F with
    | .sc (.bool t) => some (bif t then a.ev F else b.ev F, H)
    | _ => none
  | .box E x => match (x.ev F).cells with
    | some cs => some (.ptr H.next 0, H.alloc (.cells cs E))
    | none => none
  | .bld zero parts => match Zb9 F zero parts with
    | some cs => some (.agg cs, H)
    | none => none
  | .bsl sz parts => match rowsOf F sz parts with
    | some rows => some (.sl .full rows, H)
    | none => none
  | .bsv E sz parts => match rowsOf F sz parts with
    | some (r :: rows) => some (.arr H.next 0 (rows.length + 1) (rows.length + 1), H.alloc (.cells (r :: rows).flatten E))
    | some [] => some (.sl .full [], H)
    | none => none
  | .ld sz agg x => match x.ev F with
    | .el row off => (Zbd sz agg row off).map (·, H)
    | .ptr id off => match H.get id with
      | some (.cells cs _) => (Zbd sz agg cs off).map (·, H)
      | _ => none
    | _ => none
  | .st sz x y => match x.ev F, (y.ev F).cells with
    | .ptr id off, some vs => match H.get id with
      | some (.cells cs E) => if vs.length = sz /\ off + sz <= cs.length then some (ZaO, H.set id (.cells (splice cs off vs) E)) else none
      | _ => none
    | _, _ => none
  | .nck x => match x.ev F with
    | .ptr id off => some (.ptr id off, H)
    | .el row off => some (.el row off, H)
    | .fn f a b => some (.fn f a b, H)
    | _ => none
  | .bin op x y => match x.ev F, y.ev F with
    | .sc u, .sc v => (ZaI op u v).map fun r => (.sc r, H)
    | _, _ => none
  | .eqf ks neg x y => match x.ev F, y.ev F with
    | .agg cs, .agg ds => match scs ks cs, scs ks ds with
      | some us, some vs => some (.b (neg ^^ ZgE us vs), H)
      | _, _ => none
    | _, _ => none
  | .bnb neg x y => match x.ev F, y.ev F with
    | .sc (.bool a), .sc (.bool b) => some (.b (neg ^^ (a == b)), H)
    | _, _ => none
  | .eqn 0 neg x y => match x.ev F, y.ev F with
    | .sc (.pointer none), .sc (.pointer none) => some (.b (neg ^^ true), H)
    | .ptr _ _, .sc (.pointer none) => some (.b (neg ^^ false), H)
    | .el _ _, .sc (.pointer none) => some (.b (neg ^^ false), H)
    | _, _ => none
  | .eqn 1 neg x y => match x.ev F, y.ev F with
    | .sc (.map none), .sc (.map none) => some (.b (neg ^^ true), H)
    | .mp _, .sc (.map none) => some (.b (neg ^^ false), H)
    | _, _ => none
  | .eqn 3 neg x y => match x.ev F, y.ev F with
    | .sc .nilIface, .sc .nilIface => some (.b (neg ^^ true), H)
    | .sc (.iface _ _), .sc .nilIface => some (.b (neg ^^ false), H)
    | _, _ => none
  | .eqn _ neg x y => match x.ev F, y.ev F with
    | .sc .nilFunc, .sc .nilFunc => some (.b (neg ^^ true), H)
    | .fn _ _ _, .sc .nilFunc => some (.b (neg ^^ false), H)
    | _, _ => none
  | .un op x => match x.ev F with
    | .sc u => (Zc4 op u).map fun r => (.sc r, H)
    | _ => none
  | .cnv k x => match x.ev F with
    | .sc (.int _ n) => some (.sc (.int k (k.wrap n)), H)
    | _ => none
  | .cvs x => match x.ev F with
    | .sc (.string s) => some (.sc (.string s), H)
    | _ => none
  | .sob x => match ZaL H 1 (x.ev F) with
    | some rows => match Zef rows with
      | some ns => some (.sc (.string (strOf ns)), H)
      | none => none
    | none => none
  | .cpy sz x y => match x.ev F, ZaL H sz (y.ev F) with
    | .arr id off ln _, some rows => match H.get id with
      | some (.cells cs E) => if ZaE sz rows = true /\ off + Nat.min rows.length ln * sz <= cs.length then some (.i (Nat.min rows.length ln : Nat), H.set id (.cells (splice cs off ((rows.take (Nat.min rows.length ln)).flatten)) E)) else none
      | _ => none
    | _, _ => none
  | .clr m => match m.ev F with
    | .mp id => match H.get id with
      | some (.map kk _ _) => some (.tup [], H.set id (.map kk [] true))
      | _ => none
    | _ => none
  | .mkf f first caps => some (.fn f (evs F first) (evs F caps), H)
  | .mks E sz bytes zero l c => match l.ev F, c.ev F with
    | .sc (.int .i64 ln), .sc (.int .i64 cn) =>
      if 0 <= ln /\ ln <= cn /\ cn.toNat <= maxLen /\ cn.toNat * bytes <= 140737488355328 then
        (if cn = 0 then some (.sl .full [], H)
         else if ln = cn then some (.arr H.next 0 ln.toNat ln.toNat, H.alloc (.cells ((List.replicate ln.toNat zero).flatten) E))
         else if ln = 0 then some (.sl (.own H.next) [], H.alloc (.tok 0 E sz)) else none)
      else none
    | _, _ => none
  | .slc sz x lo hi mx => match x.ev F with
    | .sl tok rows => match Zdi F 0 lo, Zdi F rows.length hi, Zdi F rows.length mx with
      | some l, some h, some m => if l <= h /\ h <= m /\ m <= rows.length /\ (l = 0 \/ ZaE sz rows = true) then some (.sl (Zhj tok rows.length l h (mx.map fun _ => m)) ((rows.take h).drop l), H) else none
      | _, _, _ => none
    | .arr id off ln cp => match Zdi F 0 lo, Zdi F ln hi, Zdi F cp mx with
      | some l, some h, some m => if l <= h /\ h <= m /\ m <= cp then (if m = l then some (.sl .full [], H) else some (.arr id (off + l * sz) (h - l) (m - l), H)) else none
      | _, _, _ => none
    | _ => none
  | .sla n sz x lo hi mx => match x.ev F with
    | .ptr id off => match Zdi F 0 lo, Zdi F n hi, Zdi F n mx with
      | some l, some h, some m => if l <= h /\ h <= m /\ m <= n /\ n <= maxLen then (if m = l then some (.sl .full [], H) else some (.arr id (off + l * sz) (h - l) (m - l), H)) else none
      | _, _, _ => none
    | _ => none
  | .slS x lo hi => match x.ev F with
    | .sc (.string s) => match Zdi F 0 lo, Zdi F s.size hi with
      | some l, some h => if l <= h /\ h <= s.size then some (.sc (.string (s.extract l h)), H) else none
      | _, _ => none
    | _ => none
  | .fla off x => match x.ev F with
    | .ptr id o => some (.ptr id (o + off), H)
    | .el row o => some (.el row (o + off), H)
    | _ => none
  | .fld off sz agg x => match x.ev F with
    | .agg cs => (Zbd sz agg cs off).map (·, H)
    | _ => none
  | .ixa sz x i => match x.ev F, i.ev F with
    | .sl _ rows, .sc (.int _ n) => if 0 <= n then (match rows[n.toNat]? with
      | some r => if r.length = sz then some (.el r 0, H) else none
      | none => none) else none
    | .arr id off ln _, .sc (.int _ n) => if 0 <= n /\ n < (ln : Int) then some (.ptr id (off + n.toNat * sz), H) else none
    | _, _ => none
  | .ixA n sz x i => match x.ev F, i.ev F with
    | .ptr id off, .sc (.int _ j) => if 0 <= j /\ j < (n : Int) then some (.ptr id (off + j.toNat * sz), H) else none
    | .el row off, .sc (.int _ j) => if 0 <= j /\ j < (n : Int) then some (.el row (off + j.toNat * sz), H) else none
    | _, _ => none
  | .ixv n sz agg x i => match x.ev F, i.ev F with
    | .agg cs, .sc (.int _ j) => if 0 <= j /\ j < (n : Int) then (Zbd sz agg cs (j.toNat * sz)).map (·, H) else none
    | _, _ => none
  | .ixs x i => match x.ev F, i.ev F with
    | .sc (.string s), .sc (.int _ j) => if 0 <= j then (match s[j.toNat]? with
      | some b => some (.sc (.int .u8 b.toNat), H)
      | none => none) else none
    | _, _ => none
  | .ext x i => match x.ev F with
    | .tup vs => match vs[i]? with
      | some v => some (v, H)
      | none => none
    | _ => none
  | .len false x => match x.ev F with
    | .sl _ rows => some (.i rows.length, H)
    | .arr _ _ ln _ => some (.i ln, H)
    | _ => none
  | .len true x => match x.ev F with
    | .sc (.string s) => some (.i s.size, H)
    | _ => none
  | .lnA n => some (.i n, H)
  | .app E sz bytes s x => match s.ev F, ZaL H sz (x.ev F) with
    | .sl tok rows, some xs =>
      if ZaE sz xs = true /\ rows.length + xs.length <= maxLen /\ (rows.length + xs.length) * bytes <= 140737488355328 /\ ZaE sz rows = true then
        (match tok with
         | .own id => match H.get id with
           | some (.tok n E' sz') => if n = rows.length /\ E' = E /\ sz' = sz then some (.sl (.own id) (rows ++ xs), H.set id (.tok (n + xs.length) E sz)) else none
           | _ => none
         | .full => match xs with
           | [] => some (.sl .full rows, H)
           | _ => some (.sl (.own H.next) (rows ++ xs), H.alloc (.tok (rows.length + xs.length) E sz))
         | .no => match xs with
           | [] => some (.sl .no rows, H)
           | _ => none)
      else none
    | _, _ => none
  | .apv _ _ _ _ _ _ => none
  | .mm mx x y => match x.ev F, y.ev F with
    | .sc (.int k a), .sc (.int k' b) => if k = k' then some (.sc (.int k (bif mx then (if b > a then b else a) else (if b < a then b else a))), H) else none
    | _, _ => none
  | .mkm kk => some (.mp H.next, H.alloc (.map kk [] false))
  | .lkp kk zero ok m k => match m.ev F, kk.of (k.ev F) with
    | .mp id, some kv => match H.get id with
      | some (.map kk' es _) => if kk' = kk then (match ZdG kv es with
        | some a => some (bif ok then .tup [a, .b true] else a, H)
        | none => some (bif ok then .tup [zero, .b false] else zero, H)) else none
      | _ => none
    | .sc (.map none), some _ => some (bif ok then .tup [zero, .b false] else zero, H)
    | _, _ => none
  | .mup kk m k x => match m.ev F, kk.of (k.ev F) with
    | .mp id, some kv => match H.get id with
      | some (.map kk' es d) => if kk' = kk then some (ZaO, H.set id (.map kk (Ziw kv (x.ev F) es) d)) else none
      | _ => none
    | _, _ => none
  | .men kk zero m k => match m.ev F, kk.of (k.ev F) with
    | .mp id, some kv => match H.get id with
      | some (.map kk' es false) => if kk' = kk then (match ZdG kv es with
        | some a => some (.tup [a, .stp id kv], H)
        | none => some (.tup [zero, .stp id kv], H.set id (.map kk (Ziw kv zero es) false))) else none
      | _ => none
    | _, _ => none
  | .est m s x => match m.ev F, s.ev F with
    | .mp id, .stp id' kv => match H.get id with
      | some (.map kk es false) => if id = id' /\ (ZdG kv es).isSome then some (ZaO, H.set id (.map kk (Ziw kv (x.ev F) es) false)) else none
      | _ => none
    | _, _ => none
  | .mln m => match m.ev F with
    | .mp id => match H.get id with
      | some (.map _ es _) => some (.i es.length, H)
      | _ => none
    | .sc (.map none) => some (.i 0, H)
    | _ => none
  | .rng m => match m.ev F with
    | .mp id => match H.get id with
      | some (.map _ es false) => some (.ptr H.next 0, H.alloc (.iter id es.length []))
      | _ => none
    | _ => none
  | .nxt str x => match str, x.ev F with
    | false, .ptr id 0 => match H.get id with
      | some (.iter mid n seen) => match H.get mid with
        | some (.map (.one _) es false) => if es.length = n then (match Zgc es seen with
          | [] => some (.tup [.b false], H)
          | [p] => some (.tup [.b true, .sc p.1, p.2], H.set id (.iter mid n (seen ++ [p.1])))
          | _ => none) else none
        | _ => none
      | _ => none
    | _, _ => none
  | .ent x => match x.ev F with
    | .ptr id 0 => match H.get id with
      | some (.iter mid n seen) => match seen.getLast?, H.get mid with
        | some k, some (.map _ es false) => if es.length = n then (match ZdG k es with
          | some a => some (.tup [.sc k, a], H)
          | none => none) else none
        | _, _ => none
      | _ => none
    | _ => none
  | .del kk m k => match m.ev F, kk.of (k.ev F) with
    | .mp id, some kv => match H.get id with
      | some (.map kk' es _) => if kk' = kk then some (.tup [], H.set id (.map kk (ZSm kv es) true)) else none
      | _ => none
    | _, _ => none
  | .call _ _ => none
  | .eqs neg x => match x.ev F with
    | .sl _ [] => some (.ub, H)
    | .sl _ (_ :: _) => some (.b (neg ^^ false), H)
    | .arr _ _ _ _ => some (.b (neg ^^ false), H)
    | _ => none
  | .cap x => match x.ev F with
    | .sl .full rows => some (.i rows.length, H)
    | .arr _ _ _ c => some (.i c, H)
    | _ => none
  | .bad => none
  | .clv x => match x.ev F with
    | .arr id off ln _ => match H.get id with
      | some (.cells cs E) => if 0 < ln /\ off + ln <= cs.length then some (.tup [], H.set id (.cells (splice cs off (List.replicate ln (.i 0))) E)) else none
      | _ => none
    | _ => none
  | .ovl x y => match x.ev F, y.ev F with
    | .arr i _ _ _, .arr j _ _ _ => match H.get i, H.get j with
      | some (.cells _ _), some (.cells cj _) => if i ≠ j /\ 0 < cj.length then some (.b false, H) else none
      | _, _ => none
    | _, _ => none
def ZfR (P:Program) (t:TypeId):Option Bool:=match P.underlying t with
 | some (.struct _)|some (.array _ _)=>some true
 | some _=>some false
 | none=>none
def ZdE (P:Program) (t:TypeId):Option Nat:=(P.info? t).map (·.size)
def Zdt (P:Program) (t:TypeId):Option Value:=(P.info? t).bind (·.zero)
structure EqT where
 eq:TypeId->Option (List SK)
 vec:TypeId->Bool
instance:CoeFun EqT (fun _=>TypeId->Option (List SK)):=⟨EqT.eq⟩
def keyK (P:Program) (eqT:EqT) (t:TypeId):Option KK:=match P.underlying t with
 | some (.int k)=>some (.one (.int k))
 | some .string=>some (.one .str)
 | some .bool=>some (.one .bool)
 | some (.struct _)|some (.array _ _)=>(eqT t).map .row
 | _=>none
def prt (place:Nat->Option (Nat×Nat)) (p:Nat×Operand):Option (Nat×Nat×AX):=(place p.1).map fun os=>(os.1,os.2,cX p.2)
def Zdy (P:Program) (fs:Array Field):Array (Nat×Nat):=fs.map fun f=>(f.offset,((P.info? f.type).map (·.size)).getD 0)
def ZzP (op:BinOp) (x y:AX):Option AOp:=match op with
 | .eql=>some (.eqn 3 false x y)
 | .neq=>some (.eqn 3 true x y)
 | _=>none
def ZzH:Operand->Bool
 | .const .nilIface=>true
 | _=>false
def isNilC:Operand->Bool
 | .const (.slice none 0 0)=>true
 | _=>false
def ZkL (op:BinOp) (x:AX):Option AOp:=match op with
 | .eql=>some (.eqs false x)
 | .neq=>some (.eqs true x)
 | _=>none
def ovlOk (P:Program) (fn:Func):Bool:=decide (fn.name=ZGr)&&(decide (fn.origin = "slices.overlaps")&&(fn.body.isNone&&(match fn.params.toList,fn.resultTypes.toList with
 | [t,t'],[_]=>decide (t=t')&&(match P.underlying t with
  | some (.slice e)=>(P.info? e).isSome
  | _=>false)
 | _,_=>false)))
def cCall (P:Program) (fo:Operand) (args:Array Operand):Option AOp:=match fo with
 | .func f=>if f=ovlId then (match P.funcs[f]?,args.toList with
  | some fn,[x,y]=>if ovlOk P fn=true then some (.ovl (cX x) (cX y)) else none
  | _,_=>none) else some (.call (cX (.func f)) (args.toList.map cX))
 | fo=>some (.call (cX fo) (args.toList.map cX))
theorem ZCA {P:Program} {fo:Operand} {args:Array Operand} {ao:AOp} (h:cCall P fo args=some ao):ao=.call (cX fo) (args.toList.map cX)\/∃f fn x y,fo=.func f/\P.funcs[f]?=some fn/\args.toList=[x,y]/\ovlOk P fn=true/\ao=.ovl (cX x) (cX y):=by
 unfold cCall at h
 split at h
 ·rename_i f
  split at h
  ·split at h
   ·rename_i fn x y h1 h2
    split at h
    ·rename_i h3
     injection h with h
     exact .inr ⟨f,fn,x,y,rfl,h1,h2,h3,h.symm⟩
    ·cases h
   ·cases h
  ·injection h with h
   exact .inl h.symm
 ·injection h with h
  exact .inl h.symm
def cOp (P:Program) (eqT:EqT) (op:Op):Option AOp:=match op with
 | .move x|.assign x=>some (.mv (cX x))
 | .pick c a b=>some (.pick (cX c) (cX a) (cX b))
 | .alloc E=>do let z <- Zdt P E;some (.box E (.c (zeroA (eqT.vec E) z)))
 | .box E x=>some (.box E (cX x))
 | .build t parts=>do
  let z <- Zdt P t
  let zc <- (Zb5 z).cells
  match <- P.underlying t with
  | .struct fs =>
   if fs.all fun f=>(P.info? f.type).isSome then
    let ps <- parts.toList.mapM (prt fun i=>(Zdy P fs)[i]?)
    some (.bld zc ps)
   else none
  | .array _ e=>do
   let s <- ZdE P e
   let ps <- parts.toList.mapM (prt fun i=>some (i * s,s))
   some (.bld zc ps)
  | _=>none
 | .buildSlice t len parts=>do
  match <- P.underlying t with
  | .slice e =>
   let s <- ZdE P e
   let z <- Zdt P e
   if 0<s/\z.cells.size=s/\len * s<=16777216/\parts.toList.map (·.1)=List.range len then (if eqT.vec e then some (.bsv e s (parts.toList.map fun p=>cX p.2)) else some (.bsl s (parts.toList.map fun p=>cX p.2))) else none
  | _=>none
 | .load t x=>do let s <- ZdE P t;let a <- ZfR P t;some (.ld s a (cX x))
 | .store t x y=>do let s <- ZdE P t;some (.st s (cX x) (cX y))
 | .nilCheck x=>some (.nck (cX x))
 | .binOp op t x y _=>do
  match <- P.underlying t with
  | .int _|.string=>some (.bin op (cX x) (cX y))
  | .bool=>match op with
   | .eql=>some (.bnb false (cX x) (cX y))
   | .neq=>some (.bnb true (cX x) (cX y))
   | _=>none
  | .pointer _=>match op with
   | .eql=>some (.eqn 0 false (cX x) (cX y))
   | .neq=>some (.eqn 0 true (cX x) (cX y))
   | _=>none
  | .map _ _=>match op with
   | .eql=>some (.eqn 1 false (cX x) (cX y))
   | .neq=>some (.eqn 1 true (cX x) (cX y))
   | _=>none
  | .slice _=>if isNilC y=true then ZkL op (cX x) else none
  | .func _ _ _=>match op with
   | .eql=>some (.eqn 2 false (cX x) (cX y))
   | .neq=>some (.eqn 2 true (cX x) (cX y))
   | _=>none
  | .interface _=>if ZzH y=true then ZzP op (cX x) (cX y) else none
  | .struct _|.array _ _ =>
   if P.eqGuardType P.depth t then none else
   let ks <- eqT t
   match op with
   | .eql=>some (.eqf ks false (cX x) (cX y))
   | .neq=>some (.eqf ks true (cX x) (cX y))
   | _=>none
  | _=>none
 | .unOp op _ x=>some (.un op (cX x))
 | .convert src dst x=>do
  match <- P.underlying src,<- P.underlying dst with
  | .int _,.int k=>some (.cnv k (cX x))
  | .string,.string=>some (.cvs (cX x))
  | .slice e,.string=>match P.underlying e with
   | some (.int .u8)=>some (.sob (cX x))
   | _=>none
  | _,_=>none
 | .makeFunc (.func f) first caps=>some (.mkf f (first.toList.map cX) (caps.toList.map cX))
 | .makeSlice t l c=>do
  match <- P.underlying t with
  | .slice e =>
   let i <- P.info? e
   let z <- i.zero
   let zc <- (Zb5 z).cells
   if 0<i.size/\z.cells.size=i.size then some (.mks e i.size i.bytes zc (cX l) (cX c)) else none
  | _=>none
 | .slice t x lo hi mx=>do
  match <- P.underlying t with
  | .slice e=>do
   let s <- ZdE P e
   if mx.isSome/\hi.isNone then none else some (.slc s (cX x) (lo.map cX) (hi.map cX) (mx.map cX))
  | .array n e=>do
   let s <- ZdE P e
   if mx.isSome/\hi.isNone then none else some (.sla n s (cX x) (lo.map cX) (hi.map cX) (mx.map cX))
  | .string=>match mx with
   | none=>some (.slS (cX x) (lo.map cX) (hi.map cX))
   | some _=>none
  | _=>none
 | .fieldAddr s x f=>do
  match <- P.underlying s with
  | .struct fs=>do
   let f <- fs[f]?
   let sz <- ZdE P f.type
   if sz=0 then none else some (.fla f.offset (cX x))
  | _=>none
 | .field t x f=>do
  match <- P.underlying t with
  | .struct fs=>do
   let f <- fs[f]?
   let s <- ZdE P f.type
   let a <- ZfR P f.type
   some (.fld f.offset s a (cX x))
  | _=>none
 | .indexAddr t x i=>do
  match <- P.underlying t with
  | .slice e=>do let s <- ZdE P e;some (.ixa s (cX x) (cX i))
  | .array n e=>do let s <- ZdE P e;some (.ixA n s (cX x) (cX i))
  | _=>none
 | .index t x i=>do
  match <- P.underlying t with
  | .array n e=>do let s <- ZdE P e;let a <- ZfR P e;some (.ixv n s a (cX x) (cX i))
  | .string=>some (.ixs (cX x) (cX i))
  | _=>none
 | .lookup t m k ok=>do
  match <- P.underlying t with
  | .map kt et=>do
   let kk <- keyK P eqT kt
   let z <- Zdt P et
   some (.lkp kk (Zb5 z) ok (cX m) (cX k))
  | _=>none
 | .mapUpdate t m k x|.insert t m k x=>do
  match <- P.underlying t with
  | .map kt _=>do let kk <- keyK P eqT kt;some (.mup kk (cX m) (cX k) (cX x))
  | _=>none
 | .mapEntry t m k=>do
  match <- P.underlying t with
  | .map kt et=>do
   let kk <- keyK P eqT kt
   let z <- Zdt P et
   some (.men kk (Zb5 z) (cX m) (cX k))
  | _=>none
 | .entryStore _ m s x=>some (.est (cX m) (cX s) (cX x))
 | .range t x=>do
  match <- P.underlying t with
  | .map _ _=>some (.rng (cX x))
  | _=>none
 | .next x str=>some (.nxt str (cX x))
 | .entry x=>some (.ent (cX x))
 | .makeMap t none=>do
  match <- P.underlying t with
  | .map kt _=>do let kk <- keyK P eqT kt;some (.mkm kk)
  | _=>none
 | .extract x i=>some (.ext (cX x) i)
 | .call c=>match c.callee with
  | .value f=>cCall P f c.args
  | .builtin .len=>match c.args.toList,c.argTypes.toList with
   | [x],[t]=>do
    match <- P.underlying t with
    | .slice _=>some (.len false (cX x))
    | .string=>some (.len true (cX x))
    | .array n _=>some (.lnA n)
    | .map _ _=>some (.mln (cX x))
    | _=>none
   | _,_=>none
  | .builtin .append=>match c.args.toList,c.argTypes.toList with
   | [s,x],[t,t']=>do
    match <- P.underlying t with
    | .slice e =>
     let i <- P.info? e
     let z <- i.zero
     if t=t'/\0<i.size/\z.cells.size=i.size then (if eqT.vec e then ((Zb5 z).cells).bind fun zc=>some (.apv e i.size i.bytes zc (cX s) (cX x)) else some (.app e i.size i.bytes (cX s) (cX x))) else
      (match P.underlying t' with
      | some (.int _)=>if eqT.vec e=true/\0<i.size/\z.cells.size=i.size then ((Zb5 z).cells).bind fun zc=>some (.apv e i.size (i.bytes+1152921504606846976) (zc++[.any]) (cX s) (cX x)) else none
      | _=>none)
    | _=>none
   | _,_=>none
  | .builtin .cap=>match c.args.toList,c.argTypes.toList with
   | [x],[t]=>do
    match <- P.underlying t with
    | .slice _=>some (.cap (cX x))
    | _=>none
   | _,_=>none
  | .builtin .min=>match c.args.toList with
   | [x,y]=>some (.mm false (cX x) (cX y))
   | _=>none
  | .builtin .max=>match c.args.toList with
   | [x,y]=>some (.mm true (cX x) (cX y))
   | _=>none
  | .builtin .copy=>match c.args.toList,c.argTypes.toList with
   | [x,y],[t,_]=>do
    match <- P.underlying t with
    | .slice e=>do let s <- ZdE P e;some (.cpy s (cX x) (cX y))
    | _=>none
   | _,_=>none
  | .builtin .clear=>match c.args.toList,c.argTypes.toList with
   | [m],[t]=>do
    match <- P.underlying t with
    | .map _ _=>some (.clr (cX m))
    | .slice e=>match ZdE P e,Zdt P e with
     | some 1,some (.int .i64 0)=>some (.clv (cX m))
     | _,_=>none
    | _=>none
   | _,_=>none
  | .builtin .delete=>match c.args.toList,c.argTypes.toList with
   | [m,k],t :: _=>do
    match <- P.underlying t with
    | .map kt _=>do let kk <- keyK P eqT kt;some (.del kk (cX m) (cX k))
    | _=>none
   | _,_=>none
  | _=>none
 | _=>none
def cOpB (P:Program) (eqT:EqT) (op:Op):AOp:=match cOp P eqT op with
 | some a=>a
 | none=>.bad
structure Zyd (base:Nat) (w:World) (ds:List Deferred):Prop where
 ok:∀d∈ds,∃D:Nat,d={ target:=.collected D,args:=#[] }/\base<=D/\w.heap[D]?=some (.deferred (some []))
 nd:ds.Nodup
theorem Zyd.nil {base:Nat} {w:World}:Zyd base w []:=⟨(fun d hd=>by cases hd),zb7⟩
structure FR (g:Gh) (w:World) (N:Nat) (F:Fr) (a:Act):Prop where
 size:a.tmps.size=N
 df:Zyd g.base w a.defers
 get:∀t,VR g w (Fr.get F t) (a.tmps.getD t undef)
section
variable {P:Program} {g g':Gh} {H H':Zaa} {w w':World} {N:Nat} {F:Fr} {a:Act}
theorem FR.mono (h:FR g w N F a) (k:g.le g' w w'):FR g' w' N F a:=⟨h.size,⟨fun d hd=>let ⟨D,h1,h2,h3⟩:=h.df.ok d hd;⟨D,h1,by rw[k.base];exact h2,k.dfr D h3⟩,h.df.nd⟩,fun t=>(h.get t).mono k⟩
theorem FR.put (h:FR g w N F a) {d:Option Nat} {x:AV} {u:Value} (hd:∀k,d=some k->k<N) (hx:VR g w x u):FR g w N (Fr.put F d x) (a.put d u):=by
 cases d with
 | none=>exact h
 | some k =>
  have hk:=hd k rfl
  refine⟨by simpa [Act.put] using h.size,h.df,fun t=>?_⟩
  by_cases e:t=k
  ·subst e
   have:(a.put (some t) u).tmps.getD t undef=u:=by simp[Act.put,zaQ,h.size,hk]
   rw[this]
   simp only[Fr.put,Fr.get,if_true]
   exact hx
  ·have:(a.put (some k) u).tmps.getD t undef=a.tmps.getD t undef:=by simp[Act.put,zaQ,zbn e]
   rw[this]
   simp only[Fr.put,Fr.get]
   rw[if_neg e]
   exact h.get t
theorem vr_nil:VR g w (.sl .full []) (.slice none 0 0) :=
 VR.sl .full [] none 0 0 0 0 (fun _ _=>undef) (zad _) (by unfold maxLen;omega) (fun h=>absurd rfl h) (fun r h=>by cases h) (fun i r j x h=>by simp at h) (fun i r j x h=>by simp at h) rfl
theorem Zfi (v:Value):VR g w (Zel v) v:=by
 unfold Zel
 split
 ·exact vr_nil
 ·exact .sc v
theorem Zbt (v:Value):VR g w (Zb5 v) v:=by
 unfold Zb5
 split
 ·rename_i cs
  split
  ·rename_i h
   refine .agg _ cs Xc (fun x hx=>za6.1 h x hx) (fun i x u hx hu=>?_)
   rw[zaO]at hx
   have:cs.toList[i]?=some u:=by simpa using hu
   rw[this]at hx
   injection hx with hx
   subst hx
   exact Zfi u
  ·exact .any _
 ·rename_i f first caps
  split
  ·rename_i h
   simp at h
   obtain⟨rfl,rfl⟩:=h
   exact .fn f [] [] #[] #[] rfl rfl (fun i x u h=>by simp at h) (fun i x u h=>by simp at h)
  ·exact .any _
 ·exact Zfi v
theorem rawA_ok (v:Value):VR g w (rawA v) v:=by
 unfold rawA
 split
 ·rename_i cs
  split
  ·rename_i h
   refine .agg _ cs Xc (fun x hx=>za6.1 h x hx) (fun i x u hx hu=>?_)
   rw[zaO]at hx
   have:cs.toList[i]?=some u:=by simpa using hu
   rw[this]at hx
   injection hx with hx
   subst hx
   exact .sc u
  ·exact .any _
 ·exact .sc v
theorem ZwB (raw:Bool) (v:Value):VR g w (zeroA raw v) v:=by
 cases raw
 ·exact Zbt v
 ·exact rawA_ok v
theorem ZaG (h:FR g w N F a) (x:Operand):VR g w ((cX x).ev F) (a.eval x):=by
 cases x with
 | tmp t=>exact h.get t
 | const v=>exact Zbt v
 | global n=>exact .sc _
 | func f=>exact .fn f [] [] #[] #[] rfl rfl (fun i x u h=>by simp at h) (fun i x u h=>by simp at h)
theorem Zl3 (h:FR g w N F a) (xs:List Operand):VRs g w (evs F (xs.map cX)) (xs.map a.eval):=by
 induction xs with
 | nil=>exact .nil
 | cons x xs ih=>exact ih.cons (ZaG h x)
def Does (P:Program) (g:Gh) (H:Zaa) (w:World) (s:Sem Next) (v:AV) (H':Zaa):Prop :=
 ∃nx u w' g',s.run P w=.ok nx w'/\(nx=.value u\/nx=.skip/\u=undef)/\VR g' w' v u/\WR g' H' w'/\Stp g H w g' H' w'
theorem run_v {s:Sem Value} {u:Value} (h:s.run P w=.ok u w'):(do pure (Next.value (<- s)):Sem Next).run P w=.ok (.value u) w':=by
 simp[h]
theorem run_u {s:Sem Unit} (h:s.run P w=.ok () w'):(do s;pure Next.skip:Sem Next).run P w=.ok .skip w':=by
 simp[h]
theorem Does.still {s:Sem Value} {u:Value} {v:AV} (h:s.run P w=.ok u w) (hv:VR g w v u) (hW:WR g H w):Does P g H w (do pure (Next.value (<- s)):Sem Next) v H :=
 ⟨_,u,w,g,run_v h,.inl rfl,hv,hW,.refl _ _ _⟩
theorem Does.pure {u:Value} {v:AV} (hv:VR g w v u) (hW:WR g H w):Does P g H w (Pure.pure (Next.value u):Sem Next) v H :=
 ⟨_,u,w,g,rfl,.inl rfl,hv,hW,.refl _ _ _⟩
def Lie (g:Gh) (w:World) (b o:Nat) (row:List AV):Prop:=∀j x,row[j]?=some x->∃u,w.cell? ⟨b,o+j,none⟩=some u/\VR g w x u
theorem addr_add (b o n:Nat):(⟨b,o,none⟩:Addr).add n=⟨b,o+n,none⟩:=by unfold Addr.add;split<;>simp_all
theorem Zej {t:TypeId} {ag:Bool} (h:ZfR P t=some ag):(isAgg t).run P w=.ok ag w:=by
 unfold ZfR at h
 cases hu:P.underlying t with
 | none=>rw[hu]at h;cases h
 | some d =>
  rw[hu]at h
  cases d<;>(simp at h;subst h;simp[isAgg,run_underlying hu])
theorem Zcl {t:TypeId} {sz:Nat} (h:ZdE P t=some sz):(sizeOf t).run P w=.ok sz w:=by
 unfold ZdE at h
 cases hi:P.info? t with
 | none=>rw[hi]at h;cases h
 | some i=>rw[hi]at h;simp at h;subst h;simp[sizeOf,typeInfo,hi]
theorem ZhD {t:TypeId} {sz:Nat} {ag:Bool} {b base off:Nat} {row:List AV} {v:AV} (hs:ZdE P t=some sz) (ha:ZfR P t=some ag) (hl:Lie g w b base row) (ho:∀x∈row,x.one=true) (hv:Zbd sz ag row off=some v) :
  ∃u,(loadVar t ⟨b,base+off,none⟩).run P w=.ok u w/\VR g w v u:=by
 unfold Zbd at hv
 cases ag with
 | false =>
  simp only[cond_false]at hv
  obtain⟨u,hc,hu⟩:=hl off v hv
  exact⟨u,by simp[loadVar,Zej ha,hc],hu⟩
 | true =>
  simp only[cond_true]at hv
  split at hv
  ·rename_i hle
   injection hv with hv
   subst hv
   have hex:∀j,∃u,j<sz->(w.cell? ⟨b,base+off+j,none⟩=some u/\∀x,row[off+j]?=some x->VR g w x u):=by
    intro j
    by_cases hj:j<sz
    ·have hlt:off+j<row.length:=Xa
     obtain⟨u,hc,hu⟩:=hl (off+j) _ (zab hlt)
     refine⟨u,fun _=>⟨by rw[zbs];exact hc,fun x hx=>?_⟩⟩
     rw[zab hlt]at hx
     injection hx with hx
     subst hx
     exact hu
    ·exact⟨undef,fun h=>absurd h hj⟩
   obtain⟨f,hf⟩:=zb9 hex
   have hrun:=run_loadCells (P:=P) w ⟨b,base+off,none⟩ sz f (fun j hj=>by rw[addr_add];exact(hf j hj).1)
   refine⟨.agg ((List.range sz).map f).toArray,by simp[loadVar,Zej ha,Zcl hs,hrun],.agg _ _ ?_ ?_ ?_⟩
   ·simp;omega
   ·intro x hx
    exact ho x (zaW (zaB hx))
   ·intro i x u hx hu
    rw[zbc]at hx
    split at hx
    ·rename_i hi
     rw[zbd]at hx
     simp[hi]at hu
     subst hu
     exact(hf i hi).2 x hx
    ·cases hx
  ·cases hv
theorem VRs.lie {b:Nat} {E:TypeId} {fz:Nat×Nat} {cs:List AV} {carr:Array Value} (h:VRs g w cs carr.toList) (hb:w.heap[b]?=some (.cells carr E fz)):Lie g w b 0 cs:=by
 intro j x hx
 obtain⟨u,hu,hv⟩:=h.get hx
 exact⟨u,by simp only[World.cell?,hb,zax];simpa using hu,hv⟩
theorem ld_ok (hW:WR g H w) {t:TypeId} {sz:Nat} {ag:Bool} {x v:AV} {u:Value} {H':Zaa} (hs:ZdE P t=some sz) (ha:ZfR P t=some ag) (hx:VR g w x u)
  (he:AOp.ev F H (.ld sz ag (.c x))=some (v,H')):H'=H/\∃r,(Instr.loadAt t u).run P w=.ok r w/\VR g w v r:=by
 simp only[AOp.ev,AX.ev]at he
 cases hx with
 | el row off b base f hone hcell hv =>
  simp only at he
  cases hr:Zbd sz ag row off with
  | none=>rw[hr]at he;cases he
  | some y =>
   rw[hr]at he
   simp at he
   obtain⟨rfl,rfl⟩:=he
   obtain⟨r,h1,h2⟩:=ZhD (P:=P) (g:=g) (w:=w) (b:=b) (base:=base) hs ha (fun j x hx=>⟨f j,(hcell j x hx).1,hv j x hx⟩) hone hr
   exact⟨rfl,r,by simp[Instr.loadAt,Instr.sureAddr,h1],h2⟩
 | ptr id off b h =>
  simp only at he
  cases ho:H.get id with
  | none=>rw[ho]at he;cases he
  | some o =>
   rw[ho]at he
   cases o with
   | iter mi ni si=>cases he
   | tok n E s=>cases he
   | map kk es d=>cases he
   | cells cs E =>
    simp only at he
    cases hr:Zbd sz ag cs off with
    | none=>rw[hr]at he;cases he
    | some y =>
     rw[hr]at he
     simp at he
     obtain⟨rfl,rfl⟩:=he
     obtain⟨b',carr,h1,h2,h3,h4,h5⟩:=hW.obj id _ ho
     rw[h]at h1
     injection h1 with h1
     subst h1
     obtain⟨r,h6,h7⟩:=ZhD (P:=P) (g:=g) (w:=w) (b:=b) (base:=0) hs ha (h3.lie h2) h4 hr
     rw[zax]at h6
     exact⟨rfl,r,by simp[Instr.loadAt,Instr.sureAddr,h6],h7⟩
 | _=>cases he
end
def Zbv (P:Program) (g:Gh) (H:Zaa) (w:World) (s:Sem Value) (v:AV) (H':Zaa):Prop :=
 ∃u w' g',s.run P w=.ok u w'/\VR g' w' v u/\WR g' H' w'/\Stp g H w g' H' w'
def ZmA (P:Program) (g:Gh) (H:Zaa) (w:World) (s:Sem Unit) (H':Zaa):Prop :=
 ∃w' g',s.run P w=.ok () w'/\WR g' H' w'/\Stp g H w g' H' w'
section
variable {P:Program} {g g':Gh} {H H':Zaa} {w w':World} {N:Nat} {F:Fr} {a:Act}
theorem Zbv.does {s:Sem Value} {v:AV} (h:Zbv P g H w s v H'):Does P g H w (do pure (Next.value (<- s)):Sem Next) v H':=by
 obtain⟨u,w',g',h1,h2,h3,h4⟩:=h
 exact⟨_,u,w',g',run_v h1,.inl rfl,h2,h3,h4⟩
theorem ZmA.does {s:Sem Unit} (h:ZmA P g H w s H'):Does P g H w (do s;pure Next.skip:Sem Next) ZaO H':=by
 obtain⟨w',g',h1,h2,h3⟩:=h
 exact⟨_,undef,w',g',run_u h1,.inr ⟨rfl,rfl⟩,.sc _,h2,h3⟩
theorem Zbv.here {s:Sem Value} {u:Value} {v:AV} (h:s.run P w=.ok u w) (hv:VR g w v u) (hW:WR g H w):Zbv P g H w s v H:=⟨u,w,g,h,hv,hW,.refl _ _ _⟩
theorem VRs.drop {asx:List AV} {vs:List Value} (h:VRs g w asx vs) (i:Nat):VRs g w (asx.drop i) (vs.drop i) :=
 ⟨by simp[h.1],fun j x u hx hu=>by rw[zbd]at hx hu;exact h.2 _ x u hx hu⟩
theorem VRs.take {asx:List AV} {vs:List Value} (h:VRs g w asx vs) (n:Nat):VRs g w (asx.take n) (vs.take n):=by
 have:=h.cut 0 n
 simpa using this
theorem box_ok (hW:WR g H w) {E:TypeId} {x v:AV} {u:Value} (hx:VR g w x u) (he:AOp.ev F H (.box E (.c x))=some (v,H')):Zbv P g H w (Instr.box E u) v H':=by
 simp only[AOp.ev,AX.ev]at he
 cases hc:x.cells with
 | none=>rw[hc]at he;cases he
 | some cs =>
  rw[hc]at he
  simp at he
  obtain⟨rfl,rfl⟩:=he
  obtain⟨h1,h2⟩:=hx.cells hc
  obtain⟨h3,h4,h5⟩:=ZdF hW E h1 h2
  exact⟨_,_,_,by simp[Instr.box,newVar,newRow],h5,h3,h4⟩
theorem st_ok (hW:WR g H w) {t:TypeId} {sz:Nat} {x y v:AV} {u r:Value} (hs:ZdE P t=some sz) (hx:VR g w x u) (hy:VR g w y r) (he:AOp.ev F H (.st sz (.c x) (.c y))=some (v,H')):v=ZaO/\ZmA P g H w (Instr.storeAt t u r) H':=by
 simp only[AOp.ev,AX.ev]at he
 cases hx with
 | ptr id off b h =>
  cases hc:y.cells with
  | none=>rw[hc]at he;cases he
  | some vs =>
   rw[hc]at he
   simp only at he
   cases ho:H.get id with
   | none=>rw[ho]at he;cases he
   | some o =>
    rw[ho]at he
    cases o with
    | iter mi ni si=>cases he
    | tok n E s=>cases he
    | map kk es d=>cases he
    | cells cs E =>
     simp only at he
     split at he
     ·rename_i hle
      simp at he
      obtain⟨rfl,rfl⟩:=he
      obtain⟨hvs,hones⟩:=hy.cells hc
      obtain⟨b',carr,h1,h2,h3,h4,h5⟩:=hW.obj id _ ho
      rw[h]at h1
      injection h1 with h1
      subst h1
      have hl1:r.cells.size=sz:=by have:=hvs.1;simp at this;omega
      have hl2:carr.size=cs.length:=by have:=h3.1;simp at this;omega
      have hrun:=run_storeCells_at P b off E r.cells.toList 0 carr w h2 Xf (hvs.ones hones)
      simp only[Nat.add_zero]at hrun
      refine⟨rfl,w.setRow b (carr.toList.take off++r.cells.toList++carr.toList.drop (off+r.cells.toList.length)).toArray,g,by simp[Instr.storeAt,Instr.sureAddr,storeVar,Zcl hs,hl1,hrun],?_⟩
      refine ZfL hW ho (b:=b) h (fun b'=>zae) (fun b' hb'=>setRow_other w b b' _ hb') (by simp[World.setRow]) rfl rfl rfl (fun j hj=>absurd hj (h5 j)) (fun hle2=>?_)
      refine⟨b,_,h,setRow_heap w b carr _ E _ h2,?_,?_,h5⟩
      ·have e:splice cs off vs=cs.take off++vs++cs.drop (off+vs.length):=rfl
       rw[e]
       have hvl:vs.length=r.cells.toList.length:=hvs.1
       rw[hvl]
       exact(((h3.mono hle2).take off).app (hvs.mono hle2)).app ((h3.mono hle2).drop (off+r.cells.toList.length))
      ·intro z hz
       unfold splice at hz
       simp only[zaw]at hz
       rcases hz with(hz|hz)|hz
       ·exact h4 z (zaB hz)
       ·exact hones z hz
       ·exact h4 z (zaW hz)
     ·cases he
 | _=>simp at he
theorem nck_ok (hW:WR g H w) {x v:AV} {u:Value} (hx:VR g w x u) (he:AOp.ev F H (.nck (.c x))=some (v,H')) (o:Oper) (y:Operand) (ho:o.op=.nilCheck y) (hy:a.eval y=u):Does P g H w (execOp a.eval o) v H':=by
 simp only[AOp.ev,AX.ev]at he
 have hd:execOp a.eval o=pure (Next.value u)->v=x->H'=H->Does P g H w (execOp a.eval o) v H':=by
  intro h1 h2 h3
  subst h2 h3
  rw[h1]
  exact .pure hx hW
 cases hx with
 | ptr id off b h=>simp at he;exact hd (by simp[execOp,ho,hy]) he.1.symm he.2.symm
 | el row off b base f h1 h2 h3=>simp at he;exact hd (by simp[execOp,ho,hy]) he.1.symm he.2.symm
 | fn f first caps vf vc h1 h2 h3 h4=>simp at he;exact hd (by simp[execOp,ho,hy]) he.1.symm he.2.symm
 | _=>cases he
theorem fla_ok (hW:WR g H w) {s:TypeId} {fs:Array Field} {fi:Nat} {fd:Field} {sz:Nat} {x v:AV} {u:Value} (hu:P.underlying s=some (.struct fs)) (hf:fs[fi]?=some fd) (hs:ZdE P fd.type=some sz) (h0:sz≠0) (hx:VR g w x u)
  (he:AOp.ev F H (.fla fd.offset (.c x))=some (v,H')):Zbv P g H w (Instr.fieldAt s u fi) v H':=by
 simp only[AOp.ev,AX.ev]at he
 cases hx with
 | ptr id off b h =>
  simp at he
  obtain⟨rfl,rfl⟩:=he
  refine .here (u:=.pointer (some ⟨b,off+fd.offset,none⟩)) ?_ (.ptr id _ b h) hW
  simp[Instr.fieldAt,run_underlying hu,hf,Instr.sureAddr,fieldPlace,Zcl hs,h0,addr_add]
 | el row off b base f h1 h2 h3 =>
  simp at he
  obtain⟨rfl,rfl⟩:=he
  refine .here (u:=.pointer (some ⟨b,base+(off+fd.offset),none⟩)) ?_ (.el row _ b base f h1 h2 h3) hW
  simp[Instr.fieldAt,run_underlying hu,hf,Instr.sureAddr,fieldPlace,Zcl hs,h0,addr_add,zbs]
 | _=>cases he
theorem ZlS {t:TypeId} {sz:Nat} {ag:Bool} {cs:List AV} {vs:Array Value} {off:Nat} {v:AV} (hs:ZdE P t=some sz) (ha:ZfR P t=some ag) (h:VR g w (.agg cs) (.agg vs)) (hv:Zbd sz ag cs off=some v) :
  ∃u,(part t vs off).run P w=.ok u w/\VR g w v u:=by
 cases h with
 | agg _ _ hl hone hval =>
 unfold Zbd at hv
 have hV:VRs g w cs vs.toList:=⟨by simpa using hl,fun i x u hx hu=>hval i x u hx (by simpa using hu)⟩
 cases ag with
 | false =>
  simp only[cond_false]at hv
  obtain⟨u,hu,hr⟩:=hV.get hv
  have hu':vs[off]?=some u:=by simpa using hu
  exact⟨u,by simp[part,Zej ha,hu'],hr⟩
 | true =>
  simp only[cond_true]at hv
  split at hv
  ·rename_i hle
   injection hv with hv
   subst hv
   refine⟨.agg (vs.extract off (off+sz)),by simp[part,Zej ha,Zcl hs],.agg _ _ ?_ ?_ ?_⟩
   ·simp;omega
   ·intro x hx
    exact hone x (zaW (zaB hx))
   ·intro i x u hx hu
    rw[zbc]at hx
    split at hx
    ·rw[zbd]at hx
     refine hval (off+i) x u hx ?_
     rw[Array.getElem?_extract]at hu
     split at hu
     ·exact hu
     ·cases hu
    ·cases hx
  ·cases hv
theorem fld_ok (hW:WR g H w) {t:TypeId} {fs:Array Field} {fi:Nat} {fd:Field} {sz:Nat} {ag:Bool} {x v:AV} {u:Value} (hu:P.underlying t=some (.struct fs)) (hf:fs[fi]?=some fd) (hs:ZdE P fd.type=some sz) (ha:ZfR P fd.type=some ag) (hx:VR g w x u)
  (he:AOp.ev F H (.fld fd.offset sz ag (.c x))=some (v,H')):Zbv P g H w (Instr.field t u fi) v H':=by
 simp only[AOp.ev,AX.ev]at he
 have hx':=hx
 cases hx with
 | agg cs vs h1 h2 h3 =>
  simp only at he
  cases hr:Zbd sz ag cs fd.offset with
  | none=>rw[hr]at he;cases he
  | some y =>
   rw[hr]at he
   simp at he
   obtain⟨rfl,rfl⟩:=he
   obtain⟨r,h4,h5⟩:=ZlS (P:=P) hs ha hx' hr
   exact .here (by simp[Instr.field,run_underlying hu,hf,asAgg,h4]) h5 hW
 | _=>cases he
theorem ixv_ok (hW:WR g H w) {t e:TypeId} {n sz:Nat} {ag:Bool} {x i v:AV} {u r:Value} (hu:P.underlying t=some (.array n e)) (hs:ZdE P e=some sz) (ha:ZfR P e=some ag) (hx:VR g w x u) (hi:VR g w i r)
  (he:AOp.ev F H (.ixv n sz ag (.c x) (.c i))=some (v,H')):Zbv P g H w (Instr.index t u r) v H':=by
 simp only[AOp.ev,AX.ev]at he
 have hx':=hx
 cases hx with
 | agg cs vs h1 h2 h3 =>
  cases hi with
  | sc r =>
   cases r with
   | int k j =>
    simp only at he
    split at he
    ·rename_i hj
     cases hr:Zbd sz ag cs (j.toNat * sz)with
     | none=>rw[hr]at he;cases he
     | some y =>
      rw[hr]at he
      simp at he
      obtain⟨rfl,rfl⟩:=he
      obtain⟨q,h4,h5⟩:=ZlS (P:=P) hs ha hx' hr
      exact .here (by simp[Instr.index,asIntOf,run_underlying hu,hj,Zcl hs,h4]) h5 hW
    ·cases he
   | _=>cases he
  | _=>cases he
 | _=>cases he
theorem ixs_ok (hW:WR g H w) {t:TypeId} {x i v:AV} {u r:Value} (hu:P.underlying t=some .string) (hx:VR g w x u) (hi:VR g w i r)
  (he:AOp.ev F H (.ixs (.c x) (.c i))=some (v,H')):Zbv P g H w (Instr.index t u r) v H':=by
 simp only[AOp.ev,AX.ev]at he
 cases hx with
 | sc u =>
  cases hi with
  | sc r =>
   cases u with
   | string s =>
    cases r with
    | int k j =>
     simp only at he
     split at he
     ·rename_i hj
      cases hb:s[j.toNat]? with
      | none=>rw[hb]at he;cases he
      | some b =>
       rw[hb]at he
       simp at he
       obtain⟨rfl,rfl⟩:=he
       exact .here (by simp[Instr.index,asIntOf,run_underlying hu,hj,hb]) (.sc _) hW
     ·cases he
    | _=>cases he
   | _=>simp at he
  | _=>cases u<;>cases he
 | _=>cases he
theorem ext_ok (hW:WR g H w) {x v:AV} {u:Value} {i:Nat} (hx:VR g w x u) (he:AOp.ev F H (.ext (.c x) i)=some (v,H')):Zbv P g H w (Instr.extract u i) v H':=by
 simp only[AOp.ev,AX.ev]at he
 cases hx with
 | tup cs vs hl hv =>
  simp only at he
  cases hr:cs[i]? with
  | none=>rw[hr]at he;cases he
  | some y =>
   rw[hr]at he
   simp at he
   obtain⟨rfl,rfl⟩:=he
   have hi:i<vs.size:=by rw[<- hl];exact(zah.1 hr).1
   exact .here (u:=vs[i]) (by simp[Instr.extract,hi]) (hv i _ _ hr (zal hi)) hW
 | _=>cases he
theorem ixa_ok (hW:WR g H w) {t e:TypeId} {sz:Nat} {x i v:AV} {u r:Value} (hu:P.underlying t=some (.slice e)) (hs:ZdE P e=some sz) (hx:VR g w x u) (hi:VR g w i r)
  (he:AOp.ev F H (.ixa sz (.c x) (.c i))=some (v,H')):Zbv P g H w (Instr.indexAt t u r) v H':=by
 simp only[AOp.ev,AX.ev]at he
 cases hx with
 | sl tok rows A c sz' b o f hc hm hA hsz hcell hv ht =>
  cases hi with
  | sc r =>
   cases r with
   | int k j =>
    simp only at he
    split at he
    ·rename_i hj
     cases hr:rows[j.toNat]? with
     | none=>rw[hr]at he;cases he
     | some row =>
      rw[hr]at he
      simp only at he
      split at he
      ·rename_i hl
       simp at he
       obtain⟨rfl,rfl⟩:=he
       have hlt:=(zah.1 hr).1
       have hmem:row∈rows:=zaN hr
       have e1:sz'=sz:=by rw[<- hl];exact((hsz row hmem).1).symm
       subst e1
       have hA':=hA (by rintro rfl;simp at hr)
       subst hA'
       have hj2:j<(rows.length:Int):=Xa
       refine .here (u:=.pointer (some ⟨b,o+j.toNat * sz'+0,none⟩)) ?_ (.el row 0 b (o+j.toNat * sz') (fun q=>f j.toNat q) (hsz row hmem).2 (fun q x hq=>hcell _ row q x hr hq) (fun q x hq=>hv _ row q x hr hq)) hW
       simp[Instr.indexAt,asIntOf,run_underlying hu,hj,hj2,Zcl hs,addr_add]
      ·cases he
    ·cases he
   | _=>cases he
  | _=>cases he
 | arr id off len cap b h hc hm =>
  cases hi with
  | sc r =>
   cases r with
   | int k j =>
    simp only at he
    split at he
    ·rename_i hj
     simp at he
     obtain⟨rfl,rfl⟩:=he
     refine .here (u:=.pointer (some ⟨b,off+j.toNat * sz,none⟩)) ?_ (.ptr id _ b h) hW
     simp[Instr.indexAt,asIntOf,run_underlying hu,hj.1,hj.2,Zcl hs,addr_add]
    ·cases he
   | _=>cases he
  | _=>cases he
 | _=>cases he
theorem ixA_ok (hW:WR g H w) {t e:TypeId} {n sz:Nat} {x i v:AV} {u r:Value} (hu:P.underlying t=some (.array n e)) (hs:ZdE P e=some sz) (hx:VR g w x u) (hi:VR g w i r)
  (he:AOp.ev F H (.ixA n sz (.c x) (.c i))=some (v,H')):Zbv P g H w (Instr.indexAt t u r) v H':=by
 simp only[AOp.ev,AX.ev]at he
 cases hx with
 | ptr id off b h =>
  cases hi with
  | sc r =>
   cases r with
   | int k j =>
    simp only at he
    split at he
    ·rename_i hj
     simp at he
     obtain⟨rfl,rfl⟩:=he
     refine .here (u:=.pointer (some ⟨b,off+j.toNat * sz,none⟩)) ?_ (.ptr id _ b h) hW
     simp[Instr.indexAt,asIntOf,run_underlying hu,hj.1,hj.2,Zcl hs,addr_add,Instr.sureAddr]
    ·cases he
   | _=>cases he
  | _=>cases he
 | el row off b base f h1 h2 h3 =>
  cases hi with
  | sc r =>
   cases r with
   | int k j =>
    simp only at he
    split at he
    ·rename_i hj
     simp at he
     obtain⟨rfl,rfl⟩:=he
     refine .here (u:=.pointer (some ⟨b,base+(off+j.toNat * sz),none⟩)) ?_ (.el row _ b base f h1 h2 h3) hW
     simp[Instr.indexAt,asIntOf,run_underlying hu,hj.1,hj.2,Zcl hs,addr_add,Instr.sureAddr,zbs]
    ·cases he
   | _=>cases he
  | _=>cases he
 | _=>cases he
end
section
variable {P:Program} {g g':Gh} {H H':Zaa} {w w':World} {N:Nat} {F:Fr} {a:Act}
theorem intSc_ok {op : BinOp} {k : IntKind} {x y : Int} {r : Value} {t : TypeId} (h : Za4 op k x y = some r) : (binOp op t (.int k x) (.int k y)).run P w = .ok r w := by
  cases op <;> simp only [Za4] at h <;> first
    | (injection h with h; subst h; simp [binOp, Op.intArith, Op.intBits, Op.intCmp]; done)
    | (split at h
       · cases h
       · rename_i h0; injection h with h; subst h; simp [binOp, Op.intDiv, h0])
    | cases h
theorem strSc_ok {op:BinOp} {x y:ByteArray} {r:Value} {t:TypeId} (h:ZwL op x y=some r):(binOp op t (.string x) (.string y)).run P w=.ok r w:=by
 by_cases ha:op=.add
 ·subst ha
  simp only[ZwL]at h
  split at h
  ·rename_i h0
   injection h with h
   subst h
   simp only[maxLen]at h0
   simp[binOp,Op.stringOp]
   omega
  ·cases h
 ·cases op<;>simp only[ZwL]at h<;>first
  | exact absurd rfl ha
  | (injection h with h;subst h;simp[binOp,Op.stringOp];done)
  | cases h
theorem binSc_ok {op : BinOp} {u v r : Value} {t : TypeId} {x y : Operand} (h : ZaI op u v = some r) : (do eqGuard op t x y u v; binOp op t u v : Sem Value).run P w = .ok r w := by
  have hg : (eqGuard op t x y u v).run P w = .ok () w := by
    cases u <;> (try (simp [ZaI] at h; done)) <;> cases v <;> (try (simp [ZaI] at h; done)) <;> (cases op <;> simp [eqGuard])
  simp only [Sem.run_bind, hg, Result.andThen_ok]
  cases u with
  | int k a =>
    cases v with
    | int k' b =>
      simp only [ZaI] at h
      cases op <;> simp only at h <;> first
        | (split at h
           · cases h
           · rename_i h0; injection h with h; subst h; simp [binOp, Op.shift, h0]; done)
        | (split at h
           · rename_i hk; subst hk; exact intSc_ok h
           · cases h)
    | _ => simp [ZaI] at h
  | string a =>
    cases v with
    | string b => exact strSc_ok h
    | _ => simp [ZaI] at h
  | _ => simp [ZaI] at h
theorem bin_ok (hW:WR g H w) {t:TypeId} {op:BinOp} {x y v:AV} {u r:Value} {ox oy:Operand} (hx:VR g w x u) (hy:VR g w y r) (he:AOp.ev F H (.bin op (.c x) (.c y))=some (v,H')) :
  Zbv P g H w (do eqGuard op t ox oy u r;binOp op t u r) v H':=by
 simp only[AOp.ev,AX.ev]at he
 cases hx with
 | sc u =>
  cases hy with
  | sc r =>
   simp only at he
   cases hb:ZaI op u r with
   | none=>rw[hb]at he;cases he
   | some q =>
    rw[hb]at he
    simp at he
    obtain⟨rfl,rfl⟩:=he
    exact .here (binSc_ok hb) (.sc _) hW
  | _=>cases he
 | _=>cases he
theorem Zcg {t:TypeId} {u r:Value} {x:Result Bool} (h:∀n,(Op.equalIn (n+1) t u r).run P w=x):(Op.equal t u r).run P w=x:=h 9999
theorem ZfN {t:TypeId} {neg b:Bool} {u r:Value} {ox oy:Operand} (hg:∀op,(eqGuard op t ox oy u r).run P w=.ok () w) (h1:binOp .eql t u r=(do pure (.bool (<- Op.equal t u r)))) (h2:binOp .neq t u r=(do pure (.bool (!(<- Op.equal t u r))))) (he:(Op.equal t u r).run P w=.ok b w) :
  (do eqGuard (bif neg then .neq else .eql) t ox oy u r;binOp (bif neg then .neq else .eql) t u r:Sem Value).run P w=.ok (.bool (neg ^^ b)) w:=by
 cases neg
 ·simp[hg,h1,he]
 ·simp[hg,h2,he]
theorem Zdz (hW:WR g H w) {t:TypeId} {neg b:Bool} {v:AV} {u r:Value} {ox oy:Operand} (h1:v=.b (neg ^^ b)) (h2:H'=H) (h3:∀op,(eqGuard op t ox oy u r).run P w=.ok () w) (h4:binOp .eql t u r=(do pure (.bool (<- Op.equal t u r)))) (h5:binOp .neq t u r=(do pure (.bool (!(<- Op.equal t u r))))) (h6:(Op.equal t u r).run P w=.ok b w) :
  Zbv P g H w (do eqGuard (bif neg then .neq else .eql) t ox oy u r;binOp (bif neg then .neq else .eql) t u r) v H':=by
 subst h1 h2
 exact .here (ZfN h3 h4 h5 h6) (.sc _) hW
theorem bnb_ok (hW:WR g H w) {t:TypeId} {neg:Bool} {x y v:AV} {u r:Value} {ox oy:Operand} (hu:P.underlying t=some .bool) (hx:VR g w x u) (hy:VR g w y r) (he:AOp.ev F H (.bnb neg (.c x) (.c y))=some (v,H')) :
  Zbv P g H w (do eqGuard (bif neg then .neq else .eql) t ox oy u r;binOp (bif neg then .neq else .eql) t u r) v H':=by
 simp only[AOp.ev,AX.ev]at he
 split at he
 ·cases hx;cases hy
  simp only[zaa,zaf]at he
  exact Zdz hW he.1.symm he.2.symm (fun op=>by cases op<;>simp[eqGuard]) rfl rfl (Zcg fun n=>by simp[Op.equalIn,run_underlying hu])
 ·cases he
theorem ZgF (hW:WR g H w) {t:TypeId} {kd:Nat} {neg:Bool} {x y v:AV} {u r:Value} {ox oy:Operand} {d:TypeDesc} (hu:P.underlying t=some d) (hd:(kd=0/\∃e,d=.pointer e)\/(kd=1/\∃k e,d=.map k e)\/(kd=2/\∃p q z,d=.func p q z)) (hx:VR g w x u) (hy:VR g w y r)
  (he:AOp.ev F H (.eqn kd neg (.c x) (.c y))=some (v,H')) :
  Zbv P g H w (do eqGuard (bif neg then .neq else .eql) t ox oy u r;binOp (bif neg then .neq else .eql) t u r) v H':=by
 rcases hd with⟨rfl,e,rfl⟩|⟨rfl,k,e,rfl⟩|⟨rfl,p,q,z,rfl⟩
 ·simp only[AOp.ev,AX.ev]at he
  split at he
  ·cases hx;cases hy
   simp only[zaa,zaf]at he
   exact Zdz hW he.1.symm he.2.symm (fun op=>by cases op<;>simp[eqGuard]) rfl rfl (Zcg fun n=>by simp[Op.equalIn,run_underlying hu])
  ·cases hx;cases hy
   simp only[zaa,zaf]at he
   exact Zdz hW he.1.symm he.2.symm (fun op=>by cases op<;>simp[eqGuard]) rfl rfl (Zcg fun n=>by simp[Op.equalIn,run_underlying hu])
  ·cases hx;cases hy
   simp only[zaa,zaf]at he
   exact Zdz hW he.1.symm he.2.symm (fun op=>by cases op<;>simp[eqGuard]) rfl rfl (Zcg fun n=>by simp[Op.equalIn,run_underlying hu])
  ·cases he
 ·simp only[AOp.ev,AX.ev]at he
  split at he
  ·cases hx;cases hy
   simp only[zaa,zaf]at he
   exact Zdz hW he.1.symm he.2.symm (fun op=>by cases op<;>simp[eqGuard]) rfl rfl (Zcg fun n=>by simp[Op.equalIn,run_underlying hu])
  ·cases hx;cases hy
   simp only[zaa,zaf]at he
   exact Zdz hW he.1.symm he.2.symm (fun op=>by cases op<;>simp[eqGuard]) rfl rfl (Zcg fun n=>by simp[Op.equalIn,run_underlying hu])
  ·cases he
 ·simp only[AOp.ev,AX.ev]at he
  split at he
  ·cases hx;cases hy
   simp only[zaa,zaf]at he
   exact Zdz hW he.1.symm he.2.symm (fun op=>by cases op<;>simp[eqGuard]) rfl rfl (Zcg fun n=>by simp[Op.equalIn,run_underlying hu])
  ·cases hx;cases hy
   simp only[zaa,zaf]at he
   exact Zdz hW he.1.symm he.2.symm (fun op=>by cases op<;>simp[eqGuard]) rfl rfl (Zcg fun n=>by simp[Op.equalIn,run_underlying hu])
  ·cases he
theorem eqi_ok (hW:WR g H w) {t:TypeId} {neg:Bool} {x y v:AV} {u r:Value} {ox oy:Operand} {ms:Array (String×TypeId)} (hu:P.underlying t=some (.interface ms)) (hc:ZzH oy=true) (hx:VR g w x u) (hy:VR g w y r)
  (he:AOp.ev F H (.eqn 3 neg (.c x) (.c y))=some (v,H')) :
  Zbv P g H w (do eqGuard (bif neg then .neq else .eql) t ox oy u r;binOp (bif neg then .neq else .eql) t u r) v H':=by
 simp only[AOp.ev,AX.ev]at he
 split at he
 ·cases hx;cases hy
  simp only[zaa,zaf]at he
  obtain rfl:oy=.const .nilIface:=by
   unfold ZzH at hc
   split at hc
   ·rfl
   ·cases hc
  exact Zdz hW he.1.symm he.2.symm (fun op=>by cases op<;>simp[eqGuard]) rfl rfl (Zcg fun n=>by simp[Op.equalIn,run_underlying hu])
 ·cases hx;cases hy
  simp only[zaa,zaf]at he
  obtain rfl:oy=.const .nilIface:=by
   unfold ZzH at hc
   split at hc
   ·rfl
   ·cases hc
  exact Zdz hW he.1.symm he.2.symm (fun op=>by cases op<;>simp[eqGuard]) rfl rfl (Zcg fun n=>by simp[Op.equalIn,run_underlying hu])
 ·cases he
def Ziv (P:Program) (t:TypeId) (ks:List SK):Prop :=
 ∀(xs ys:List Value),xs.length=ks.length->ys.length=ks.length->(∀(i:Nat) (k:SK) (x:Value),ks[i]?=some k->xs[i]?=some x->k.is x=true)->(∀(i:Nat) (k:SK) (y:Value),ks[i]?=some k->ys[i]?=some y->k.is y=true)->∀w,
  (Op.equal t (.agg xs.toArray) (.agg ys.toArray)).run P w=.ok (ZgE xs ys) w/\∀b,(Instr.checkKey b 10000 t (.agg xs.toArray)).run P w=.ok () w
theorem ZjC:∀{ks:List SK} {cs:List AV} {us:List Value} {vs:List Value},scs ks cs=some us->VRs g w cs vs->vs=us/\us.length=ks.length/\∀(i:Nat) (k:SK) (x:Value),ks[i]?=some k->us[i]?=some x->k.is x=true
 | [],[],us,vs,h,hv=>by
  simp[scs]at h
  subst h
  have:=hv.1
  simp at this
  exact⟨zaA this.symm,rfl,fun i k x h=>by simp at h⟩
 | [],c :: cs,us,vs,h,hv=>by simp[scs]at h
 | k :: ks,[],us,vs,h,hv=>by simp[scs]at h
 | k :: ks,c :: cs,us,vs,h,hv=>by
  cases c with
  | sc v =>
   simp only[scs]at h
   cases hk:k.is v with
   | false=>rw[hk]at h;cases h
   | true =>
    rw[hk]at h
    simp only[cond_true]at h
    cases hs:scs ks cs with
    | none=>rw[hs]at h;cases h
    | some rs =>
     rw[hs]at h
     simp at h
     subst h
     cases vs with
     | nil=>have:=hv.1;simp at this
     | cons y ys =>
      have h0:=hv.2 0 _ _ rfl rfl
      cases h0
      have hr:VRs g w cs ys:=⟨by have:=hv.1;simpa using this,fun i x u hx hu=>hv.2 (i+1) x u (by simpa using hx) (by simpa using hu)⟩
      obtain⟨h1,h2,h3⟩:=ZjC hs hr
      subst h1
      refine⟨rfl,by simp[h2],fun i k' x hk' hx=>?_⟩
      cases i with
      | zero=>simp at hk' hx;subst hk' hx;exact hk
      | succ i=>exact h3 i k' x (by simpa using hk') (by simpa using hx)
  | _=>simp[scs]at h
theorem Zke (hW:WR g H w) {t:TypeId} {ks:List SK} {neg:Bool} {x y v:AV} {u r:Value} {ox oy:Operand} (hE:Ziv P t ks) (hgd:P.eqGuardType P.depth t=false) (hx:VR g w x u) (hy:VR g w y r)
  (he:AOp.ev F H (.eqf ks neg (.c x) (.c y))=some (v,H')):Zbv P g H w (do eqGuard (bif neg then .neq else .eql) t ox oy u r;binOp (bif neg then .neq else .eql) t u r) v H':=by
 simp only[AOp.ev,AX.ev]at he
 cases hx with
 | agg cs vs h1 h2 h3 =>
  cases hy with
  | agg ds rs k1 k2 k3 =>
   simp only at he
   cases hs:scs ks cs with
   | none=>rw[hs]at he;simp at he
   | some us =>
    cases hs2:scs ks ds with
    | none=>rw[hs,hs2]at he;simp at he
    | some ts =>
     rw[hs,hs2]at he
     simp at he
     obtain⟨rfl,rfl⟩:=he
     obtain⟨e1,l1,t1⟩:=ZjC (g:=g) (w:=w) hs (vs:=vs.toList) ⟨by simpa using h1,fun i x u hx hu=>h3 i x u hx (by simpa using hu)⟩
     obtain⟨e2,l2,t2⟩:=ZjC (g:=g) (w:=w) hs2 (vs:=rs.toList) ⟨by simpa using k1,fun i x u hx hu=>k3 i x u hx (by simpa using hu)⟩
     have ev:vs=us.toArray:=by rw[<- e1]
     have er:rs=ts.toArray:=by rw[<- e2]
     subst ev er
     have hq:=(hE us ts l1 l2 t1 t2 w).1
     exact .here (ZfN (fun op=>by cases op<;>simp[eqGuard,hgd]) rfl rfl hq) (.sc _) hW
  | _=>cases he
 | _=>cases he
theorem un_ok (hW:WR g H w) {op:UnOp} {x v:AV} {u:Value} (hx:VR g w x u) (he:AOp.ev F H (.un op (.c x))=some (v,H')):Zbv P g H w (Op.unary op u) v H':=by
 simp only[AOp.ev,AX.ev]at he
 cases hx with
 | sc u =>
  simp only at he
  cases hb:Zc4 op u with
  | none=>rw[hb]at he;cases he
  | some q =>
   rw[hb]at he
   simp at he
   obtain⟨rfl,rfl⟩:=he
   refine .here ?_ (.sc _) hW
   cases op<;>cases u<;>simp[Zc4]at hb<;>subst hb<;>simp[Op.unary,Op.intArith,Op.intBits]
 | _=>cases he
theorem cnv_ok (hW:WR g H w) {src dst:TypeId} {k k0:IntKind} {x v:AV} {u:Value} (h1:P.underlying src=some (.int k0)) (h2:P.underlying dst=some (.int k)) (hx:VR g w x u) (he:AOp.ev F H (.cnv k (.c x))=some (v,H')):Zbv P g H w (convert src dst u) v H':=by
 simp only[AOp.ev,AX.ev]at he
 cases hx with
 | sc u =>
  cases u with
  | int k' n =>
   simp at he
   obtain⟨rfl,rfl⟩:=he
   exact .here (by simp[convert,run_underlying h1,run_underlying h2,Conv.intToInt]) (.sc _) hW
  | _=>cases he
 | _=>cases he
theorem mkf_ok (hW:WR g H w) {f:FuncId} {fs cs:List AX} {v:AV} {vf vc:List Value} (h1:VRs g w (evs F fs) vf) (h2:VRs g w (evs F cs) vc) (he:AOp.ev F H (.mkf f fs cs)=some (v,H')):Zbv P g H w (Instr.makeFunc (.func f) vf.toArray vc.toArray) v H':=by
 simp only[AOp.ev]at he
 simp at he
 obtain⟨rfl,rfl⟩:=he
 exact .here (u:=.func (.func f) vf.toArray vc.toArray) rfl (.fn f _ _ _ _ (by simpa using h1.1) (by simpa using h2.1) (fun i x u hx hu=>h1.2 i x u hx (by simpa using hu)) (fun i x u hx hu=>h2.2 i x u hx (by simpa using hu))) hW
theorem mm_ok (hW:WR g H w) {mx:Bool} {x y v:AV} {u r:Value} {ts:Array TypeId} {ty:TypeId} (hx:VR g w x u) (hy:VR g w y r) (he:AOp.ev F H (.mm mx (.c x) (.c y))=some (v,H')):Zbv P g H w (bif mx then Builtin.max_ ts ty #[u,r] else Builtin.min_ ts ty #[u,r]) v H':=by
 simp only[AOp.ev,AX.ev]at he
 cases hx with
 | sc u =>
  cases hy with
  | sc r =>
   cases u with
   | int k p =>
    cases r with
    | int k' q =>
     simp only at he
     split at he
     ·rename_i hk
      simp at he
      obtain⟨rfl,rfl⟩:=he
      cases mx
      ·exact .here (u:=.int k (if q<p then q else p)) (by simp[Builtin.min_,Builtin.min2]) (.sc _) hW
      ·exact .here (u:=.int k (if q > p then q else p)) (by simp[Builtin.max_,Builtin.max2]) (.sc _) hW
     ·cases he
    | _=>cases he
   | _=>cases r<;>simp at he
  | _=>cases u<;>cases he
 | _=>cases he
end
theorem Zj8 (off:Nat):∀(vs:List Value) (k:Nat) (cs:Array Value),off+k+vs.length<=cs.size ->
  ((vs.zipIdx k).foldl (fun cs (p:Value×Nat)=>cs.setIfInBounds (off+p.2) p.1) cs).toList=cs.toList.take (off+k)++vs++cs.toList.drop (off+k+vs.length)
 | [],k,cs,h=>by simp
 | v :: vs,k,cs,h=>by
  simp only[List.zipIdx_cons,List.foldl_cons]
  rw[Zj8 off vs (k+1) _ (by simp at h ⊢;omega)]
  simp only[Array.toList_setIfInBounds,List.length_cons]
  have e1:off+(k+1)=off+k+1:=Xa
  have e2:off+k+1+vs.length=off+k+(vs.length+1):=Xa
  rw[e1,e2]
  simp only[List.length_cons]at h
  have hlt:off+k<cs.toList.length:=by simp;omega
  have h1:(cs.toList.set (off+k) v).take (off+k+1)=cs.toList.take (off+k)++[v]:=by
   rw[zas (by simpa using hlt)]
   have:(cs.toList.set (off+k) v).take (off+k)=cs.toList.take (off+k):=by
    apply zcd
    intro j
    simp only[zbc]
    split
    ·rw[zbF Xa]
    ·rfl
   rw[this]
   simp
  have h2:(cs.toList.set (off+k) v).drop (off+k+(vs.length+1))=cs.toList.drop (off+k+(vs.length+1)):=by
   apply zcd
   intro j
   simp only[zbd]
   rw[zbF Xa]
  rw[h1,h2]
  simp
theorem ZjM (vs cells:Array Value) (off:Nat) (h:off+vs.size<=cells.size) :
  (vs.zipIdx.foldl (fun cs (p:Value×Nat)=>cs.setIfInBounds (off+p.2) p.1) cells).toList=splice cells.toList off vs.toList:=by
 have:=Zj8 off vs.toList 0 cells (by simpa using h)
 rw[<- Array.foldl_toList,Array.toList_zipIdx,this]
 simp[splice]
section
variable {P:Program} {g g':Gh} {H H':Zaa} {w w':World} {N:Nat} {F:Fr} {a:Act}
theorem ZmQ {cs vs:List AV} {us rs:List Value} {off:Nat} (h:VRs g w cs us) (k:VRs g w vs rs):VRs g w (splice cs off vs) (splice us off rs):=by
 unfold splice
 rw[k.1]
 exact((h.take off).app k).app (h.drop _)
theorem ZkQ {cs vs:List AV} {off:Nat} (h:∀x∈cs,x.one=true) (k:∀x∈vs,x.one=true):∀x∈splice cs off vs,x.one=true:=by
 intro x hx
 unfold splice at hx
 simp only[zaw]at hx
 rcases hx with(hx|hx)|hx
 ·exact h x (zaB hx)
 ·exact k x hx
 ·exact h x (zaW hx)
theorem ZiW (hF:FR g w N F a) (place:Nat->Option (Nat×Nat)):∀(parts:List (Nat×Operand)) (ps:List (Nat×Nat×AX)) (cs out:List AV) (carr:Array Value),parts.mapM (prt place)=some ps->VRs g w cs carr.toList->(∀x∈cs,x.one=true)->Zb9 F cs ps=some out ->
  ∃oarr,Instr.fill place carr (parts.map fun(i,x)=>(i,a.eval x))=some oarr/\VRs g w out oarr.toList/\∀x∈out,x.one=true
 | [],ps,cs,out,carr,hp,hc,h1,hf=>by
  simp at hp
  subst hp
  simp[Zb9]at hf
  subst hf
  exact⟨carr,rfl,hc,h1⟩
 | (i,x) :: parts,ps,cs,out,carr,hp,hc,h1,hf=>by
  simp only[zbS]at hp
  cases hpl:place i with
  | none=>simp[prt,hpl]at hp
  | some os =>
   obtain⟨off,sz⟩:=os
   have hq:prt place (i,x)=some (off,sz,cX x):=by simp[prt,hpl]
   rw[hq]at hp
   simp only[Option.bind_eq_bind,Option.bind_some]at hp
   cases hr:parts.mapM (prt place)with
   | none=>rw[hr]at hp;simp at hp
   | some ps' =>
    rw[hr]at hp
    simp at hp
    subst hp
    simp only[Zb9]at hf
    cases hcl:((cX x).ev F).cells with
    | none=>rw[hcl]at hf;cases hf
    | some vs =>
     rw[hcl]at hf
     simp only at hf
     split at hf
     ·rename_i hle
      obtain⟨hv,hv1⟩:=(ZaG hF x).cells hcl
      have hs:(a.eval x).cells.size=sz:=by have:=hv.1;simp at this;omega
      have hcs:carr.size=cs.length:=by have:=hc.1;simp at this;omega
      have hsp:=ZjM (a.eval x).cells carr off Xa
      obtain⟨oarr,h3,h4,h5⟩:=ZiW hF place parts ps' (splice cs off vs) out ((a.eval x).cells.zipIdx.foldl (fun cs (p:Value×Nat)=>cs.setIfInBounds (off+p.2) p.1) carr) hr (by rw[hsp];exact ZmQ hc hv) (ZkQ h1 hv1) hf
      refine⟨oarr,?_,h4,h5⟩
      rw[<- h3]
      simp only[zaD,Instr.fill,hpl]
      rw[if_neg Xf]
     ·cases hf
theorem Zfo {fs:Array Field} (h:fs.all (fun f=>(P.info? f.type).isSome)=true):(fs.mapM fun f=>do pure (f.offset,<- sizeOf f.type):Sem (Array (Nat×Nat))).run P w=.ok (Zdy P fs) w:=by
 have key:∀l:List Field,(∀f∈l,(P.info? f.type).isSome=true)->(l.mapM fun f=>do pure (f.offset,<- sizeOf f.type):Sem (List (Nat×Nat))).run P w=.ok (l.map fun f=>(f.offset,((P.info? f.type).map (·.size)).getD 0)) w:=by
  intro l
  induction l with
  | nil=>intro _;simp
  | cons f l ih =>
   intro hl
   have hf:=hl f Xc
   obtain⟨i,hi⟩:=zb3.1 hf
   have hs:(sizeOf f.type).run P w=.ok i.size w:=Zcl (by simp[ZdE,hi])
   simp only[zbS,Sem.run_bind,hs,Result.andThen_ok,Sem.run_pure,ih (fun x hx=>hl x (by simp[hx])),zaD,hi,Option.map_some,Option.getD_some]
 have h2:∀f∈fs.toList,(P.info? f.type).isSome=true:=by
  intro f hf
  exact zbL.1 h f (by simpa using hf)
 rw[Array.mapM_eq_mapM_toList,map_eq_pure_bind,Sem.run_bind,key fs.toList h2]
 simp only[Result.andThen_ok,Sem.run_pure,Zdy]
 congr 1
 apply za9
 simp
theorem bld_ok (hF:FR g w N F a) (hW:WR g H w) {t:TypeId} {z:Value} {zc:List AV} {parts:Array (Nat×Operand)} {ps:List (Nat×Nat×AX)} {v:AV} {i:TypeInfo} (hi:P.info? t=some i) (hz:i.zero=some z) (hzc:(Zb5 z).cells=some zc)
  (hd:(∃fs,P.underlying t=some (.struct fs)/\fs.all (fun f=>(P.info? f.type).isSome)=true/\parts.toList.mapM (prt fun j=>(Zdy P fs)[j]?)=some ps) \/
   (∃n e s,P.underlying t=some (.array n e)/\ZdE P e=some s/\parts.toList.mapM (prt fun j=>some (j * s,s))=some ps))
  (he:AOp.ev F H (.bld zc ps)=some (v,H')):Zbv P g H w (Instr.build t (parts.map fun(i,x)=>(i,a.eval x))) v H':=by
 simp only[AOp.ev]at he
 cases hf:Zb9 F zc ps with
 | none=>rw[hf]at he;cases he
 | some out =>
  rw[hf]at he
  simp at he
  obtain⟨rfl,rfl⟩:=he
  obtain⟨hzv,hz1⟩:=(Zbt (g:=g) (w:=w) z).cells hzc
  rcases hd with⟨fs,hu,hall,hps⟩|⟨n,e,s,hu,hs,hps⟩
  ·obtain⟨oarr,h1,h2,h3⟩:=ZiW hF _ _ _ _ _ z.cells hps hzv hz1 hf
   refine .here (u:=.agg oarr) ?_ (.agg _ _ (by simpa using h2.1) h3 (fun i x u hx hu=>h2.2 i x u hx (by simpa using hu))) hW
   have h1':Instr.fill (fun x=>(Zdy P fs)[x]?) z.cells (parts.toList.map fun(i,x)=>(i,a.eval x))=some oarr:=h1
   simp only[Instr.build,zeroValue,typeInfo,Sem.run_bind,run_program,hi,hz,run_underlying hu,Zfo hall,Result.andThen_ok,Sem.run_pure,Array.toList_map,h1']
  ·obtain⟨oarr,h1,h2,h3⟩:=ZiW hF _ _ _ _ _ z.cells hps hzv hz1 hf
   refine .here (u:=.agg oarr) ?_ (.agg _ _ (by simpa using h2.1) h3 (fun i x u hx hu=>h2.2 i x u hx (by simpa using hu))) hW
   have h1':Instr.fill (fun i=>some (i * s,s)) z.cells (parts.toList.map fun(i,x)=>(i,a.eval x))=some oarr:=h1
   simp only[Instr.build,zeroValue,typeInfo,Sem.run_bind,run_program,hi,hz,run_underlying hu,Zcl hs,Result.andThen_ok,Sem.run_pure,Array.toList_map,h1']
end
theorem Zjm {α:Type} {css:List (List α)} {m:Nat} (h:∀r∈css,r.length=m):css.flatten.length=css.length * m:=by
 induction css with
 | nil=>simp
 | cons x r ih =>
  rw[List.flatten_cons,zac,h x zak,ih (fun y hy=>h y (zar _ hy)),List.length_cons,zaX];omega
theorem Zjf {α:Type} {l:List (List α)} {m:Nat} (h:∀r∈l,r.length=m) (hm:0<m) (j:Nat):l.flatten[j]?=(l[j / m]?).bind (fun r=>r[j % m]?):=by
 induction l generalizing j with
 | nil=>simp
 | cons x r ih =>
  have hx:=h x zak
  rw[List.flatten_cons]
  by_cases hj:j<m
  ·rw[zaC Xa,zbM hj,zaF hj]
   simp
  ·rw[zaE Xa,hx,ih (fun y hy=>h y (zar _ hy))]
   have e1:j / m=(j - m) / m+1:=by
    rw[Nat.div_eq_sub_div hm Xa]
   have e2:j % m=(j - m) % m:=by
    rw[Nat.mod_eq_sub_mod Xa]
   rw[e1,e2]
   simp
section
variable {P:Program} {g g':Gh} {H H':Zaa} {w w':World} {N:Nat} {F:Fr} {a:Act}
theorem Zi3 {g:Gh} {w:World} {rows:List (List AV)} {b o sz c:Nat} {xs:List Value} (tok:Tok) (hsz:∀r∈rows,r.length=sz/\∀x∈r,x.one=true) (hV:VRs g w rows.flatten xs) (hcell:∀j u,xs[j]?=some u->w.cell? ⟨b,o+j,none⟩=some u/\g.RO b (o+j))
  (hc:rows.length<=c) (hm:c<=maxLen) (ht:Zip g tok rows.length (some ⟨b,o,none⟩) c):VR g w (.sl tok rows) (.slice (some ⟨b,o,none⟩) rows.length c):=by
 have hget:∀i r j x,rows[i]?=some r->r[j]?=some x->rows.flatten[i * sz+j]?=some x:=by
  intro i r j x hr hx
  have hj:j<sz:=by
   have:=(zah.1 hx).1
   rw[(hsz r (zaN hr)).1]at this;exact this
  rw[Zjf (fun r hr=>(hsz r hr).1) Xa]
  have e1:(i * sz+j) / sz=i:=by
   rw[za7,Nat.mul_add_div Xa,zbM hj];rfl
  have e2:(i * sz+j) % sz=j:=by
   rw[za7,Nat.mul_add_mod,zaF hj]
  rw[e1,e2,hr]
  exact hx
 refine .sl tok rows _ c sz b o (fun i j=>(xs[i * sz+j]?).getD undef) hc hm (fun _=>rfl) hsz ?_ ?_ ht
 ·intro i r j x hr hx
  obtain⟨u,hu,_⟩:=hV.get (hget i r j x hr hx)
  have:=hcell _ u hu
  rw[hu]
  rw[zbs]
  exact this
 ·intro i r j x hr hx
  obtain⟨u,hu,hv⟩:=hV.get (hget i r j x hr hx)
  rw[hu]
  exact hv
theorem ZjK {tok:Tok} {rows:List (List AV)} {v:Value} (h:VR g w (.sl tok rows) v):∃A c sz b o xs,v=.slice A rows.length c/\rows.length<=c/\c<=maxLen/\(rows≠[]->A=some ⟨b,o,none⟩)/\(∀r∈rows,r.length=sz/\∀x∈r,x.one=true)/\VRs g w rows.flatten xs/\(∀j u,xs[j]?=some u->w.cell? ⟨b,o+j,none⟩=some u/\g.RO b (o+j))/\Zip g tok rows.length A c:=by
 cases h with
 | sl _ _ A c sz b o f hc hm hA hsz hcell hv ht =>
 have hlen:=Zjm (fun r hr=>(hsz r hr).1)
 by_cases h0:sz=0
 ·subst h0
  have e:rows.flatten=[]:=zaA (by rw[hlen];rfl)
  exact⟨A,c,0,b,o,[],rfl,hc,hm,hA,hsz,by rw[e];exact .nil,fun j u h=>by simp at h,ht⟩
 ·have hpos:0<sz:=Xa
  refine⟨A,c,sz,b,o,(List.range (rows.length * sz)).map (fun q=>f (q / sz) (q % sz)),rfl,hc,hm,hA,hsz,⟨by simp[hlen],?_⟩,?_,ht⟩
  ·intro q x u hx hu
   have hq:q<rows.length * sz:=by have:=(zah.1 hx).1;rw[hlen]at this;exact this
   rw[Zjf (fun r hr=>(hsz r hr).1) hpos]at hx
   simp[hq]at hu
   subst hu
   cases hr:rows[q / sz]? with
   | none=>rw[hr]at hx;simp at hx
   | some r =>
    rw[hr]at hx
    exact hv _ r _ x hr (by simpa using hx)
  ·intro q u hu
   have hq:q<rows.length * sz:=by have:=(zah.1 hu).1;simpa using this
   simp[hq]at hu
   subst hu
   have hi:q / sz<rows.length:=Nat.div_lt_of_lt_mul (by rw[za7];exact hq)
   have hr:=zab hi
   have hrl:=(hsz _ (zau hi)).1
   have hj:q % sz<rows[q / sz].length:=by rw[hrl];exact zbG _ hpos
   have:=hcell _ _ _ _ hr (zab hj)
   have e:o+q / sz * sz+q % sz=o+q:=by rw[zbs,Nat.div_add_mod']
   rw[e]at this
   exact this
theorem ZfS (size:Nat):∀(ps:List (Nat×Value)) (k:Nat) (arr:Array Value),(∀p∈ps,p.2.cells.size=size)->ps.map (·.1)=List.range' k ps.length->arr.size=(k+ps.length) * size ->
  ∃o,Instr.fill (fun i=>some (i * size,size)) arr ps=some o/\o.toList=arr.toList.take (k * size)++(ps.map (·.2.cells.toList)).flatten
 | [],k,arr,_,_,h=>⟨arr,rfl,by simp at h ⊢;rw[zav Xf]⟩
 | (i,v) :: ps,k,arr,hp,hi,h=>by
  have hv:=hp (i,v) Xc
  simp only at hv
  simp only[zaD,List.length_cons,List.range'_succ,List.cons.injEq]at hi
  obtain⟨rfl,hi⟩:=hi
  simp only[List.length_cons]at h
  have hle:i * size+v.cells.size<=arr.size:=by
   rw[hv,h,show i * size+size=(i+1) * size by rw[zaX];omega]
   exact zbe _ Xa
  have h1:=ZjM v.cells arr (i * size) hle
  have hsz:(v.cells.zipIdx.foldl (fun cs (p:Value×Nat)=>cs.setIfInBounds (i * size+p.2) p.1) arr).size=arr.size:=by
   rw[<- Array.length_toList,h1];simp[splice];omega
  obtain⟨o,h2,h3⟩:=ZfS size ps (i+1) _ (fun p hp'=>hp p (by simp[hp'])) hi (by rw[hsz,h];congr 1;omega)
  refine⟨o,?_,?_⟩
  ·simp only[Instr.fill]
   rw[if_neg Xf]
   exact h2
  ·rw[h3,h1]
   unfold splice
   have e:(i+1) * size=i * size+size:=by rw[zaX];omega
   rw[e,zbp Xf,zav Xf]
   simp
theorem Zfc (hF:FR g w N F a) {sz:Nat}:∀{xs:List Operand} {rows:List (List AV)},rowsOf F sz (xs.map cX)=some rows->rows.length=xs.length/\(∀r∈rows,r.length=sz/\∀x∈r,x.one=true)/\(∀x∈xs,(a.eval x).cells.size=sz)/\VRs g w rows.flatten ((xs.map fun x=>(a.eval x).cells.toList).flatten)
 | [],rows,h=>by
  simp[rowsOf]at h
  subst h
  exact⟨rfl,fun r h=>by simp at h,fun x h=>by simp at h,.nil⟩
 | x :: xs,rows,h=>by
  simp only[zaD,rowsOf]at h
  cases hc:((cX x).ev F).cells with
  | none=>rw[hc]at h;cases h
  | some vs =>
   rw[hc]at h
   simp only at h
   split at h
   ·rename_i hl
    cases hr:rowsOf F sz (xs.map cX)with
    | none=>rw[hr]at h;cases h
    | some rs =>
     rw[hr]at h
     simp at h
     subst h
     obtain⟨h1,h2,h3,h4⟩:=Zfc hF hr
     obtain⟨hv,hv1⟩:=(ZaG hF x).cells hc
     refine⟨by simp[h1],fun r hr=>?_,fun y hy=>?_,by simpa using hv.app h4⟩
     ·rcases zay.1 hr with rfl|hr
      ·exact⟨hl,hv1⟩
      ·exact h2 r hr
     ·rcases zay.1 hy with rfl|hy
      ·have:=hv.1;simp at this;omega
      ·exact h3 y hy
   ·cases h
theorem Zgd (o:Array Value) (E:TypeId) (j:Nat):(w.alloc (.cells o E)).cell? ⟨w.heap.size,j,none⟩=o[j]?:=by
 have h:=heap_alloc_new w (.cells o E)
 unfold World.cell?
 rw[h]
 simp
theorem bsl_ok (hF:FR g w N F a) (hW:WR g H w) {t e:TypeId} {sz len:Nat} {i:TypeInfo} {z:Value} {parts:Array (Nat×Operand)} {v:AV} (hu:P.underlying t=some (.slice e)) (hi:P.info? e=some i) (hz:i.zero=some z) (hsz:i.size=sz) (hzs:z.cells.size=sz) (h0:0<sz) (hcap:len * sz<=16777216) (hr:parts.toList.map (·.1)=List.range len)
  (he:AOp.ev F H (.bsl sz (parts.toList.map fun p=>cX p.2))=some (v,H')):Zbv P g H w (Instr.buildSlice t len (parts.map fun(i,x)=>(i,a.eval x))) v H':=by
 simp only[AOp.ev]at he
 have em:(parts.toList.map fun p=>cX p.2)=(parts.toList.map (·.2)).map cX:=Xc
 rw[em]at he
 cases hro:rowsOf F sz ((parts.toList.map (·.2)).map cX)with
 | none=>rw[hro]at he;cases he
 | some rows =>
  rw[hro]at he
  simp at he
  obtain⟨rfl,rfl⟩:=he
  obtain⟨h1,h2,h3,h4⟩:=Zfc hF hro
  have hlen:parts.toList.length=len:=by have:=congrArg List.length hr;simpa using this
  have hrows:rows.length=len:=by rw[h1];simpa using hlen
  obtain⟨o,h5,h6⟩:=ZfS sz (parts.toList.map fun(i,x)=>(i,a.eval x)) 0 ((Array.range (len * sz)).map (z.cells[· % z.cells.size]!)) (by
   intro p hp
   obtain⟨q,hq,rfl⟩:=zaH.1 hp
   exact h3 q.2 (zaH.2 ⟨q,hq,rfl⟩)) (by
   simp only[zb4,zam,hlen]
   rw[<- List.range_eq_range',<- hr]
   rfl) (by simp[hlen])
  simp only[zbf,List.take_zero,List.nil_append,zb4]at h6
  have hxs:o.toList=((parts.toList.map (·.2)).map fun x=>(a.eval x).cells.toList).flatten:=by
   rw[h6];simp[Function.comp_def]
  obtain⟨k1,k2⟩:=ZgV hW (.cells o e)
  refine⟨.slice (some ⟨w.heap.size,0,none⟩) len len,w.alloc (.cells o e),g.tree w.heap.size,?_,?_,k1,k2⟩
  ·have hle:¬(16777216<len * sz):=Xa
   simp only[Instr.buildSlice,Sem.run_bind,run_underlying hu,Zcl (P:=P) (w:=w) (sz:=sz) (show ZdE P e=some sz by simp[ZdE,hi,hsz]),Result.andThen_ok]
   by_cases hl0:len * sz=0
   ·have hl:len=0:=by rcases Nat.mul_eq_zero.1 hl0 with h|h<;>omega
    subst hl
    have:parts=#[]:=by
     apply za9
     exact zaA hlen
    subst this
    simp[Instr.fill,newRow]at h5 ⊢
    rw[<- h5]
    have e0:Array.range 0=#[]:=rfl
    rw[e0]
    simp
   ·simp[hle,hl0,zeroValue,typeInfo,hi,hz,newRow]
    simp at h5
    simp[h5]
  ·rw[<- hrows]
   refine Zi3 (xs:=o.toList) .full h2 (by rw[hxs];exact h4.mono k2.le) (fun j u hj=>⟨?_,.inr rfl⟩) (zad _) ?_ rfl
   ·rw[Zgd,zax];simpa using hj
   ·have:rows.length * 1<=len * sz:=by rw[hrows];exact zcw _ h0
    unfold maxLen;omega
theorem bsv_ok (hF:FR g w N F a) (hW:WR g H w) {t e:TypeId} {sz len:Nat} {i:TypeInfo} {z:Value} {parts:Array (Nat×Operand)} {v:AV} (hu:P.underlying t=some (.slice e)) (hi:P.info? e=some i) (hz:i.zero=some z) (hsz:i.size=sz) (hzs:z.cells.size=sz) (h0:0<sz) (hcap:len * sz<=16777216) (hr:parts.toList.map (·.1)=List.range len)
  (he:AOp.ev F H (.bsv e sz (parts.toList.map fun p=>cX p.2))=some (v,H')):Zbv P g H w (Instr.buildSlice t len (parts.map fun(i,x)=>(i,a.eval x))) v H':=by
 simp only[AOp.ev]at he
 have em:(parts.toList.map fun p=>cX p.2)=(parts.toList.map (·.2)).map cX:=Xc
 rw[em]at he
 cases hro:rowsOf F sz ((parts.toList.map (·.2)).map cX)with
 | none=>rw[hro]at he;cases he
 | some rows0 =>
  rw[hro]at he
  cases rows0 with
  | nil =>
   refine bsl_ok hF hW hu hi hz hsz hzs h0 hcap hr ?_
   simp only[AOp.ev]
   rw[em,hro]
   exact he
  | cons r rows =>
  simp only[zaa,zaf]at he
  obtain⟨rfl,rfl⟩:=he
  obtain⟨h1,h2,h3,h4⟩:=Zfc hF hro
  have hlen:parts.toList.length=len:=by have:=congrArg List.length hr;simpa using this
  have hrows:rows.length+1=len:=by have:=h1;simp only[List.length_cons]at this;rw[this];simpa using hlen
  obtain⟨o,h5,h6⟩:=ZfS sz (parts.toList.map fun(i,x)=>(i,a.eval x)) 0 ((Array.range (len * sz)).map (z.cells[· % z.cells.size]!)) (by
   intro p hp
   obtain⟨q,hq,rfl⟩:=zaH.1 hp
   exact h3 q.2 (zaH.2 ⟨q,hq,rfl⟩)) (by
   simp only[zb4,zam,hlen]
   rw[<- List.range_eq_range',<- hr]
   rfl) (by simp[hlen])
  simp only[zbf,List.take_zero,List.nil_append,zb4]at h6
  have hxs:o.toList=((parts.toList.map (·.2)).map fun x=>(a.eval x).cells.toList).flatten:=by
   rw[h6];simp[Function.comp_def]
  obtain⟨k1,k2,_⟩:=ZdF hW (cs:=(r :: rows).flatten) (carr:=o) e (by rw[hxs];exact h4) (fun x hx=>by
   obtain⟨q,hq,hxq⟩:=zbq.1 hx
   exact(h2 q hq).2 x hxq)
  refine⟨.slice (some ⟨w.heap.size,0,none⟩) len len,w.alloc (.cells o e),g.obj H.next w.heap.size,?_,?_,k1,k2⟩
  ·have hle:¬(16777216<len * sz):=Xa
   simp only[Instr.buildSlice,Sem.run_bind,run_underlying hu,Zcl (P:=P) (w:=w) (sz:=sz) (show ZdE P e=some sz by simp[ZdE,hi,hsz]),Result.andThen_ok]
   have hl0:¬(len * sz=0):=by
    intro h
    rcases Nat.mul_eq_zero.1 h with h|h<;>omega
   simp[hle,hl0,zeroValue,typeInfo,hi,hz,newRow]
   simp at h5
   simp[h5]
  ·rw[hrows]
   refine .arr H.next 0 len len w.heap.size (by simp[Gh.obj]) (zad _) ?_
   have:len * 1<=len * sz:=zcw _ h0
   unfold maxLen;omega
end
section
variable {P:Program} {g g':Gh} {H H':Zaa} {w w':World} {N:Nat} {F:Fr} {a:Act}
theorem Zme (hF:FR g w N F a) {o:Option Operand} {d l:Nat} (h:Zdi F d (o.map cX)=some l):(o=none/\l=d)\/∃x k n,o=some x/\a.eval x=.int k n/\0<=n/\l=n.toNat:=by
 cases o with
 | none=>simp[Zdi]at h;exact .inl ⟨rfl,h.symm⟩
 | some x =>
  have hx:=ZaG hF x
  simp only[Option.map_some,Zdi]at h
  split at h
  ·rename_i k n he
   rw[he]at hx
   split at h
   ·rename_i hn
    injection h with h
    refine .inr ⟨x,k,n,rfl,?_,hn,h.symm⟩
    generalize a.eval x=u at hx ⊢
    cases hx;rfl
   ·cases h
  ·cases h
theorem ZdR (hF:FR g w N F a) (isS:Bool) {len cap l h m:Nat} {lo hi mx:Option Operand} (hl:Zdi F 0 (lo.map cX)=some l) (hh:Zdi F len (hi.map cX)=some h) (hm:(mx=none/\m=cap)\/(mx.isSome=true/\hi.isSome=true/\∀d,Zdi F d (mx.map cX)=some m))
  (h1:l<=h) (h2:h<=m) (h3:m<=cap):(Instr.sliceBounds isS len cap (lo.map a.eval) (hi.map a.eval) (mx.map a.eval)).run P w=.ok (l,h,m) w:=by
 have bl:=Zme hF hl
 have bh:=Zme hF hh
 have sb:∀(k:IntKind) (n:Int) (y:Nat) (code:BoundsCode),0<=n->n.toNat<=y->(Instr.sliceBound (.int k n) y code).run P w=.ok n.toNat w:=fun k n y code h0 h1=>run_sliceBound w k n y code h0 Xa
 rcases hm with⟨rfl,rfl⟩|⟨hs1,hs2,hm⟩
 ·rcases bh with⟨rfl,rfl⟩|⟨x,k,n,rfl,e,hn,rfl⟩
  ·rcases bl with⟨rfl,rfl⟩|⟨y,k',n',rfl,e',hn',rfl⟩
   ·simp[Instr.sliceBounds]
   ·have b1:=fun code=>sb k' n' h code hn' h1
    simp[Instr.sliceBounds,e',b1]
  ·have b2:=fun code=>sb k n m code hn h2
   rcases bl with⟨rfl,rfl⟩|⟨y,k',n',rfl,e',hn',rfl⟩
   ·simp[Instr.sliceBounds,e,b2]
   ·have b1:=fun code=>sb k' n' n.toNat code hn' h1
    simp[Instr.sliceBounds,e,e',b1,b2]
 ·have bm:=Zme hF (hm 0)
  rcases bm with⟨rfl,_⟩|⟨z,k2,n2,rfl,e2,hn2,rfl⟩
  ·cases hs1
  ·rcases bh with⟨rfl,rfl⟩|⟨x,k,n,rfl,e,hn,rfl⟩
   ·cases hs2
   ·have b3:=fun code=>sb k2 n2 cap code hn2 h3
    have b2:=fun code=>sb k n n2.toNat code hn h2
    rcases bl with⟨rfl,rfl⟩|⟨y,k',n',rfl,e',hn',rfl⟩
    ·simp[Instr.sliceBounds,e,e2,b2,b3]
    ·have b1:=fun code=>sb k' n' n.toNat code hn' h1
     simp[Instr.sliceBounds,e,e',e2,b1,b2,b3]
theorem ZiI {o:Option AX} {d d' l:Nat} (h:Zdi F d o=some l) (ho:o.isSome=true):Zdi F d' o=some l:=by
 cases o with
 | none=>cases ho
 | some x=>exact h
theorem slc_ok (hF:FR g w N F a) (hW:WR g H w) {t e:TypeId} {sz:Nat} {x v:AV} {u:Value} {lo hi mx:Option Operand} (hu:P.underlying t=some (.slice e)) (hs:ZdE P e=some sz) (hmh:¬(mx.isSome=true/\hi.isNone=true)) (hx:VR g w x u)
  (he:AOp.ev F H (.slc sz (.c x) (lo.map cX) (hi.map cX) (mx.map cX))=some (v,H')):Zbv P g H w (Instr.sliceAt t u (lo.map a.eval) (hi.map a.eval) (mx.map a.eval)) v H':=by
 simp only[AOp.ev,AX.ev]at he
 have hat:∀(u:Value) lo hi mx,(Instr.sliceAt t u lo hi mx).run P w=(Instr.slice t u lo hi mx).run P w:=by
  intro u lo hi mx
  simp[Instr.sliceAt,run_underlying hu]
 cases hx with
 | sl tok rows A c sz' b o f hc hm hA hsz hcell hv ht =>
  simp only at he
  split at he
  ·rename_i l h m hl hh hmm
   split at he
   ·rename_i hle
    obtain⟨h1,h2,h3,h4⟩:=hle
    simp only[zaa,zaf]at he
    obtain⟨rfl,rfl⟩:=he
    obtain⟨M,hM,hMc,hMl⟩:∃M,((mx=none/\M=c)\/(mx.isSome=true/\hi.isSome=true/\∀d,Zdi F d (mx.map cX)=some M))/\M<=c/\h<=M:=by
     cases mx with
     | none=>exact⟨c,.inl ⟨rfl,rfl⟩,zad _,Xa⟩
     | some y =>
      refine⟨m,.inr ⟨rfl,?_,fun d=>ZiI hmm rfl⟩,Xa,h2⟩
      cases hi with
      | none=>exact absurd ⟨rfl,rfl⟩ hmh
      | some _=>rfl
    have hrun:=ZdR (P:=P) hF true hl hh hM h1 hMl hMc
    have hlen:((rows.take h).drop l).length=h - l:=by simp;omega
    refine .here (u:=.slice (if M=l then A else A.map (·.add (l * sz))) (h - l) (M - l)) ?_ ?_ hW
    ·rw[hat]
     simp[Instr.slice,run_underlying hu,hrun,Zcl hs]
    ·rw[<- hlen]
     have hget:∀i r,((rows.take h).drop l)[i]?=some r->rows[l+i]?=some r/\l+i<h:=by
      intro i r hr
      rw[zbd,zbc]at hr
      split at hr
      ·rename_i hlt;exact⟨hr,hlt⟩
      ·cases hr
     refine .sl _ _ _ (M - l) sz' b (o+l * sz') (fun i j=>f (l+i) j) Xa Xa ?_ ?_ ?_ ?_ ?_
     ·intro hne
      have hl2:l<h:=by
       rcases zbK l h with h'|h'
       ·exact h'
       ·exact absurd (zaA Xa) hne
      have hA':=hA (by rintro rfl;simp at h3;omega)
      rw[if_neg Xa,hA']
      simp only[Option.map_some,addr_add,zaa]
      rcases h4 with rfl|h4
      ·simp
      ·have hr0:0<rows.length:=Xa
       have e1:rows[0].length=sz:=by simpa using za6.1 h4 _ (zau hr0)
       have e2:=(hsz _ (zau hr0)).1
       rw[<- e1,e2]
     ·intro r hr
      exact hsz r (zaB (zaW hr))
     ·intro i r j y hr hy
      obtain⟨hr',_⟩:=hget i r hr
      have:=hcell _ r j y hr' hy
      have e1:o+(l+i) * sz'+j=o+l * sz'+i * sz'+j:=by rw[zaX];omega
      rw[e1]at this
      exact this
     ·intro i r j y hr hy
      exact hv _ r j y (hget i r hr).1 hy
     ·rw[hlen]
      unfold Zhj
      cases mx with
      | some y =>
       simp only[Option.map_some]
       split
       ·rename_i e0
        rcases hM with⟨h',_⟩|⟨_,_,h'⟩
        ·cases h'
        ·have:=h' (rows.length)
         rw[hmm]at this
         injection this with this
         show M - l=h - l
         omega
       ·trivial
      | none =>
       simp only[Option.map_none]
       have hMc':M=c:=by
        rcases hM with⟨_,h'⟩|⟨h',_⟩
        ·exact h'
        ·cases h'
       subst hMc'
       split
       ·rename_i h0
        obtain⟨rfl,rfl⟩:=h0
        simp only[zbf,Nat.sub_zero]
        have eA:(if M=0 then A else A.map (·.add 0))=A:=by
         split
         ·rfl
         ·cases A with
          | none=>rfl
          | some ad=>simp[Addr.add]
        rw[eA]
        exact ht
       ·split
        ·rename_i h0 hn
         subst hn
         cases tok with
         | full =>
          have:M=rows.length:=ht
          show M - l=rows.length - l
          omega
         | no=>trivial
         | own id=>trivial
        ·trivial
   ·cases he
  ·cases he
 | arr id off len cap b hid hc hm =>
  simp only at he
  split at he
  ·rename_i l h m hl hh hmm
   split at he
   ·rename_i hle
    obtain⟨h1,h2,h3⟩:=hle
    have hM:(mx=none/\m=cap)\/(mx.isSome=true/\hi.isSome=true/\∀d,Zdi F d (mx.map cX)=some m):=by
     cases mx with
     | none=>simp[Zdi]at hmm;exact .inl ⟨rfl,hmm.symm⟩
     | some y =>
      refine .inr ⟨rfl,?_,fun d=>ZiI hmm rfl⟩
      cases hi with
      | none=>exact absurd ⟨rfl,rfl⟩ hmh
      | some _=>rfl
    have hrun:=ZdR (P:=P) hF true hl hh hM h1 h2 h3
    have hfull:(Instr.sliceAt t (.slice (some ⟨b,off,none⟩) len cap) (lo.map a.eval) (hi.map a.eval) (mx.map a.eval)).run P w=.ok (.slice (if m=l then some ⟨b,off,none⟩ else (some ⟨b,off,none⟩:Option Addr).map (·.add (l * sz))) (h - l) (m - l)) w:=by
     rw[hat]
     simp[Instr.slice,run_underlying hu,hrun,Zcl hs]
    split at he
    ·rename_i hml
     simp only[zaa,zaf]at he
     obtain⟨rfl,rfl⟩:=he
     refine .here hfull ?_ hW
     have e0:h - l=0:=Xa
     have e1:m - l=0:=Xa
     rw[e0,e1]
     exact VR.sl .full [] _ 0 0 0 0 (fun _ _=>undef) (zad _) (by unfold maxLen;omega) (fun h=>absurd rfl h) (fun r h=>by cases h) (fun i r j x h=>by simp at h) (fun i r j x h=>by simp at h) rfl
    ·rename_i hml
     simp only[zaa,zaf]at he
     obtain⟨rfl,rfl⟩:=he
     refine .here hfull ?_ hW
     rw[if_neg hml]
     simp only[Option.map_some,addr_add]
     exact .arr id _ _ _ b hid Xa Xa
   ·cases he
  ·cases he
 | _=>cases he
theorem sla_ok (hF:FR g w N F a) (hW:WR g H w) {t e:TypeId} {n sz:Nat} {x v:AV} {u:Value} {lo hi mx:Option Operand} (hu:P.underlying t=some (.array n e)) (hs:ZdE P e=some sz) (hmh:¬(mx.isSome=true/\hi.isNone=true)) (hx:VR g w x u)
  (he:AOp.ev F H (.sla n sz (.c x) (lo.map cX) (hi.map cX) (mx.map cX))=some (v,H')):Zbv P g H w (Instr.sliceAt t u (lo.map a.eval) (hi.map a.eval) (mx.map a.eval)) v H':=by
 simp only[AOp.ev,AX.ev]at he
 cases hx with
 | ptr id off b hid =>
  simp only at he
  split at he
  ·rename_i l h m hl hh hmm
   split at he
   ·rename_i hle
    obtain⟨h1,h2,h3,h4⟩:=hle
    have hM:(mx=none/\m=n)\/(mx.isSome=true/\hi.isSome=true/\∀d,Zdi F d (mx.map cX)=some m):=by
     cases mx with
     | none=>simp[Zdi]at hmm;exact .inl ⟨rfl,hmm.symm⟩
     | some y =>
      refine .inr ⟨rfl,?_,fun d=>ZiI hmm rfl⟩
      cases hi with
      | none=>exact absurd ⟨rfl,rfl⟩ hmh
      | some _=>rfl
    have hrun:=ZdR (P:=P) hF false hl hh hM h1 h2 h3
    have hfull:(Instr.sliceAt t (.pointer (some ⟨b,off,none⟩)) (lo.map a.eval) (hi.map a.eval) (mx.map a.eval)).run P w=.ok (.slice (some (if m=l then (⟨b,off,none⟩:Addr) else (⟨b,off,none⟩:Addr).add (l * sz))) (h - l) (m - l)) w:=by
     simp[Instr.sliceAt,Instr.sureAddr,run_underlying hu,hrun,Zcl hs]
    split at he
    ·rename_i hml
     simp only[zaa,zaf]at he
     obtain⟨rfl,rfl⟩:=he
     refine .here hfull ?_ hW
     have e0:h - l=0:=Xa
     have e1:m - l=0:=Xa
     rw[e0,e1]
     exact VR.sl .full [] _ 0 0 0 0 (fun _ _=>undef) (zad _) (by unfold maxLen;omega) (fun h=>absurd rfl h) (fun r h=>by cases h) (fun i r j x h=>by simp at h) (fun i r j x h=>by simp at h) rfl
    ·rename_i hml
     simp only[zaa,zaf]at he
     obtain⟨rfl,rfl⟩:=he
     refine .here hfull ?_ hW
     rw[if_neg hml]
     simp only[addr_add]
     exact .arr id _ _ _ b hid Xa Xa
   ·cases he
  ·cases he
 | _=>cases he
theorem slS_ok (hF:FR g w N F a) (hW:WR g H w) {t:TypeId} {x v:AV} {u:Value} {lo hi:Option Operand} (hu:P.underlying t=some .string) (hx:VR g w x u)
  (he:AOp.ev F H (.slS (.c x) (lo.map cX) (hi.map cX))=some (v,H')):Zbv P g H w (Instr.sliceAt t u (lo.map a.eval) (hi.map a.eval) none) v H':=by
 simp only[AOp.ev,AX.ev]at he
 cases hx with
 | sc u =>
  cases u with
  | string s =>
   simp only at he
   split at he
   ·rename_i l h hl hh
    split at he
    ·rename_i hle
     simp only[zaa,zaf]at he
     obtain⟨rfl,rfl⟩:=he
     have hrun:=ZdR (P:=P) hF (mx:=none) false hl hh (.inl ⟨rfl,rfl⟩) hle.1 hle.2 (zad _)
     simp only[Option.map_none]at hrun
     exact .here (by simp[Instr.sliceAt,Instr.slice,run_underlying hu,hrun]) (.sc _) hW
    ·cases he
   ·cases he
  | _=>cases he
 | _=>cases he
theorem cvs_ok (hW:WR g H w) {src dst:TypeId} {x v:AV} {u:Value} (h1:P.underlying src=some .string) (h2:P.underlying dst=some .string) (hx:VR g w x u) (he:AOp.ev F H (.cvs (.c x))=some (v,H')):Zbv P g H w (convert src dst u) v H':=by
 simp only[AOp.ev,AX.ev]at he
 cases hx with
 | sc u =>
  cases u with
  | string s =>
   simp only[zaa,zaf]at he
   obtain⟨rfl,rfl⟩:=he
   exact .here (by simp[convert,run_underlying h1,run_underlying h2]) (.sc _) hW
  | _=>cases he
 | _=>cases he
def Gh.tok (g:Gh) (id n cap b sz:Nat):Gh:={ g with τ:=fun i=>if i=id then some (n,cap,b) else g.τ i,RO:=fun b' j=>g.RO b' j\/(b'=b/\j<n * sz/\0<cap) }
theorem le_tok (hW:WR g H w) {id n cap b sz:Nat} (hid:∀fr c b',g.τ id=some (fr,c,b')->fr<n\/(n=fr/\cap=c/\b=b')) (hcell:∀b' j,g.RO b' j->w'.cell? ⟨b',j,none⟩=w.cell? ⟨b',j,none⟩) (hdf:∀b':Nat,w.heap[b']?=some (.deferred (some []))->w'.heap[b']?=some (.deferred (some []))):g.le (g.tok id n cap b sz) w w':=by
 refine⟨fun _ _ h=>h,fun i fr c b' h=>?_,fun _ _ _ h=>h,fun _ _ h=>.inl h,fun b' j h=>hcell b' j h,hdf,rfl⟩
 by_cases e:i=id
 ·subst e
  refine⟨n,cap,b,by simp[Gh.tok],hid fr c b' h⟩
 ·exact⟨fr,c,b',by simp[Gh.tok,e,h],.inr ⟨rfl,rfl,rfl⟩⟩
theorem Zjz (hW:WR g H w) {n cap b E sz:Nat} {carr:Array Value} (hgr:w.grownBy w' none) (hb:w.heap.size<=b) (hbl:w'.heap[b]?=some (.cells carr E (0,0))) (hcs:carr.size=cap * sz) (hnc:n<=cap) (hcm:cap<=maxLen) :
  WR (g.tok H.next n cap b sz) (H.alloc (.tok n E sz)) w'/\Stp g H w (g.tok H.next n cap b sz) (H.alloc (.tok n E sz)) w':=by
 have hdom:=hW.dom H.next (zad _)
 have hold:∀b',b'<w.heap.size->w'.heap[b']?=w.heap[b']?:=fun b' h=>hgr.block b' h Xc
 have hle:g.le (g.tok H.next n cap b sz) w w':=le_tok hW (fun fr c b' h=>by rw[hdom.2.1]at h;cases h) (fun b' j h=>Zcb (hold b' (hW.ro b' j h)) j) (Zyf hold)
 have hlt:b<w'.heap.size:=(zao.1 hbl).1
 have hown:∀id o' b',id<H.next->(Zcy (g.tok H.next n cap b sz) id o' b' ↔ Zcy g id o' b'):=fun id o' b' hl=>Zcy.le (by simp[Gh.tok];omega) rfl
 have hnew:∀b',Zcy (g.tok H.next n cap b sz) H.next (.tok n E sz) b'->b'=b/\0<cap:=by
  rintro b' ⟨fr,c,h,hc⟩
  simp[Gh.tok]at h
  omega
 have hget:∀id o',(H.alloc (.tok n E sz)).get id=some o'->(id=H.next/\o'=.tok n E sz)\/(id<H.next/\H.get id=some o'):=by
  intro id o' h
  by_cases e:id=H.next
  ·subst e;rw[Zaa.Zae]at h;injection h with h;exact .inl ⟨rfl,h.symm⟩
  ·rw[Zaa.Zag e]at h;exact .inr ⟨Zaa.lt h,h⟩
 refine⟨⟨fun id o' h=>?_,fun id id' o1 o2 b' h1 h2 h3 h4=>?_,fun id hid=>?_,fun id o' b' h1 h2=>?_,fun b' j h=>?_⟩,⟨hle,Nat.le_succ _,hgr.os,hgr.tape,hgr.output,hgr.size,fun b' hb' _=>hold b' hb',fun b' hb' ⟨id,o',h1,h2⟩=>?_,fun b' j hb' h=>by
   rcases h with h|⟨rfl,_⟩
   ·exact .inl h
   ·omega⟩⟩
 ·rcases hget id o' h with⟨rfl,rfl⟩|⟨hl,h⟩
  ·refine⟨cap,b,by simp[Gh.tok],hnc,hcm,fun hc=>⟨carr,hbl,hcs,fun j hj hr=>?_⟩⟩
   rcases hr with hr|⟨_,hr,_⟩
   ·have:=hW.ro _ _ hr;omega
   ·omega
  ·refine(hW.obj id o' h).mono hle (fun b' hb'=>hold b' (hW.bd id o' b' h hb')) (fun b' j hb' hr=>?_) (by simp[Gh.tok];omega) rfl (fun _=>rfl)
   rcases hr with hr|⟨rfl,_⟩
   ·exact hr
   ·have:=hW.bd id o' _ h hb';omega
 ·rcases hget id o1 h1 with⟨e1,e2⟩|⟨hl,k1⟩
  ·rcases hget id' o2 h2 with⟨e3,_⟩|⟨hl2,k2⟩
   ·omega
   ·have e:=hnew b' (by have h:=h3;rw[e1,e2]at h;exact h)
    have:=hW.bd id' o2 b' k2 ((hown id' o2 b' hl2).1 h4)
    omega
  ·rcases hget id' o2 h2 with⟨e3,e4⟩|⟨hl2,k2⟩
   ·have e:=hnew b' (by have h:=h4;rw[e3,e4]at h;exact h)
    have:=hW.bd id o1 b' k1 ((hown id o1 b' hl).1 h3)
    omega
   ·exact hW.inj id id' o1 o2 b' k1 k2 ((hown id o1 b' hl).1 h3) ((hown id' o2 b' hl2).1 h4)
 ·simp only[Zaa.Zax]at hid
  have h:=hW.dom id Xa
  refine⟨h.1,?_,h.2.2⟩
  simp[Gh.tok,h.2.1];omega
 ·rcases hget id o' h1 with⟨rfl,rfl⟩|⟨hl,h1⟩
  ·rw[(hnew b' h2).1];exact hlt
  ·have:=hW.bd id o' b' h1 ((hown id o' b' hl).1 h2)
   have:=hgr.size;omega
 ·rcases h with h|⟨rfl,_⟩
  ·have:=hW.ro b' j h;have:=hgr.size;omega
  ·exact hlt
 ·rcases hget id o' h1 with⟨rfl,rfl⟩|⟨hl,h1⟩
  ·have:=(hnew b' h2).1;omega
  ·exact⟨id,o',h1,(hown id o' b' hl).1 h2⟩
theorem Zh0 (z:Array Value) (n:Nat) (h0:0<z.size):(madeCells z (n * z.size)).toList=(List.replicate n z.toList).flatten:=by
 apply zcd
 intro j
 have hl:∀r∈List.replicate n z.toList,r.length=z.size:=by
  intro r hr
  rw[(zaY.1 hr).2];simp
 rw[Zjf hl h0]
 by_cases hj:j<n * z.size
 ·have hi:j / z.size<n:=Nat.div_lt_of_lt_mul (by rw[za7];exact hj)
  have hm:j % z.size<z.size:=zbG _ h0
  simp[madeCells,hj,hi,hm]
 ·have hi:¬j / z.size<n:=by
   intro h
   exact hj ((zcp h0).1 h)
  simp[madeCells,hj,hi]
theorem VRs.rep {cs:List AV} {vs:List Value} (h:VRs g w cs vs):∀n,VRs g w (List.replicate n cs).flatten (List.replicate n vs).flatten
 | 0=>.nil
 | n+1=>by
  simp only[List.replicate_succ,List.flatten_cons]
  exact h.app (h.rep n)
theorem mks_ok (hW:WR g H w) {t e:TypeId} {i:TypeInfo} {z:Value} {zc:List AV} {x y v:AV} {u r:Value} (hu:P.underlying t=some (.slice e)) (hi:P.info? e=some i) (hz:i.zero=some z) (hzc:(Zb5 z).cells=some zc) (h0:0<i.size) (hzs:z.cells.size=i.size) (hx:VR g w x u) (hy:VR g w y r)
  (he:AOp.ev F H (.mks e i.size i.bytes zc (.c x) (.c y))=some (v,H')):Zbv P g H w (Instr.makeSlice t u r) v H':=by
 simp only[AOp.ev,AX.ev]at he
 split at he
 ·rename_i ln cn
  cases hx;cases hy
  split at he
  ·rename_i hc
   obtain⟨h1,h2,h3,h4⟩:=hc
   have h63:cn<=9223372036854775807:=by unfold maxLen at h3;omega
   have hby:(i.bytes:Int) * cn<=281474976710656:=by
    have e1:cn=(cn.toNat:Int):=Xa
    rw[e1]
    have e2:(i.bytes:Int) * (cn.toNat:Int)=((cn.toNat * i.bytes:Nat):Int):=by simp[Int.mul_comm]
    rw[e2];omega
   have hrun:=run_make (P:=P) w t e i z hu hi hz .i64 .i64 ln cn h1 h2 hby h63
   split at he
   ·rename_i hc0
    simp only[zaa,zaf]at he
    obtain⟨rfl,rfl⟩:=he
    obtain⟨k1,k2⟩:=ZgV hW (.cells (madeCells z.cells (cn.toNat * i.size)) e)
    have hl0:ln=0:=Xa
    subst hc0 hl0
    exact⟨_,_,_,hrun,VR.sl .full [] _ 0 0 0 0 (fun _ _=>undef) (zad _) (by unfold maxLen;omega) (fun h=>absurd rfl h) (fun r h=>by cases h) (fun i r j x h=>by simp at h) (fun i r j x h=>by simp at h) rfl,k1,k2⟩
   ·split at he
    ·rename_i hc0 hlc
     subst hlc
     simp only[zaa,zaf]at he
     obtain⟨rfl,rfl⟩:=he
     obtain⟨hzv,hz1⟩:=(Zbt (g:=g) (w:=w) z).cells hzc
     have hV:VRs g w (List.replicate ln.toNat zc).flatten (madeCells z.cells (ln.toNat * i.size)).toList:=by
      rw[<- hzs,Zh0 _ _ Xa]
      exact hzv.rep _
     obtain⟨k1,k2,k3⟩:=ZdF hW e hV (by
      intro q hq
      obtain⟨l,hl,hql⟩:=zbq.1 hq
      rw[(zaY.1 hl).2]at hql
      exact hz1 q hql)
     refine⟨_,_,_,hrun,?_,k1,k2⟩
     cases k3 with
     | ptr _ _ _ h=>exact .arr _ _ _ _ _ h (zad _) h3
    ·split at he
     ·rename_i hc0 hlc hl0
      subst hl0
      simp only[zaa,zaf]at he
      obtain⟨rfl,rfl⟩:=he
      have hgr:w.grownBy (w.alloc (.cells (madeCells z.cells (cn.toNat * i.size)) e)) none:=⟨rfl,rfl,rfl,Xc,fun k hk _=>heap_alloc_old w _ hk⟩
      obtain⟨k1,k2⟩:=Zjz (n:=0) hW hgr (zad _) (heap_alloc_new w _) (by rw[size_madeCells]) (zat _) h3
      refine⟨_,_,_,hrun,?_,k1,k2⟩
      exact VR.sl (.own H.next) [] _ cn.toNat 0 0 0 (fun _ _=>undef) (zat _) h3 (fun h=>absurd rfl h) (fun r h=>by cases h) (fun i r j x h=>by simp at h) (fun i r j x h=>by simp at h) ⟨0,cn.toNat,w.heap.size,by simp[Gh.tok],zad _,fun _=>⟨rfl,fun _=>rfl⟩⟩
     ·cases he
  ·cases he
 ·cases he
end
end Go.Proofs.YtfjjpndoeppbhaaGreatDoor
