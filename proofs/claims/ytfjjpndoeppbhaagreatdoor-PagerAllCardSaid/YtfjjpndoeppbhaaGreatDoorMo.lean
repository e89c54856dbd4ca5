/- Texts of the walk. -/
import Derived.ProofKit
import Derived.Test.YtfjjpndoeppbhaaGreatDoorMf
namespace Go.Proofs.YtfjjpndoeppbhaaGreatDoor
set_option linter.defProp false
set_option maxHeartbeats 64000000
set_option linter.unusedSimpArgs false
set_option linter.unusedVariables false
open Go.RowKit
def Zwy (e:Int):Value:=.iface 284 (.agg #[.int .i64 e])
theorem ZwN {pan:Value->Zaa->Prop} (r:AV) (e:Int) (H:Zaa) (hp:pan (Zwy e) H):Zay ⟨Tryz.prog,pan⟩ 233 [r,.i e] H (fun _ _=>False):=by
 refine⟨⟨_,Tryz.func233,Xg,Xg⟩,fun g w vs hW hV hEn=>?_⟩
 obtain⟨v0,v1,rfl⟩:∃v0 v1,vs=[v0,v1]:=by
  match vs,hV.1 with
  | [v0,v1],_=>exact⟨v0,v1,rfl⟩
 have h1:=hV.2 1 _ _ rfl rfl
 cases h1
 have hh:EndR ⟨Tryz.prog,pan⟩ g H w (fun _ _=>False) (.panicked [{ v:=Zwy e,recovered:=false }]) w:=.inr ⟨_,H,g,rfl,hp,hW,.refl _ _ _⟩
 go_enter Tryz.func233,Tryz.ntmps233
 go_wp2
 exact⟨rfl,hh⟩
structure Zwx (w:World) (b:Nat) (s:ByteArray) (at':Int) (live:Bool):Prop where
 c0:w.cell? ⟨b,0,none⟩=some (.string s)
 c1:w.cell? ⟨b,1,none⟩=some (.int .i64 at')
 c2:w.cell? ⟨b,2,none⟩=some (.bool live)
theorem rd_on {w:World} {b:Nat} {s:ByteArray} {at':Int} {live:Bool} (h:Zwx w b s at' live):Calls Tryz.prog 231 #[.pointer (some ⟨b,0,none⟩)] w fun e w'=>e=.returned (.bool live)/\w'=w:=by
 have c0:=h.c0
 have c1:=h.c1
 have c2:=h.c2
 go_enter Tryz.func231,Tryz.ntmps231
 go_wp2
 go_ret
 exact⟨rfl,rfl⟩
theorem rd_left {w:World} {b:Nat} {s:ByteArray} {at':Int} (h:Zwx w b s at' true) (h0:0<=at'/\at'<=s.size) (hs:s.size<=maxLen):Calls Tryz.prog 202 #[.pointer (some ⟨b,0,none⟩)] w fun e w'=>e=.returned (.int .i64 (s.size - at'))/\∃q,w'=w.drewN q:=by
 have c0:=h.c0
 have c1:=h.c1
 have c2:=h.c2
 unfold maxLen at hs
 go_enter Tryz.func202,Tryz.ntmps202
 go_wp2_with (go_at_call 231;refine(rd_on h).mono ?_;rintro e w1 ⟨rfl,rfl⟩)
 go_quiet (fail)
 go_wp2
 go_ret
 exact⟨by go_num,_,rfl⟩
theorem rd_fail (v:Value) (e:Int) (w:World):Calls Tryz.prog 233 #[v,.int .i64 e] w fun en w'=>en=.panicked [{ v:=Zwy e,recovered:=false }]/\w'=w:=by
 go_enter Tryz.func233,Tryz.ntmps233
 go_wp2
 exact⟨rfl,rfl,rfl⟩
theorem ZwO {w:World} {b:Nat} {s:ByteArray} {at':Int} {live:Bool} (e:Int) (h:Zwx w b s at' live):Calls Tryz.prog 199 #[.pointer (some ⟨b,0,none⟩),.bool true,.int .i64 e] w fun en w'=>en=.returned (.tuple #[])/\w'=w:=by
 cases live
 ·go_enter Tryz.func199,Tryz.ntmps199
  go_wp2_with (go_at_call 231;refine(rd_on h).mono ?_;rintro e w1 ⟨rfl,rfl⟩)
  go_end0
  exact⟨rfl,rfl⟩
 ·go_enter Tryz.func199,Tryz.ntmps199
  go_wp2_with (go_at_call 231;refine(rd_on h).mono ?_;rintro e w1 ⟨rfl,rfl⟩)
  go_end0
  exact⟨rfl,rfl⟩
theorem ZwQ {w:World} {b:Nat} {s:ByteArray} {at':Int} (h:Zwx w b s at' true):Calls Tryz.prog 199 #[.pointer (some ⟨b,0,none⟩),.bool false,.int .i64 3] w fun en w'=>en=.panicked [{ v:=Zwy 3,recovered:=false }]/\w'=w:=by
 go_enter Tryz.func199,Tryz.ntmps199
 go_wp2_with (first|(go_at_call 231;refine(rd_on h).mono ?_;rintro e w1 ⟨rfl,rfl⟩)|(go_at_call 233;refine(rd_fail _ 3 _).mono ?_;rintro e w1 ⟨rfl,rfl⟩)|fail)
 exact⟨rfl,rfl,rfl⟩
theorem Zwa {P:Program} {c:Code} {Q:Exit->Act->List Frame->World->Prop} {Q':Exit->Act->World->Prop} {a:Act} {cs:List Frame} {w:World} (h:c.wp P Q' a w) (hq:∀e a' w',Q' e a' w'->Q e a' cs w'):c.wpS P Q a cs w:=wpS_of_wp (wp_mono h hq)
theorem ZwK (pr pe:Addr) (b:Nat) (s:ByteArray) (at':Int) (live:Bool) (w:World) (hr:w.cell? pr=some (.pointer (some ⟨b,0,none⟩))) (h:Zwx w b s at' live) (hz:w.frozen? ⟨b,2,none⟩=false) :
  CallsD Tryz.prog 222 #[.pointer (some pr),.pointer (some pe)] .returning w fun e u' w'=>e=.returned (.tuple #[])/\u'=.returning/\w'=w.setCell ⟨b,2,none⟩ (.bool false):=by
 have c2:=h.c2
 refine callsD_of_wpS Tryz.func222 rfl fun c₀ cs hu=>?_
 simp only[Tryz.ntmps222,zbA,List.length_cons,List.length_nil,Nat.reduceAdd,Nat.reduceSub,Array.replicate_succ,Array.replicate_zero,List.push_toArray,List.append_toArray,List.nil_append,List.cons_append]
 apply wpS_seq
 apply wpS_region
 simp[wpOpsS,go_sem,recoverD,hu,Exit.thenS,hr,c2,hz]
 apply wpS_seq
 apply wpS_region
 simp[wpOpsS,go_sem,recoverD,hu,Exit.thenS]
 refine Zwa (Q':=fun e a' w'=>e=.normal/\a'.defers=[]/\w'=w.setCell ⟨b,2,none⟩ (.bool false)) ?_ ?_
 ·go_wp2
 ·rintro e a' w' ⟨rfl,hd,rfl⟩
  cases c₀
  simp_all [bodyPostS,results,Tryz.results222]
theorem asrt_flt (e:Int) (w:World):(Instr.typeAssert (.iface 284 (.agg #[.int .i64 e])) 20 284 true).run Tryz.prog w=.ok (.tuple #[.agg #[.int .i64 e],.bool true]) w:=by
 simp[Instr.typeAssert,go_sem,run_underlying Tryz.underlying284]
set_option maxRecDepth 100000 in
theorem ZvV (pr pe:Addr) (b:Nat) (s:ByteArray) (at' x e:Int) (live:Bool) (w:World) (hr:w.cell? pr=some (.pointer (some ⟨b,0,none⟩))) (h:Zwx w b s at' live) (hz:w.frozen? ⟨b,2,none⟩=false) (he:w.cell? pe=some (.int .i64 x)) (hze:w.frozen? pe=false) (hne:pe.block≠b) (hpe:pe.block<w.heap.size) :
  CallsD Tryz.prog 222 #[.pointer (some pr),.pointer (some pe)] (.panicking [{ v:=Zwy e,recovered:=false }]) w fun en u' w'=>en=.returned (.tuple #[])/\u'=.panicking [{ v:=Zwy e,recovered:=true }]/\w'=((w.setCell ⟨b,2,none⟩ (.bool false)).alloc (.cells #[.int .i64 e] 284)).setCell pe (.int .i64 e):=by
 have c2:=h.c2
 refine callsD_of_wpS Tryz.func222 rfl fun c₀ cs hu=>?_
 simp only[Tryz.ntmps222,zbA,List.length_cons,List.length_nil,Nat.reduceAdd,Nat.reduceSub,Array.replicate_succ,Array.replicate_zero,List.push_toArray,List.append_toArray,List.nil_append,List.cons_append]
 apply wpS_seq
 apply wpS_region
 simp[wpOpsS,go_sem,recoverD,hu,Exit.thenS,hr,c2,hz]
 apply wpS_seq
 apply wpS_region
 simp[wpOpsS,go_sem,recoverD,hu,Exit.thenS]
 have e1:(w.setCell ⟨b,2,none⟩ (.bool false)).cell? pe=some (.int .i64 x):=by
  rw[World.cell?_setCell_other _ _ _ _ (fun h=>hne (by rw[<- h]))]
  exact he
 have z1:(w.setCell ⟨b,2,none⟩ (.bool false)).frozen? pe=false:=by rw[World.frozen?_setCell];exact hze
 have s1:pe.block<(w.setCell ⟨b,2,none⟩ (.bool false)).heap.size:=by simpa using hpe
 generalize w.setCell ⟨b,2,none⟩ (.bool false)=w1 at e1 z1 s1 ⊢
 have hta:=asrt_flt e
 have haf:∀o,(w1.alloc o).frozen? pe=false:=fun o=>(World.frozen?_alloc_old _ _ _ Xa).trans z1
 have hac:∀o,(w1.alloc o).cell? pe=some (.int .i64 x):=fun o=>(World.cell?_alloc_old _ _ _ Xa).trans e1
 clear hr h hz he hze c2 hne hpe
 refine Zwa (Q':=fun en a' w'=>en=.normal/\a'.defers=[]/\w'=(w1.alloc (.cells #[.int .i64 e] 284)).setCell pe (.int .i64 e)) ?_ ?_
 ·unfold Zwy
  go_wp2
 ·rintro e a' w' ⟨rfl,hd,rfl⟩
  cases c₀
  simp_all [bodyPostS,results,Tryz.results222]
def allW (s:ByteArray) (w:World):World:=((w.alloc (.cells #[.int .i64 0] 26)).alloc (.cells #[.string s,.int .i64 0,.bool true] 282)).alloc (.cells #[.pointer (some ⟨w.heap.size+1,0,none⟩)] 255)
structure AllK (s:ByteArray) (n:Nat) (w:World) (at':Int):Prop where
 rd:Zwx w (n+1) s at' true
 lo:0<=at'
 hi:at'<=s.size
 fz:w.frozen? ⟨n+1,2,none⟩=false
 e0:w.cell? ⟨n,0,none⟩=some (.int .i64 0)
 ez:w.frozen? ⟨n,0,none⟩=false
 rb:w.cell? ⟨n+2,0,none⟩=some (.pointer (some ⟨n+1,0,none⟩))
 sz:n+2<w.heap.size
theorem Zwx.drewN {w:World} {b:Nat} {s:ByteArray} {at':Int} {live:Bool} (h:Zwx w b s at' live) (m:Nat):Zwx (w.drewN m) b s at' live:=⟨h.c0,h.c1,h.c2⟩
theorem Zwj {w:World} {n:Nat} {x v:Value} {o:Obj} (h:w.cell? ⟨n,0,none⟩=some x) (hn:n<w.heap.size):(((w.setCell ⟨n+1,2,none⟩ (.bool false)).alloc o).setCell ⟨n,0,none⟩ v).cell? ⟨n,0,none⟩=some v:=by
 have e1:(w.setCell ⟨n+1,2,none⟩ (.bool false)).cell? ⟨n,0,none⟩=some x:=(World.cell?_setCell_other _ _ _ _ Xc).trans h
 have e2:((w.setCell ⟨n+1,2,none⟩ (.bool false)).alloc o).cell? ⟨n,0,none⟩=some x:=(World.cell?_alloc_old _ _ _ Xf).trans e1
 exact World.cell?_setCell_same' _ _ _ (by rw[e2];rfl)
theorem Zwx.set {w:World} {b n:Nat} {s:ByteArray} {at':Int} {live:Bool} (h:Zwx w b s at' live) (hn:n≠b) (v:Value):Zwx (w.setCell ⟨n,0,none⟩ v) b s at' live :=
 ⟨(World.cell?_setCell_other _ _ _ _ (by simp[hn])).trans h.c0,(World.cell?_setCell_other _ _ _ _ (by simp[hn])).trans h.c1,(World.cell?_setCell_other _ _ _ _ (by simp[hn])).trans h.c2⟩
def AllR (s : ByteArray) (n : Nat) (Q : Ending -> World -> Prop) (e : Ending) (w2 : World) : Prop :=
  ∃ w' at', AllK s n w' at' /\
    ((∃ v q, Q (.returned v) w' /\ at' = s.size /\ e = .returned (.int .i64 0) /\ w2 = ((w'.drewN q).setCell ⟨n, 0, none⟩ (.int .i64 0)).setCell ⟨n + 1, 2, none⟩ (.bool false)) \/
     (∃ v q, Q (.returned v) w' /\ at' ≠ s.size /\ e = .returned (.int .i64 3) /\ w2 = (((w'.drewN q).setCell ⟨n + 1, 2, none⟩ (.bool false)).alloc (.cells #[.int .i64 3] 284)).setCell ⟨n, 0, none⟩ (.int .i64 3)) \/
     (∃ ev, Q (.panicked [{ v := Zwy ev, recovered := false }]) w' /\ e = .returned (.int .i64 ev) /\ w2 = ((w'.setCell ⟨n + 1, 2, none⟩ (.bool false)).alloc (.cells #[.int .i64 ev] 284)).setCell ⟨n, 0, none⟩ (.int .i64 ev)))
set_option maxRecDepth 100000 in
theorem all_walk (s:ByteArray) (f:FuncId) (first caps:Array Value) (w:World) (hs:s.size<=maxLen) (hf:∀args w,(callFunc f args).run Tryz.prog w=.ok (.enter f args) w) (Q:Ending->World->Prop)
  (hread:Calls Tryz.prog f (first++#[.pointer (some ⟨w.heap.size+1,0,none⟩)]++caps) (allW s w) Q)
  (hQ:∀e w',Q e w'->(∃v at',e=.returned v/\AllK s w.heap.size w' at')\/∃ev at',e=.panicked [{ v:=Zwy ev,recovered:=false }]/\AllK s w.heap.size w' at') :
  Calls Tryz.prog 185 #[.string s,.func (.func f) first caps] w (AllR s w.heap.size Q):=by
 have hmf:∀(fn:Fn) (first cap:Array Value) (w:World),(Instr.makeFunc fn first cap).run Tryz.prog w=.ok (.func fn first cap) w:=fun _ _ _ _=>rfl
 unfold allW at hread
 rw[show first++#[Value.pointer (some ⟨w.heap.size+1,0,none⟩)]=first.push (Value.pointer (some ⟨w.heap.size+1,0,none⟩)) by simp]at hread
 have HR:=Lib.hid hread
 clear hread
 go_enter_defers Tryz.func185,Tryz.ntmps185
 go_wp2
 refine HR.out.mono ?_
 clear HR
 intro e w' hq
 rcases hQ e w' hq with⟨v,at',rfl,hk⟩|⟨ev,at',rfl,hk⟩
 ·have r0:=hk.rb
  have r1:=hk.e0
  have r2:=hk.ez
  have hl:∀m,Calls Tryz.prog 202 #[.pointer (some ⟨w.heap.size+1,0,none⟩)] (w'.drewN m) fun e w2=>e=.returned (.int .i64 (s.size - at'))/\∃q,w2=(w'.drewN m).drewN q:=fun m=>rd_left (hk.rd.drewN m) ⟨hk.lo,hk.hi⟩ hs
  have HL:=Lib.hid hl
  by_cases c:at'=s.size
  ·have hd:((s.size:Int) - at' == 0)=true:=by simp;omega
   have hw:∀m,Calls Tryz.prog 199 #[.pointer (some ⟨w.heap.size+1,0,none⟩),.bool true,.int .i64 3] (w'.drewN m) fun e w2=>e=.returned (.tuple #[])/\w2=w'.drewN m:=fun m=>ZwO 3 (hk.rd.drewN m)
   have HW:=Lib.hid hw
   have HQ:=Lib.hid hq
   have HK:=Lib.hid hk
   clear hl hw hQ hq hk
   go_wp2
   go_quiet (first|(go_at_call 202;with_reducible exact Calls.quiet_of (HL.out _))|(go_at_call 199;with_reducible exact Calls.quiet_of_same (HW.out _)))
   go_wp2
   refine leaves_cons (f:=222) (args:=#[.pointer (some ⟨w.heap.size+1+1,0,none⟩),.pointer (some ⟨w.heap.size,0,none⟩)]) Xc (by simp[go_sem]) ?_
   have k2:((w'.drewN nq).setCell ⟨w.heap.size,0,none⟩ (.int .i64 0)).cell? ⟨w.heap.size+1+1,0,none⟩=some (.pointer (some ⟨w.heap.size+1,0,none⟩)):=(World.cell?_setCell_other _ _ _ _ Xc).trans r0
   have k3:((w'.drewN nq).setCell ⟨w.heap.size,0,none⟩ (.int .i64 0)).frozen? ⟨w.heap.size+1,2,none⟩=false:=by rw[World.frozen?_setCell];exact HK.out.fz
   have k4:(((w'.drewN nq).setCell ⟨w.heap.size,0,none⟩ (.int .i64 0)).setCell ⟨w.heap.size+1,2,none⟩ (.bool false)).cell? ⟨w.heap.size,0,none⟩=some (.int .i64 0):=(World.cell?_setCell_other _ _ _ _ Xc).trans (World.cell?_setCell_same' _ _ _ (by show(w'.cell? ⟨w.heap.size,0,none⟩).isSome=true;rw[r1];rfl))
   refine(ZwK ⟨w.heap.size+1+1,0,none⟩ ⟨w.heap.size,0,none⟩ (w.heap.size+1) s at' true _ k2 ((HK.out.rd.drewN nq).set Xa _) k3).mono ?_
   rintro e u' w'' ⟨rfl,rfl,rfl⟩
   simp[Leaves,settle,results,Tryz.results185,go_sem,k4]
   exact⟨w',at',HK.out,.inl ⟨v,nq,HQ.out,c,rfl,rfl⟩⟩
  ·have hd:((s.size:Int) - at' == 0)=false:=by simp;omega
   have hw:∀m,Calls Tryz.prog 199 #[.pointer (some ⟨w.heap.size+1,0,none⟩),.bool false,.int .i64 3] (w'.drewN m) fun e w2=>e=.panicked [{ v:=Zwy 3,recovered:=false }]/\w2=w'.drewN m:=fun m=>ZwQ (hk.rd.drewN m)
   have HQ:=Lib.hid hq
   have HK:=Lib.hid hk
   have fin:∀(T:Array Value) (m:Nat),results Tryz.f185 T=results Tryz.f185 #[undef,undef,undef,undef,.pointer (some ⟨w.heap.size,0,none⟩)] ->
     bodyPostD Tryz.prog Tryz.f185 (AllR s w.heap.size Q) (.panic [{ v:=Zwy 3,recovered:=false }]) { tmps:=T,defers:=[{ target:=.fn (.func 222) #[.pointer (some ⟨w.heap.size+1+1,0,none⟩),.pointer (some ⟨w.heap.size,0,none⟩)],args:=#[] }] } (w'.drewN m):=by
    intro T m hT
    refine leaves_cons (f:=222) (args:=#[.pointer (some ⟨w.heap.size+1+1,0,none⟩),.pointer (some ⟨w.heap.size,0,none⟩)]) Xc (by simp[go_sem]) ?_
    refine(ZvV ⟨w.heap.size+1+1,0,none⟩ ⟨w.heap.size,0,none⟩ (w.heap.size+1) s at' 0 3 true (w'.drewN m) hk.rb (hk.rd.drewN m) hk.fz hk.e0 hk.ez Xc (by have:=hk.sz;simp;omega)).mono ?_
    rintro e u' w'' ⟨rfl,rfl,rfl⟩
    have hlc:=Zwj (w:=w'.drewN m) (v:=.int .i64 3) (o:=.cells #[.int .i64 3] 284) hk.e0 (by have:=hk.sz;simp;omega)
    simp only[settle,List.dropWhile_nil]
    refine⟨.int .i64 3,?_,w',at',hk,.inr (.inl ⟨v,m,hq,c,rfl,rfl⟩)⟩
    rw[hT]
    simp[results,Tryz.results185,go_sem,hlc]
   have HW:=Lib.hid hw
   clear hl hw hQ hq hk
   go_wp2
   refine wp_region_any Xg ?_
   change wpAny _ _ _ _ _ _ _ (World.drewN _ 1)
   refine wpAny_ready (rs:=[0,1]) Xg Xc ?_;refine AllReady.cons rfl (fun K hK=>?_) (AllReady.cons rfl (fun K hK=>?_) AllReady.nil)
   ·go_simp;refine hK _ _ ?_;clear hK K
    refine wpAny_ready (rs:=[1]) Xg Xc ?_;refine AllReady.cons rfl (fun K hK=>?_) AllReady.nil;go_simp;refine hK _ _ ?_;clear hK K
    refine wpAny_ready (rs:=[2]) Xg Xc ?_;refine AllReady.cons rfl (fun K hK=>?_) AllReady.nil;go_simp;go_wp2_with (go_at_call 202;refine(HL.out 1).mono ?_;rintro e w2 ⟨rfl,q,rfl⟩)
    refine wpAny_ready (rs:=[3]) Xg Xc ?_;refine AllReady.cons rfl (fun K hK=>?_) AllReady.nil;go_simp;refine hK _ _ ?_;clear hK K
    refine wpAny_ready (rs:=[4]) Xg Xc ?_;refine AllReady.cons rfl (fun K hK=>?_) AllReady.nil;go_simp;refine(HW.out (1+_)).mono ?_;rintro e w2 ⟨rfl,rfl⟩;exact fin _ _ (by simp[results,Tryz.results185])
   ·go_simp;refine hK _ _ ?_;clear hK K
    refine wpAny_ready (rs:=[0,2]) Xg Xc ?_;refine AllReady.cons rfl (fun K hK=>?_) (AllReady.cons rfl (fun K hK=>?_) AllReady.nil)
    ·go_simp;refine hK _ _ ?_;clear hK K
     refine wpAny_ready (rs:=[2]) Xg Xc ?_;refine AllReady.cons rfl (fun K hK=>?_) AllReady.nil;go_simp;go_wp2_with (go_at_call 202;refine(HL.out 1).mono ?_;rintro e w2 ⟨rfl,q,rfl⟩)
     refine wpAny_ready (rs:=[3]) Xg Xc ?_;refine AllReady.cons rfl (fun K hK=>?_) AllReady.nil;go_simp;refine hK _ _ ?_;clear hK K
     refine wpAny_ready (rs:=[4]) Xg Xc ?_;refine AllReady.cons rfl (fun K hK=>?_) AllReady.nil;go_simp;refine(HW.out (1+_)).mono ?_;rintro e w2 ⟨rfl,rfl⟩;exact fin _ _ (by simp[results,Tryz.results185])
    ·go_simp;go_wp2_with (go_at_call 202;refine(HL.out 1).mono ?_;rintro e w2 ⟨rfl,q,rfl⟩)
     refine wpAny_ready (rs:=[0,3]) Xg Xc ?_;refine AllReady.cons rfl (fun K hK=>?_) (AllReady.cons rfl (fun K hK=>?_) AllReady.nil)
     ·go_simp;refine hK _ _ ?_;clear hK K
      refine wpAny_ready (rs:=[3]) Xg Xc ?_;refine AllReady.cons rfl (fun K hK=>?_) AllReady.nil;go_simp;refine hK _ _ ?_;clear hK K
      refine wpAny_ready (rs:=[4]) Xg Xc ?_;refine AllReady.cons rfl (fun K hK=>?_) AllReady.nil;go_simp;refine(HW.out (1+_)).mono ?_;rintro e w2 ⟨rfl,rfl⟩;exact fin _ _ (by simp[results,Tryz.results185])
     ·go_simp;refine hK _ _ ?_;clear hK K
      refine wpAny_ready (rs:=[0]) Xg Xc ?_;refine AllReady.cons rfl (fun K hK=>?_) AllReady.nil;go_simp;refine hK _ _ ?_;clear hK K
      refine wpAny_ready (rs:=[4]) Xg Xc ?_;refine AllReady.cons rfl (fun K hK=>?_) AllReady.nil;go_simp;refine(HW.out (1+_)).mono ?_;rintro e w2 ⟨rfl,rfl⟩;exact fin _ _ (by simp[results,Tryz.results185])
 ·refine leaves_cons (f:=222) (args:=#[.pointer (some ⟨w.heap.size+1+1,0,none⟩),.pointer (some ⟨w.heap.size,0,none⟩)]) Xc (by simp[go_sem]) ?_
  refine(ZvV ⟨w.heap.size+1+1,0,none⟩ ⟨w.heap.size,0,none⟩ (w.heap.size+1) s at' 0 ev true w' hk.rb hk.rd hk.fz hk.e0 hk.ez Xc (by have:=hk.sz;simp;omega)).mono ?_
  rintro e u' w'' ⟨rfl,rfl,rfl⟩
  have hlc:=Zwj (v:=.int .i64 ev) (o:=.cells #[.int .i64 ev] 284) hk.e0 (by have:=hk.sz;omega)
  simp[Leaves,settle,results,Tryz.results185,go_sem,hlc]
  exact⟨w',at',hk,.inr (.inr ⟨ev,hq,rfl,rfl⟩)⟩
section
variable {g g':Gh} {H H':Zaa} {w w':World}
theorem ZK7 {p:Addr} {v:Value} {b:Nat} (e:w.heap[b]?=some (.deferred (some []))):(w.setCell p v).heap[b]?=some (.deferred (some [])):=by
 simp[World.setCell,zbU,e]
theorem Zws (hW:WR g H w) (hb:∀b,(Own g H b\/∃j,g.RO b j)->w'.heap[b]?=w.heap[b]?) (hsz:w.heap.size<=w'.heap.size) (hdf:∀b:Nat,w.heap[b]?=some (.deferred (some []))->w'.heap[b]?=some (.deferred (some []))):WR g H w'/\g.le g w w':=by
 have hle:g.le g w w':=⟨fun _ _ h=>h,fun _ _ _ _ h=>⟨_,_,_,h,.inr ⟨rfl,rfl,rfl⟩⟩,fun _ _ _ h=>h,fun _ _ h=>h,fun b j h=>Zcb (hb b (.inr ⟨j,h⟩)) j,hdf,rfl⟩
 exact⟨⟨fun id o h=>(hW.obj id o h).mono hle (fun b ho=>hb b (.inl ⟨id,o,h,ho⟩)) (fun _ _ _ h=>h) rfl rfl (fun _=>rfl),hW.inj,hW.dom,fun id o b h1 h2=>zaM (hW.bd id o b h1 h2) hsz,fun b j h=>zaM (hW.ro b j h) hsz⟩,hle⟩
abbrev rdO (s:ByteArray) (at':Int) (live:Bool):Zb3:=.cells [.sc (.string s),.i at',.b live] 282
theorem ZwH {id:Nat} {s:ByteArray} {at':Int} {live:Bool} (hW:WR g H w) (h:H.get id=some (rdO s at' live)):∃b,g.ι id=some b/\w.heap[b]?=some (.cells #[.string s,.int .i64 at',.bool live] 282 (0,0))/\∀j,¬g.RO b j:=by
 obtain⟨b,carr,h1,h2,h3,_,h5⟩:=hW.obj id _ h
 refine⟨b,h1,?_,h5⟩
 obtain⟨c0,c1,c2,hc⟩:∃a b c,carr.toList=[a,b,c]:=by
  match carr.toList,h3.1 with
  | [a,b,c],_=>exact⟨a,b,c,rfl⟩
 rw[hc]at h3
 have q0:=h3.2 0 _ _ rfl rfl
 have q1:=h3.2 1 _ _ rfl rfl
 have q2:=h3.2 2 _ _ rfl rfl
 cases q0;cases q1;cases q2
 rw[h2]
 have:carr=#[.string s,.int .i64 at',.bool live]:=by apply za9;simpa using hc
 rw[this]
theorem rd_at {b:Nat} {s:ByteArray} {at':Int} {live:Bool} (h:w.heap[b]?=some (.cells #[.string s,.int .i64 at',.bool live] 282 (0,0))):Zwx w b s at' live/\w.frozen? ⟨b,2,none⟩=false:=by
 refine⟨⟨by simp[World.cell?,h],by simp[World.cell?,h],by simp[World.cell?,h]⟩,by simp[World.frozen?,h]⟩
theorem ZwE {id b:Nat} {s:ByteArray} {at':Int} (hW:WR g H w) (h:H.get id=some (rdO s at' true)) (hb:g.ι id=some b):WR g (H.set id (rdO s at' false)) (w.setCell ⟨b,2,none⟩ (.bool false))/\Stp g H w g (H.set id (rdO s at' false)) (w.setCell ⟨b,2,none⟩ (.bool false)):=by
 obtain⟨b',h1,h2,h3⟩:=ZwH hW h
 obtain rfl:b'=b:=by rw[h1]at hb;injection hb
 have hnew:(w.setCell ⟨b',2,none⟩ (.bool false)).heap[b']?=some (.cells #[.string s,.int .i64 at',.bool false] 282 (0,0)):=by
  simp[World.setCell,zbU,h2]
 refine ZfL (o':=rdO s at' false) hW h h1 (fun _=>zae) (fun b2 hb2=>Below.heap_setCell _ _ _ _ (fun e=>hb2 e)) Xc rfl rfl rfl (fun j hj=>absurd hj (h3 j)) fun _=>?_
 refine⟨b',_,h1,hnew,?_,by simp[AV.one,Value.oneCell'],h3⟩
 exact(((VRs.nil.cons (.sc _)).cons (.sc _)).cons (.sc _))
theorem Zw4 {H2 H3:Zaa} {w2:World} (S:Stp g H w g' H2 w') (hle:g'.le g' w' w2) (hnx:H3.next=H2.next) (hnew:∀b,Own g' H3 b->Own g' H2 b) (hos:w2.os=w'.os) (htp:w2.tape=w'.tape) (hou:w2.output=w'.output) (hsz:w'.heap.size<=w2.heap.size)
  (hh:∀b,b<w.heap.size->w2.heap[b]?=w'.heap[b]?):Stp g H w g' H3 w2 :=
 ⟨S.le.trans hle,by rw[hnx];exact S.next,hos.trans S.os,htp.trans S.tape,hou.trans S.output,zaG S.size hsz,fun b hb hn=>(hh b hb).trans (S.frame b hb hn),fun b hb ho=>S.new b hb (hnew b ho),S.ro⟩
theorem Zv8 {id:Nat} {s:ByteArray} {at':Int} {b:Nat} (h:H.get id=some (rdO s at' true)) (ho:Own g (H.set id (rdO s at' false)) b):Own g H b:=by
 obtain⟨i,o,h1,h2⟩:=ho
 by_cases e:i=id
 ·subst e
  rw[Zaa.Zal (Zaa.lt h)]at h1
  injection h1 with h1
  subst h1
  exact⟨i,_,h,h2⟩
 ·rw[Zaa.Zah e]at h1
  exact⟨i,o,h1,h2⟩
theorem rfin_a {id n:Nat} {s:ByteArray} {at':Int} {H2:Zaa} (q:Nat) (v:Value) (S:Stp g H w g' H2 w') (hn:n=w.heap.size) (hW':WR g' H2 w') (hno:¬Own g' H2 n) (hnr:∀j,¬g'.RO n j) (hg:H2.get id=some (rdO s at' true)) (hι:g'.ι id=some (n+1)) :
  WR g' (H2.set id (rdO s at' false)) (((w'.drewN q).setCell ⟨n,0,none⟩ v).setCell ⟨n+1,2,none⟩ (.bool false))/\Stp g H w g' (H2.set id (rdO s at' false)) (((w'.drewN q).setCell ⟨n,0,none⟩ v).setCell ⟨n+1,2,none⟩ (.bool false)):=by
 obtain⟨j1,j2⟩:=Zws (w':=(w'.drewN q).setCell ⟨n,0,none⟩ v) hW' (fun b hb=>Below.heap_setCell _ _ _ _ (fun e=>by
  have e:b=n:=e
  subst e
  rcases hb with hb|⟨j,hb⟩
  ·exact hno hb
  ·exact hnr j hb)) Xc (fun b e=>ZK7 e)
 obtain⟨c1,c2⟩:=ZwE j1 hg hι
 refine⟨c1,Zw4 S (j2.trans c2.le) rfl (fun b ho=>Zv8 hg ho) rfl rfl rfl Xc fun b hb=>?_⟩
 exact(Below.heap_setCell _ _ _ _ (by show b≠n+1;omega)).trans (Below.heap_setCell _ _ _ _ (by show b≠n;omega))
theorem rfin_b {id n:Nat} {s:ByteArray} {at':Int} {H2:Zaa} (q:Nat) (v:Value) (o:Obj) (S:Stp g H w g' H2 w') (hn:n=w.heap.size) (hW':WR g' H2 w') (hno:¬Own g' H2 n) (hnr:∀j,¬g'.RO n j) (hg:H2.get id=some (rdO s at' true)) (hι:g'.ι id=some (n+1)) :
  WR g' (H2.set id (rdO s at' false)) ((((w'.drewN q).setCell ⟨n+1,2,none⟩ (.bool false)).alloc o).setCell ⟨n,0,none⟩ v)/\Stp g H w g' (H2.set id (rdO s at' false)) ((((w'.drewN q).setCell ⟨n+1,2,none⟩ (.bool false)).alloc o).setCell ⟨n,0,none⟩ v):=by
 obtain⟨j1,j2⟩:=Zws (w':=w'.drewN q) hW' (fun b hb=>rfl) (zad _) (fun _ e=>e)
 obtain⟨c1,c2⟩:=ZwE j1 hg hι
 obtain⟨a1,a2⟩:=Zv5 c1 o
 obtain⟨k1,k2⟩:=Zws (w':=(((w'.drewN q).setCell ⟨n+1,2,none⟩ (.bool false)).alloc o).setCell ⟨n,0,none⟩ v) a1 (fun b hb=>Below.heap_setCell _ _ _ _ (fun e=>by
  have e:b=n:=e
  subst e
  rcases hb with hb|⟨j,hb⟩
  ·exact hno (Zv8 hg hb)
  ·exact hnr j hb)) Xc (fun b e=>ZK7 e)
 have hlt:=S.size
 refine⟨k1,Zw4 S (j2.trans (c2.le.trans (a2.le.trans k2))) rfl (fun b ho=>Zv8 hg ho) rfl rfl rfl Xc fun b hb=>?_⟩
 refine(Below.heap_setCell _ _ _ _ (by show b≠n;omega)).trans ((heap_alloc_old _ _ Xf).trans ?_)
 exact Below.heap_setCell _ _ _ _ (by show b≠n+1;omega)
end
def rdPan (id:Nat) (s:ByteArray) (RP:Int->Zaa->Prop) (u:Value) (H:Zaa):Prop:=∃ev at',u=Zwy ev/\RP ev H/\H.get id=some (rdO s at' true)/\0<=at'/\at'<=s.size
def rdRet (id:Nat) (s:ByteArray) (RN:Int->Zaa->Prop) (H:Zaa):Prop:=∃at',RN at' H/\H.get id=some (rdO s at' true)/\0<=at'/\at'<=s.size
def ZRO (id:Nat) (s:ByteArray) (RN RP:Int->Zaa->Prop) (r:AV) (H':Zaa):Prop :=
 ∃H2 at',H2.get id=some (rdO s at' true)/\H'=H2.set id (rdO s at' false)/\((RN at' H2/\r=.i (if at'=s.size then 0 else 3))\/∃ev,RP ev H2/\r=.i ev)
theorem ZwP:Zmq Tryz.prog 185:=⟨_,Tryz.func185,Xg,Xg⟩
theorem Zw3 (s:ByteArray) (hs:s.size<=maxLen) (f:FuncId) (first caps:List AV) (H:Zaa) (RN RP:Int->Zaa->Prop)
  (hread:Zay ⟨Tryz.prog,rdPan H.next s RP⟩ f (first++[.ptr H.next 0]++caps) (H.alloc (rdO s 0 true)) fun _ H2=>rdRet H.next s RN H2) :
  Zay Tryz.prog 185 [.sc (.string s),.fn f first caps] H (ZRO H.next s RN RP):=by
 obtain⟨hok,hrd⟩:=hread
 refine⟨ZwP,fun g w vs hW hV hEn=>?_⟩
 obtain⟨v0,v1,rfl⟩:∃v0 v1,vs=[v0,v1]:=by
  match vs,hV.1 with
  | [v0,v1],_=>exact⟨v0,v1,rfl⟩
 have h0:=hV.2 0 _ _ rfl rfl
 have h1:=hV.2 1 _ _ rfl rfl
 cases h0
 cases h1 with
 | fn _ _ _ vf vc hl1 hl2 k1 k2 =>
 -- the world in which the reader is called
 obtain⟨hW1,hS1⟩:=Zv5 hW (.cells #[.int .i64 0] 26)
 obtain⟨hW2,hS2,hP2⟩:=ZdF hW1 282 (cs:=[.sc (.string s),.i 0,.b true]) (carr:=#[.string s,.int .i64 0,.bool true]) (((VRs.nil.cons (.sc _)).cons (.sc _)).cons (.sc _)) (by simp[AV.one,Value.oneCell'])
 obtain⟨hW3,hS3⟩:=Zv5 hW2 (.cells #[.pointer (some ⟨w.heap.size+1,0,none⟩)] 255)
 have hallW:((w.alloc (.cells #[.int .i64 0] 26)).alloc (.cells #[.string s,.int .i64 0,.bool true] 282)).alloc (.cells #[.pointer (some ⟨w.heap.size+1,0,none⟩)] 255)=allW s w:=rfl
 rw[hallW]at hW3 hS3
 have z1:(w.alloc (.cells #[.int .i64 0] 26)).heap.size=w.heap.size+1:=Xc
 have z2:((w.alloc (.cells #[.int .i64 0] 26)).alloc (.cells #[.string s,.int .i64 0,.bool true] 282)).heap.size=w.heap.size+2:=Xc
 have z3:(allW s w).heap.size=w.heap.size+3:=by simp[allW]
 have b0:(allW s w).heap[w.heap.size]?=some (.cells #[.int .i64 0] 26 (0,0)):=by
  unfold allW
  rw[heap_alloc_old _ _ Xf,heap_alloc_old _ _ Xc]
  exact heap_alloc_new w _
 have b2:(allW s w).heap[w.heap.size+2]?=some (.cells #[.pointer (some ⟨w.heap.size+1,0,none⟩)] 255 (0,0)):=by
  rw[<- z2]
  exact heap_alloc_new _ _
 rw[z1]at hW2 hS2 hP2 hW3 hS3
 have hS23:=hS2.trans hS3
 have hle:=hS1.le.trans hS23.le
 have no0:¬Own (g.obj H.next (w.heap.size+1)) (H.alloc (rdO s 0 true)) w.heap.size:=fun h=>by
  obtain⟨id,o,q1,q2⟩:=hS23.new _ (by rw[z1];omega) h
  have:=hW.bd id o _ q1 q2
  omega
 have no2:¬Own (g.obj H.next (w.heap.size+1)) (H.alloc (rdO s 0 true)) (w.heap.size+2):=fun⟨id,o,q1,q2⟩=>by
  have:=hW2.bd id o _ q1 q2
  rw[z2]at this
  omega
 have nr0:∀j,¬(g.obj H.next (w.heap.size+1)).RO w.heap.size j:=fun j h=>by
  rcases hS23.ro _ j (by rw[z1];omega) h with h|⟨id,o,q1,q2⟩
  ·have:=hW.ro _ j h;omega
  ·have:=hW.bd id o _ q1 q2;omega
 have key:∀g' H2 w' at',WR g' H2 w'->Stp (g.obj H.next (w.heap.size+1)) (H.alloc (rdO s 0 true)) (allW s w) g' H2 w'->H2.get H.next=some (rdO s at' true)->0<=at'->at'<=s.size ->
   AllK s w.heap.size w' at'/\g'.ι H.next=some (w.heap.size+1)/\(¬Own g' H2 w.heap.size)/\∀j,¬g'.RO w.heap.size j:=by
  intro g' H2 w' at' hW' hS hg ha1 ha2
  have hι:g'.ι H.next=some (w.heap.size+1):=hS.le.ι _ _ (by simp[Gh.obj])
  obtain⟨b,q1,q2,_⟩:=ZwH hW' hg
  obtain rfl:b=w.heap.size+1:=by rw[hι]at q1;injection q1 with q1;exact q1.symm
  obtain⟨hr,hz⟩:=rd_at q2
  have e0:=(hS.frame _ (by rw[z3];omega) no0).trans b0
  have e2:=(hS.frame _ (by rw[z3];omega) no2).trans b2
  refine⟨⟨hr,ha1,ha2,hz,by simp[World.cell?,e0],by simp[World.frozen?,e0],by simp[World.cell?,e2],by have:=hS.size;omega⟩,hι,fun h=>no0 (hS.new _ (by rw[z3];omega) h),fun j h=>?_⟩
  rcases hS.ro _ j (by rw[z3];omega) h with h|h
  ·exact nr0 j h
  ·exact no0 h
 have hVA:VRs (g.obj H.next (w.heap.size+1)) (allW s w) (first++[.ptr H.next 0]++caps) (vf.toList++[.pointer (some ⟨w.heap.size+1,0,none⟩)]++vc.toList):=by
  refine VRs.app (VRs.app ?_ (VRs.nil.cons (.ptr _ _ _ (by simp[Gh.obj])))) ?_
  ·exact VRs.mono (g:=g) (w:=w) ⟨by simpa using hl1,fun i x u hx hu=>k1 i x u hx (by simpa using hu)⟩ hle
  ·exact VRs.mono (g:=g) (w:=w) ⟨by simpa using hl2,fun i x u hx hu=>k2 i x u hx (by simpa using hu)⟩ hle
 have hcalls:=hrd _ _ _ hW3 hVA (hEn.mono hle.RO hle.cell)
 rw[show(vf.toList++[Value.pointer (some ⟨w.heap.size+1,0,none⟩)]++vc.toList).toArray=vf++#[.pointer (some ⟨w.heap.size+1,0,none⟩)]++vc by apply za9;simp]at hcalls
 have hf:∀args w,(callFunc f args).run Tryz.prog w=.ok (.enter f args) w:=by
  obtain⟨fn,hfn,hbody,hname⟩:=hok
  have hfn:Tryz.prog.funcs[f]?=some fn:=hfn
  intro args w
  simp only[callFunc,Sem.run_bind,Sem.run_pure,Result.andThen_ok,run_program,hfn]
  rw[if_neg (by simpa using hname),if_neg (by intro h;rw[h]at hbody;cases hbody)]
  rfl
 refine(all_walk s f vf vc w hs hf _ hcalls ?_).mono ?_
 ·intro e w' he
  rcases he with⟨v,r,H2,g',rfl,⟨at',_,hg,ha1,ha2⟩,_,hW',hS⟩|⟨u,H2,g',rfl,⟨ev,at',rfl,_,hg,ha1,ha2⟩,hW',hS⟩
  ·exact .inl ⟨v,at',rfl,(key g' H2 w' at' hW' hS hg ha1 ha2).1⟩
  ·exact .inr ⟨ev,at',rfl,(key g' H2 w' at' hW' hS hg ha1 ha2).1⟩
 ·have S0:=hS1.trans hS23
  have eqAt:∀{w':World} {x y:Int},AllK s w.heap.size w' x->AllK s w.heap.size w' y->x=y:=fun hx hy=>by
   have:=hx.rd.c1
   rw[hy.rd.c1]at this
   simpa using this.symm
  rintro e w2 ⟨w',at',hk,(⟨v,q,hq,he,rfl,rfl⟩|⟨v,q,hq,he,rfl,rfl⟩|⟨ev,hq,rfl,rfl⟩)⟩
  ·rcases hq with⟨v',r,H2,g',hv,⟨at2,hn,hg,ha1,ha2⟩,_,hW',hS⟩|⟨u,H2,g',hv,_⟩
   ·obtain⟨hk2,hι,hno,hnr⟩:=key g' H2 w' at2 hW' hS hg ha1 ha2
    obtain rfl:=eqAt hk hk2
    obtain⟨f1,f2⟩:=rfin_a q (.int .i64 0) (S0.trans hS) rfl hW' hno hnr hg hι
    exact .inl ⟨_,.i 0,_,g',rfl,⟨H2,at',hg,rfl,.inl ⟨hn,by rw[if_pos he]⟩⟩,.sc _,f1,f2⟩
   ·cases hv
  ·rcases hq with⟨v',r,H2,g',hv,⟨at2,hn,hg,ha1,ha2⟩,_,hW',hS⟩|⟨u,H2,g',hv,_⟩
   ·obtain⟨hk2,hι,hno,hnr⟩:=key g' H2 w' at2 hW' hS hg ha1 ha2
    obtain rfl:=eqAt hk hk2
    obtain⟨f1,f2⟩:=rfin_b q (.int .i64 3) (.cells #[.int .i64 3] 284) (S0.trans hS) rfl hW' hno hnr hg hι
    exact .inl ⟨_,.i 3,_,g',rfl,⟨H2,at',hg,rfl,.inl ⟨hn,by rw[if_neg he]⟩⟩,.sc _,f1,f2⟩
   ·cases hv
  ·rcases hq with⟨v',r,H2,g',hv,_⟩|⟨u,H2,g',hv,⟨ev2,at2,hu,hp,hg,ha1,ha2⟩,hW',hS⟩
   ·cases hv
   ·obtain⟨hk2,hι,hno,hnr⟩:=key g' H2 w' at2 hW' hS hg ha1 ha2
    obtain rfl:=eqAt hk hk2
    have:ev=ev2:=by
     subst hu
     simpa [Zwy] using hv
    subst this
    obtain⟨f1,f2⟩:=rfin_b 0 (.int .i64 ev) (.cells #[.int .i64 ev] 284) (S0.trans hS) rfl hW' hno hnr hg hι
    exact .inl ⟨_,.i ev,_,g',rfl,⟨H2,at',hg,rfl,.inr ⟨ev,hp,rfl⟩⟩,.sc _,f1,f2⟩
theorem Zc7 {sz:Nat}:∀{rows:List (List AV)},(∀q∈rows,q.length=sz)->rows.flatten.length=rows.length * sz
 | [],_=>by simp
 | q :: rows,h=>by
  simp only[List.flatten_cons,zac,List.length_cons]
  rw[Zc7 fun q hq=>h q (zar _ hq),h q (zak ..),zaX]
  omega
def eqTi:EqT:=⟨eqE,fun t=>t == 3⟩
theorem hEi:∀t ks,eqTi t=some ks->Ziv Tryz.prog t ks:=hE
def eqTs:EqT:=⟨eqE,fun t=>t == 9⟩
def ZNO:Zar:=ri 6 [.M 0,.c 118 [7],.u 8] 9 .ret<|rs 9 [.M 0,.k 10,.F 2 11,.M 1,.M 2,.w (.mup (.one (.int .i64)) (.t 13) (.t 14) (.t 15))]<|rs 15 [.M 0,.M 1,.c 245 [16,17]]<|rt 18 [.M 0,.k 19,.N 1 20,.M 0,.k 24,.F 0 25,.b .gtr 23 27]<|.cond (.t 28) (rt 28 [.M 0,.k 29,.F 1 30,.M 0,.k 33,.F 0 34,.Y 1 32 36,.s 6]<|rt 38 [.M 0,.M 0,.k 40,.F 1 41,.M 0,.k 44,.F 0 45,.O (.slc 1 (.t 43) none (some (.t 47)) none),.k 39,.f 1 49,.Z 1 50 48]<|ry 50 [.M 0,.k 51,.F 2 52,.M 6,.w (.del (.one (.int .i64)) (.t 54) (.t 55))])<|.skip
theorem kf1 (f:FuncId) (c:Zar) (r:List Zcq) (n:Nat) (h:cFn Tryz.prog eqTi f=some (c,r,n):=by kernel_rfl):cFn Tryz.prog eqTi f=some (c,r,n):=h
def vf217:=kf1 217 ZNO [] 56
def ZNc:Zar:=.seq (rs 4 [.M 0,.k 5,.F 1 6,.M 1,.c 119 [8,9],.s 4]<|rs 10 [.i .geq 4 0]<|.cond (.t 12) (ry 12 [.M 0,.M 0,.k 14,.F 1 15,.M 4,.i .add 4 1,.c 254 [17,18,20],.k 13,.f 1 22,.Z 1 23 21])<|.skip)<|ry 23 [.M 0,.M 0,.k 25,.F 1 26,.M 1,.O (.bsv 3 1 [.t 29]),.C 255 [.t 28,ik 0,.t 30],.k 24,.f 1 32,.Z 1 33 31]
def vf245:=kf1 245 ZNc [] 34
def ZPq:Zar:=rs 0 [.D 6]<|rs 7 [.M 0,.M 1,.M 2,.R 0,.O (.slc 1 (.t 8) (some (.t 9)) (some (.t 10)) (some (.t 12)))]<|ri 13 [.M 1,.M 2,.b .eql 14 15] 16 (rr 16 [.M 0,.s 6])<|rs 17 [.R 0,.s 7]<|rt 19 [.M 0,.M 1,.O (.slc 1 (.t 20) none (some (.t 21)) none),.M 0,.M 2,.O (.slc 1 (.t 23) (some (.t 24)) none none),.O (.apv 3 1 8 [.sc (.int .i64 0)] (.t 22) (.t 25)),.s 0]<|rs 26 [.M 0,.R 0,.M 7,.O (.slc 1 (.t 27) (some (.t 29)) (some (.t 30)) none),.w (.clv (.t 31))]<|rr 31 [.M 0,.s 6]
def vf254:=kf1 254 ZPq [.tmp 6] 33
def ZNi:Zar:=rs 0 [.D 6]<|rs 9 [.M 0,.M 1,.O (.slc 1 (.t 10) (some (.t 11)) none none)]<|rs 12 [.R 2,.s 7]<|ri 14 [.i .eql 7 0] 16 (rr 16 [.M 0,.s 6])<|rs 17 [.R 0,.s 8]<|ri 19 [.M 1,.M 8,.b .eql 20 21] 22 (rr 22 [.M 0,.M 2,.O (.apv 3 1 8 [.sc (.int .i64 0)] (.t 23) (.t 24)),.s 6])<|ri 25 [.M 8,.M 7,.b .add 26 27,.M 0,.O (.cap (.t 29)),.b .gtr 28 30] 31 (rs 31 [.M 0,.M 1,.O (.slc 1 (.t 32) none (some (.t 33)) none),.M 8,.M 7,.b .add 35 36,.M 1,.b .sub 37 38,.O (.apv 3 1 1152921504606846984 [.sc (.int .i64 0),.any] (.t 34) (.t 39)),.s 9]<|rs 40 [.M 9,.M 1,.O (.slc 1 (.t 41) (some (.t 42)) none none),.M 2,.O (.cpy 1 (.t 43) (.t 44))]<|rt 45 [.M 9,.M 1,.M 7,.b .add 47 48,.O (.slc 1 (.t 46) (some (.t 49)) none none),.M 0,.M 1,.O (.slc 1 (.t 51) (some (.t 52)) none none),.O (.cpy 1 (.t 50) (.t 53))]<|rr 54 [.M 9,.s 6])<|rs 55 [.M 0,.M 8,.M 7,.b .add 57 58,.O (.slc 1 (.t 56) none (some (.t 59)) none),.s 0]<|ri 60 [.M 2,.M 0,.M 1,.M 7,.b .add 63 64,.O (.slc 1 (.t 62) (some (.t 65)) none none),.O (.ovl (.t 61) (.t 66)),.u 67] 68 (rt 68 [.M 0,.M 1,.M 7,.b .add 70 71,.O (.slc 1 (.t 69) (some (.t 72)) none none),.M 0,.M 1,.O (.slc 1 (.t 74) (some (.t 75)) none none),.O (.cpy 1 (.t 73) (.t 76))]<|rs 77 [.M 0,.M 1,.O (.slc 1 (.t 78) (some (.t 79)) none none),.M 2,.O (.cpy 1 (.t 80) (.t 81))]<|rr 82 [.M 0,.s 6])<|rs 83 [.M 0,.M 8,.O (.slc 1 (.t 84) (some (.t 85)) none none),.M 2,.O (.cpy 1 (.t 86) (.t 87))]<|rs 88 [.M 0,.M 1,.O (.slc 1 (.t 89) (some (.t 90)) none none),.M 7,.c 263 [91,92]]<|rr 93 [.M 0,.s 6]
def vf255:=kf1 255 ZNi [.tmp 6] 95
theorem kf2 (f:FuncId) (c:Zar) (r:List Zcq) (n:Nat) (h:cFn Tryz.prog eqTs f=some (c,r,n):=by kernel_rfl):cFn Tryz.prog eqTs f=some (c,r,n):=h
open Go.RowKit Go.Lib Go.Shelf
theorem ZRo:Zmq Tryz.prog (ZvY.f 105):=⟨_,Tryz.func99,Xg,Xg⟩
theorem Zwn (s:ByteArray) (c:Nat) (H:Zaa) (hc:c<=9223372036854775807) (hl:s.size * c<=140737488355328):Zay Tryz.prog 99 [.sc (.string s),.i (c:Int)] H (fun r H'=>r=.sc (.string ⟨⟨repeatL s.data.toList c⟩⟩)/\H'=H):=by
 refine⟨ZRo,fun g w vs hW hV hEn=>?_⟩
 obtain⟨v0,v1,rfl⟩:∃v0 v1,vs=[v0,v1]:=by
  match vs,hV.1 with
  | [v0,v1],_=>exact⟨v0,v1,rfl⟩
 have h1:=hV.2 0 _ _ rfl rfl
 have h2:=hV.2 1 _ _ rfl rfl
 cases h1
 cases h2
 refine(Any.strings_Repeat Zxk Zxh s c w hc hl).mono fun e w' ⟨he,hb⟩=>?_
 obtain⟨k1,k2⟩:=Zxg hW hb
 exact .inl ⟨_,_,_,g,he,⟨rfl,rfl⟩,.sc _,k1,k2⟩
theorem ok_mul:Zmq Tryz.prog 98:=⟨_,Tryz.func98,Xg,Xg⟩
theorem ZSp (x y:Nat) (hx:x<18446744073709551616) (hy:y<18446744073709551616) (H:Zaa):Zay Tryz.prog 98 [.sc (.int .u64 (x:Int)),.sc (.int .u64 (y:Int))] H (Pure H (.tup [.sc (.int .u64 ((x * y / 18446744073709551616:Nat):Int)),.sc (.int .u64 ((x * y % 18446744073709551616:Nat):Int))])):=by
 refine Same.pure ⟨ok_mul,fun g w vs hW hV hEn=>?_⟩
 obtain⟨v0,v1,rfl⟩:∃v0 v1,vs=[v0,v1]:=by
  match vs,hV.1 with
  | [v0,v1],_=>exact⟨v0,v1,rfl⟩
 have h1:=hV.2 0 _ _ rfl rfl
 have h2:=hV.2 1 _ _ rfl rfl
 cases h1
 cases h2
 refine(Any.bits_Mul lays212 x y hx hy w).mono fun e w' ⟨he,hb⟩=>?_
 subst hb
 exact .inl ⟨_,_,_,g,he,⟨rfl,rfl⟩,ZGy _ _,hW,.refl _ _ _⟩
end Go.Proofs.YtfjjpndoeppbhaaGreatDoor
