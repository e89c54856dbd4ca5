/- Texts of the walk, joined: A3 A4. -/
import Derived.Test.YtjflognbeehccaaGreatDoorMk
namespace Go.Proofs.YtjflognbeehccaaGreatDoor
set_option linter.unusedSimpArgs false
set_option linter.unusedVariables false
open Go.RowKit Go.Lib
theorem ZwZ {P:Program} {f:FuncId} {xa:List Value} {R:AV→Zaa→Prop} {v:Value} (h:Zay P f (xa.map .sc) Zaa.emp R) (hR:∀r H,R r H→r=.sc v) (H:Zaa):Zay P f (xa.map .sc) H (fun r H'=>r=.sc v∧H'=H):=by
 refine⟨h.1,fun g w vs hW hV=>?_⟩
 let g0:Gh:=⟨fun _=>none,fun _=>none,fun _ _=>none,g.RO⟩
 have hW0:WR g0 Zaa.emp w:=⟨fun id o h=>by simp[Zaa.emp]at h,fun id id' o o' b h=>by simp[Zaa.emp]at h,fun id _=>⟨rfl,rfl,fun _=>rfl⟩,fun id o b h=>by simp[Zaa.emp]at h,hW.ro⟩
 have hV0:VRs g0 w (xa.map .sc) vs:=⟨hV.1,fun i x u hx hu=>by
  have hh:=hV.2 i x u hx hu
  rw[List.getElem?_map]at hx
  cases hy:xa[i]? with
  | none=>rw[hy]at hx;cases hx
  | some y =>
   rw[hy]at hx
   simp only[Option.map_some,Option.some.injEq]at hx
   subst hx
   cases hh
   exact .sc _⟩
 refine(h.2 g0 w vs hW0 hV0).mono fun e w' hh=>?_
 rcases hh with⟨u,r,H',g',he,hr,hv,hw',hs⟩|⟨_,_,_,_,hh,_⟩
 rotate_left
 ·exact hh.elim
 have hblk:∀b,b<w.heap.size→w'.heap[b]?=w.heap[b]?:=fun b hb=>hs.frame b hb (fun⟨id,o,h1,_⟩=>by simp[Zaa.emp]at h1)
 have hle:g.le g w w':=⟨fun _ _ h=>h,fun _ _ _ _ h=>⟨_,_,_,h,.inr ⟨rfl,rfl,rfl⟩⟩,fun _ _ _ h=>h,fun _ _ h=>h,fun b j h=>Zcb (hblk b (hW.ro b j h)) j⟩
 refine .inl ⟨u,.sc v,H,g,he,⟨rfl,rfl⟩,?_,⟨fun id o ho=>?_,hW.inj,hW.dom,fun id o b h1 h2=>Nat.lt_of_lt_of_le (hW.bd id o b h1 h2) hs.size,fun b j h=>Nat.lt_of_lt_of_le (hW.ro b j h) hs.size⟩,⟨hle,Nat.le_refl _,hs.os,hs.tape,hs.output,hs.size,fun b hb _=>hblk b hb,fun _ _ h=>h,fun _ _ _ h=>.inl h⟩⟩
 ·have:=hR _ _ hr
  subst this
  cases hv
  exact .sc _
 ·exact(hW.obj id o ho).mono hle (fun b hb=>hblk b (hW.bd id o b ho hb)) (fun _ _ _ h=>h) rfl rfl (fun _=>rfl)
def isV (v:Int):AV→TH→Nat→Bool:=fun r _ _=>match r with
 | .sc (.int .u32 n)=>n == v
 | _=>false
theorem isV_ok {v:Int} {r:AV} {M:TH} {n:Nat} (h:isV v r M n=true):r=.sc (.int .u32 v):=by
 unfold isV at h
 split at h
 ·rw[beq_iff_eq]at h;rw[h]
 ·cases h
abbrev Zwp (s:List UInt8) (v:Int):Prop:=∀H,Zay Tryz.prog 281 [.sc (.int .u32 0),.sc (.string ⟨⟨s⟩⟩)] H (fun r H'=>r=.sc (.int .u32 v)∧H'=H)
theorem Zwu {s:List UInt8} {v:Int} (h:Zwk XR TK 400 40 noK 281 [.sc (.int .u32 0),.sc (.string ⟨⟨s⟩⟩)] (isV v) .e 0=true):Zwp s v:=fun H=>by
 have:=(Zv0 hE hXR hTK 400 40 noK 281 _ _ .e 0 h).calm
 rw[Zwr]at this
 exact @ZwZ Tryz.prog 281 [.int .u32 0,.string ⟨⟨s⟩⟩] _ _ (this.mono fun r H' ⟨_,_,_,h2⟩=>isV_ok h2) (fun _ _ h=>h) H
def txtA:List UInt8:=([]++List.replicate 118 0)
theorem crcA:Zwp txtA 909490961:=Zwu (by kernel_rfl)
def txtB:List UInt8:=([67,0,0,0,0,16,1,1,100,1,1,116,1,0,1,97,1,1,109]++List.replicate 233 0)
theorem crcB:Zwp txtB 132551082:=Zwu (by kernel_rfl)
def txtC:List UInt8:=([77,0,0,0,0,4,0,0,0,1]++List.replicate 242 0)
theorem crcC:Zwp txtC 3841661823:=Zwu (by kernel_rfl)
def txtD:List UInt8:=([86,0,0,0,0,0,1,1,0,16]++List.replicate 108 0)
theorem crcD:Zwp txtD 3536885709:=Zwu (by kernel_rfl)
open Go.RowKit Go.Lib
def tabC:List (List UInt8×Int):=[(txtA,909490961),(txtB,132551082),(txtC,3841661823),(txtD,3536885709)]
def findC:List (List UInt8×Int)→List UInt8→Option Int
 | [],_=>none
 | (t,v) :: l,s=>bif u8Eq t s then some v else findC l s
theorem Zwv:∀{l:List (List UInt8×Int)},(∀p∈l,Zwp p.1 p.2)→∀{s:List UInt8} {v:Int},findC l s=some v→Zwp s v
 | [],_,s,v,h=>by cases h
 | (t,u) :: l,ha,s,v,h=>by
  simp only[findC]at h
  rw[Zwb]at h
  by_cases e:t=s
  ·subst e
   simp only[beq_self_eq_true,cond_true,Option.some.injEq]at h
   subst h
   exact ha _ List.mem_cons_self
  ·have e2:(t == s)=false:=by simpa using e
   rw[e2,cond_false]at h
   exact Zwv (fun p hp=>ha p (List.mem_cons_of_mem _ hp)) h
theorem tabC_ok:∀p∈tabC,Zwp p.1 p.2:=by
 intro p hp
 simp only[tabC,List.mem_cons,List.mem_nil_iff,or_false]at hp
 rcases hp with rfl|rfl|rfl|rfl
 ·exact crcA
 ·exact crcB
 ·exact crcC
 ·exact crcD
def XC:Zwg→(Int→TH→Nat→Bool)→FuncId→List AV→(AV→TH→Nat→Bool)→TH→Nat→Option Bool:=fun call kp f args k M n=>match args with
 | [.sc (.int .u32 (.ofNat 0)),.sc (.string s)]=>bif Nat.beq f 281 then (match findC tabC s.data.toList with
  | some v=>some (k (.sc (.int .u32 v)) M n)
  | none=>XR call kp f args k M n) else XR call kp f args k M n
 | _=>XR call kp f args k M n
theorem hXC:∀call,Zv2 Tryz.prog call→∀kp f args k M n,XC call kp f args k M n=some true→Zay ⟨Tryz.prog,Zwi kp⟩ f args (upT M n) fun r H'=>∃M' n',upT M' n'=H'∧k r M' n'=true:=by
 intro call hc kp f args k M n h
 unfold XC at h
 split at h
 ·rename_i s
  rw[ZwR]at h
  by_cases e:f=281
  ·subst e
   simp only[decide_true,cond_true]at h
   split at h
   ·rename_i v hv
    simp only[Option.some.injEq]at h
    exact((Zwv tabC_ok hv (upT M n)).mono fun r H' ⟨h1,h2⟩=>⟨M,n,h2.symm,by rw[h1];exact h⟩).up
   ·exact hXR call hc _ _ _ _ _ _ h
  ·simp only[e,decide_false,cond_false]at h
   exact hXR call hc _ _ _ _ _ _ h
 ·exact hXR call hc _ _ _ _ _ _ h
theorem run_w:Zwk XC TK 400 40 noK 6 [] isT2 .e 0=true:=by kernel_rfl
theorem awake41 (H:Zaa):Zay Tryz.prog 6 [] H fun r H'=>r=.b true∧H'=H:=by
 have:=(Zv0 hE hXC hTK 400 40 noK 6 [] isT2 .e 0 run_w).calm
 rw[Zwr]at this
 exact @ZwZ Tryz.prog 6 [] _ _ (this.mono fun r H' ⟨_,_,_,h2⟩=>Zw2 h2) (fun _ _ h=>h) H
end Go.Proofs.YtjflognbeehccaaGreatDoor
