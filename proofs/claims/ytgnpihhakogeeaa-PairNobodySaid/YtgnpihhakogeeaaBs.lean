/- The abstract machine: rules to walk by, a rule a kind of instruction; the kernel need not unfold a walk. -/
import Derived.Test.YtgnpihhakogeeaaBr
namespace Go.Proofs.Ytgnpihhakogeeaa
set_option linter.unusedSimpArgs false
set_option linter.unusedVariables false
open Go.RowKit

class PBox where
  out : Prop
def StepK (o : Option (AV × AHeap)) [K : KBox] : Prop := match o with
  | some (v, H) => K.out v H
  | none => False
theorem StepK_some {v : AV} {H : AHeap} {k : AV → AHeap → Prop} : @StepK (some (v, H)) ⟨k⟩ = k v H := propext Iff.rfl
def CondK (v : AV) [A : PBox] [B : KBox] : Prop := match v with
  | .sc (.bool t) => bif t then A.out else B.out .any AHeap.emp
  | .ub => A.out ∧ B.out .any AHeap.emp
  | _ => False
theorem CondK_t {A : Prop} {B : AV → AHeap → Prop} : @CondK (.sc (.bool true)) ⟨A⟩ ⟨B⟩ = A := propext Iff.rfl
theorem CondK_f {A : Prop} {B : AV → AHeap → Prop} : @CondK (.sc (.bool false)) ⟨A⟩ ⟨B⟩ = B .any AHeap.emp := propext Iff.rfl
theorem CondK_u {A : Prop} {B : AV → AHeap → Prop} : @CondK .ub ⟨A⟩ ⟨B⟩ = (A ∧ B .any AHeap.emp) := propext Iff.rfl
def GdK (v : AV) (b : Bool) [A : PBox] [B : KBox] : Prop := match v with
  | .sc (.bool c) => bif c == b then A.out else B.out .any AHeap.emp
  | .sc _ => B.out .any AHeap.emp
  | _ => False
theorem GdK_tt {A : Prop} {B : AV → AHeap → Prop} : @GdK (.sc (.bool true)) true ⟨A⟩ ⟨B⟩ = A := propext Iff.rfl
theorem GdK_ff {A : Prop} {B : AV → AHeap → Prop} : @GdK (.sc (.bool false)) false ⟨A⟩ ⟨B⟩ = A := propext Iff.rfl
theorem GdK_tf {A : Prop} {B : AV → AHeap → Prop} : @GdK (.sc (.bool true)) false ⟨A⟩ ⟨B⟩ = B .any AHeap.emp := propext Iff.rfl
theorem GdK_ft {A : Prop} {B : AV → AHeap → Prop} : @GdK (.sc (.bool false)) true ⟨A⟩ ⟨B⟩ = B .any AHeap.emp := propext Iff.rfl
theorem GdK_u {A : Prop} {B : AV → AHeap → Prop} {b : Bool} : @GdK undefA b ⟨A⟩ ⟨B⟩ = B .any AHeap.emp := propext Iff.rfl
def CallF (P : Program) (f : AV) (args : List AV) (H : AHeap) [K : KBox] : Prop := match f with
  | .fn h first caps => Sound P h (first ++ args ++ caps) H K.out
  | _ => False
theorem CallF_fn {P : Program} {h : FuncId} {first caps args : List AV} {H : AHeap} {k : AV → AHeap → Prop} : @CallF P (.fn h first caps) args H ⟨k⟩ = @CallK P h (first ++ args ++ caps) H ⟨k⟩ := propext Iff.rfl
section
variable {P : Program} {Q : AEx → Fr → AHeap → Prop} {F : Fr} {H : AHeap} {a b : ACode} {K : Fr → AHeap → Prop} {l : List AI} {ld : List (AI × List AI)} {d : Option Nat} {c : AX} {id k : Nat}
theorem Y_seq : AW P (.seq a b) Q F H = AW P a (SeqQ P b Q) F H := propext Iff.rfl
theorem Y_reg : AW P (.reg l) Q F H = AWOps P l F H (Q .normal) := propext Iff.rfl
theorem Y_drw : AW P (.drw ld) Q F H = AWDraw P ld F H (Q .normal) := propext Iff.rfl
theorem Y_blk : AW P (.blk id a) Q F H = AW P a (BlkQ id Q) F H := propext Iff.rfl
theorem Y_cond : AW P (.cond c a b) Q F H = @CondK (c.ev F) ⟨AW P a Q F H⟩ ⟨fun _ _ => AW P b Q F H⟩ := propext Iff.rfl
theorem Y_skip : AW P .skip Q F H = Q .normal F H := propext Iff.rfl
theorem Y_ret : AW P .ret Q F H = Q .ret F H := propext Iff.rfl
theorem Y_exit : AW P (.exit id) Q F H = Q (.exit id) F H := propext Iff.rfl
theorem Y_sn : SeqQ P b Q .normal F H = AW P b Q F H := propext Iff.rfl
theorem Y_sr : SeqQ P b Q .ret F H = Q .ret F H := propext Iff.rfl
theorem Y_se : SeqQ P b Q (.exit id) F H = Q (.exit id) F H := propext Iff.rfl
theorem Y_bn : BlkQ id Q .normal F H = Q .normal F H := propext Iff.rfl
theorem Y_br : BlkQ id Q .ret F H = Q .ret F H := propext Iff.rfl
theorem Y_be : BlkQ id Q (.exit k) F H = if k = id then Q .normal F H else Q (.exit k) F H := propext Iff.rfl
theorem Y_nil : AWOps P [] F H K = K F H := propext Iff.rfl
theorem Y_dnil : AWDraw P [] F H K = K F H := propext Iff.rfl
theorem Y_g {s : Nat} {t : Bool} {op : AOp} : AWOps P (⟨some (s, t), d, op⟩ :: l) F H K = @GdK (Fr.get F s) t ⟨AWOps P (⟨none, d, op⟩ :: l) F H K⟩ ⟨fun _ _ => AWOps P l (Fr.put F d undefA) H K⟩ := by
  simp only [AWOps, AI.want, GdK, AI.step]
  cases Fr.get F s with
  | sc v =>
    cases v with
    | bool c => cases c <;> cases t <;> rfl
    | _ => rfl
  | _ => rfl
theorem Y_dg {s : Nat} {t : Bool} {op : AOp} {chk : List AI} : AWDraw P ((⟨some (s, t), d, op⟩, chk) :: ld) F H K = @GdK (Fr.get F s) t ⟨AWDraw P ((⟨none, d, op⟩, chk) :: ld) F H K⟩ ⟨fun _ _ => AWDraw P ld (Fr.put F d undefA) H K⟩ := by
  simp only [AWDraw, AI.want, GdK, AI.step]
  cases Fr.get F s with
  | sc v =>
    cases v with
    | bool c => cases c <;> cases t <;> rfl
    | _ => rfl
  | _ => rfl
theorem Y_call {f : AX} {args : List AX} : AWOps P (⟨none, d, .call f args⟩ :: l) F H K = @CallF P (f.ev F) (evs F args) H ⟨fun r H' => AWOps P l (Fr.put F d r) H' K⟩ := propext Iff.rfl
theorem Y_dcall0 {f : AX} {args : List AX} : AWDraw P ((⟨none, d, .call f args⟩, []) :: ld) F H K = @CallF P (f.ev F) (evs F args) H ⟨fun r H' => AWDraw P ld (Fr.put F d r) H' K⟩ := by
  simp only [AWDraw, AI.want, AI.step, CallF, List.not_mem_nil, false_implies, implies_true, true_and]
  rfl
theorem Y_dcall {f : AX} {args : List AX} {r0 : AI} {chk : List AI} : AWDraw P ((⟨none, d, .call f args⟩, r0 :: chk) :: ld) F H K = @CallF P (f.ev F) (evs F args) H ⟨fun v H' => (∀ r ∈ r0 :: chk, r.stable (Fr.put F d v) H') ∧ AWDraw P ld (Fr.put F d v) H' K⟩ := propext Iff.rfl
theorem Y_mv {x : AX} : AWOps P (⟨none, d, .mv x⟩ :: l) F H K = AWOps P l (Fr.put F d (x.ev F)) H K := propext Iff.rfl
theorem Y_dmv {x : AX} : AWDraw P ((⟨none, d, .mv x⟩, []) :: ld) F H K = AWDraw P ld (Fr.put F d (x.ev F)) H K := by
  simp only [AWDraw, AI.want, AI.step, AOp.ev, List.not_mem_nil, false_implies, implies_true, true_and]
theorem Y_pick {p_c : AX} {p_a : AX} {p_b : AX} : AWOps P (⟨none, d, .pick p_c p_a p_b⟩ :: l) F H K = @StepK (AOp.ev F H (.pick p_c p_a p_b)) ⟨fun v H' => AWOps P l (Fr.put F d v) H' K⟩ := propext Iff.rfl
theorem Yd_pick {p_c : AX} {p_a : AX} {p_b : AX} : AWDraw P ((⟨none, d, .pick p_c p_a p_b⟩, []) :: ld) F H K = @StepK (AOp.ev F H (.pick p_c p_a p_b)) ⟨fun v H' => AWDraw P ld (Fr.put F d v) H' K⟩ := by
  simp only [AWDraw, AI.want, AI.step, StepK, List.not_mem_nil, false_implies, implies_true, true_and]
  rfl
theorem Ye_pick {p_c : AX} {p_a : AX} {p_b : AX} {r0 : AI} {chk : List AI} : AWDraw P ((⟨none, d, .pick p_c p_a p_b⟩, r0 :: chk) :: ld) F H K = @StepK (AOp.ev F H (.pick p_c p_a p_b)) ⟨fun v H' => (∀ r ∈ r0 :: chk, r.stable (Fr.put F d v) H') ∧ AWDraw P ld (Fr.put F d v) H' K⟩ := propext Iff.rfl
theorem Y_box {p_E : TypeId} {p_x : AX} : AWOps P (⟨none, d, .box p_E p_x⟩ :: l) F H K = @StepK (AOp.ev F H (.box p_E p_x)) ⟨fun v H' => AWOps P l (Fr.put F d v) H' K⟩ := propext Iff.rfl
theorem Yd_box {p_E : TypeId} {p_x : AX} : AWDraw P ((⟨none, d, .box p_E p_x⟩, []) :: ld) F H K = @StepK (AOp.ev F H (.box p_E p_x)) ⟨fun v H' => AWDraw P ld (Fr.put F d v) H' K⟩ := by
  simp only [AWDraw, AI.want, AI.step, StepK, List.not_mem_nil, false_implies, implies_true, true_and]
  rfl
theorem Ye_box {p_E : TypeId} {p_x : AX} {r0 : AI} {chk : List AI} : AWDraw P ((⟨none, d, .box p_E p_x⟩, r0 :: chk) :: ld) F H K = @StepK (AOp.ev F H (.box p_E p_x)) ⟨fun v H' => (∀ r ∈ r0 :: chk, r.stable (Fr.put F d v) H') ∧ AWDraw P ld (Fr.put F d v) H' K⟩ := propext Iff.rfl
theorem Y_bld {p_zero : List AV} {p_parts : List (Nat × Nat × AX)} : AWOps P (⟨none, d, .bld p_zero p_parts⟩ :: l) F H K = @StepK (AOp.ev F H (.bld p_zero p_parts)) ⟨fun v H' => AWOps P l (Fr.put F d v) H' K⟩ := propext Iff.rfl
theorem Yd_bld {p_zero : List AV} {p_parts : List (Nat × Nat × AX)} : AWDraw P ((⟨none, d, .bld p_zero p_parts⟩, []) :: ld) F H K = @StepK (AOp.ev F H (.bld p_zero p_parts)) ⟨fun v H' => AWDraw P ld (Fr.put F d v) H' K⟩ := by
  simp only [AWDraw, AI.want, AI.step, StepK, List.not_mem_nil, false_implies, implies_true, true_and]
  rfl
theorem Ye_bld {p_zero : List AV} {p_parts : List (Nat × Nat × AX)} {r0 : AI} {chk : List AI} : AWDraw P ((⟨none, d, .bld p_zero p_parts⟩, r0 :: chk) :: ld) F H K = @StepK (AOp.ev F H (.bld p_zero p_parts)) ⟨fun v H' => (∀ r ∈ r0 :: chk, r.stable (Fr.put F d v) H') ∧ AWDraw P ld (Fr.put F d v) H' K⟩ := propext Iff.rfl
theorem Y_bsl {p_sz : Nat} {p_parts : List AX} : AWOps P (⟨none, d, .bsl p_sz p_parts⟩ :: l) F H K = @StepK (AOp.ev F H (.bsl p_sz p_parts)) ⟨fun v H' => AWOps P l (Fr.put F d v) H' K⟩ := propext Iff.rfl
theorem Yd_bsl {p_sz : Nat} {p_parts : List AX} : AWDraw P ((⟨none, d, .bsl p_sz p_parts⟩, []) :: ld) F H K = @StepK (AOp.ev F H (.bsl p_sz p_parts)) ⟨fun v H' => AWDraw P ld (Fr.put F d v) H' K⟩ := by
  simp only [AWDraw, AI.want, AI.step, StepK, List.not_mem_nil, false_implies, implies_true, true_and]
  rfl
theorem Ye_bsl {p_sz : Nat} {p_parts : List AX} {r0 : AI} {chk : List AI} : AWDraw P ((⟨none, d, .bsl p_sz p_parts⟩, r0 :: chk) :: ld) F H K = @StepK (AOp.ev F H (.bsl p_sz p_parts)) ⟨fun v H' => (∀ r ∈ r0 :: chk, r.stable (Fr.put F d v) H') ∧ AWDraw P ld (Fr.put F d v) H' K⟩ := propext Iff.rfl
theorem Y_ld {p_sz : Nat} {p_agg : Bool} {p_x : AX} : AWOps P (⟨none, d, .ld p_sz p_agg p_x⟩ :: l) F H K = @StepK (AOp.ev F H (.ld p_sz p_agg p_x)) ⟨fun v H' => AWOps P l (Fr.put F d v) H' K⟩ := propext Iff.rfl
theorem Yd_ld {p_sz : Nat} {p_agg : Bool} {p_x : AX} : AWDraw P ((⟨none, d, .ld p_sz p_agg p_x⟩, []) :: ld) F H K = @StepK (AOp.ev F H (.ld p_sz p_agg p_x)) ⟨fun v H' => AWDraw P ld (Fr.put F d v) H' K⟩ := by
  simp only [AWDraw, AI.want, AI.step, StepK, List.not_mem_nil, false_implies, implies_true, true_and]
  rfl
theorem Ye_ld {p_sz : Nat} {p_agg : Bool} {p_x : AX} {r0 : AI} {chk : List AI} : AWDraw P ((⟨none, d, .ld p_sz p_agg p_x⟩, r0 :: chk) :: ld) F H K = @StepK (AOp.ev F H (.ld p_sz p_agg p_x)) ⟨fun v H' => (∀ r ∈ r0 :: chk, r.stable (Fr.put F d v) H') ∧ AWDraw P ld (Fr.put F d v) H' K⟩ := propext Iff.rfl
theorem Y_st {p_sz : Nat} {p_x : AX} {p_y : AX} : AWOps P (⟨none, d, .st p_sz p_x p_y⟩ :: l) F H K = @StepK (AOp.ev F H (.st p_sz p_x p_y)) ⟨fun v H' => AWOps P l (Fr.put F d v) H' K⟩ := propext Iff.rfl
theorem Yd_st {p_sz : Nat} {p_x : AX} {p_y : AX} : AWDraw P ((⟨none, d, .st p_sz p_x p_y⟩, []) :: ld) F H K = @StepK (AOp.ev F H (.st p_sz p_x p_y)) ⟨fun v H' => AWDraw P ld (Fr.put F d v) H' K⟩ := by
  simp only [AWDraw, AI.want, AI.step, StepK, List.not_mem_nil, false_implies, implies_true, true_and]
  rfl
theorem Ye_st {p_sz : Nat} {p_x : AX} {p_y : AX} {r0 : AI} {chk : List AI} : AWDraw P ((⟨none, d, .st p_sz p_x p_y⟩, r0 :: chk) :: ld) F H K = @StepK (AOp.ev F H (.st p_sz p_x p_y)) ⟨fun v H' => (∀ r ∈ r0 :: chk, r.stable (Fr.put F d v) H') ∧ AWDraw P ld (Fr.put F d v) H' K⟩ := propext Iff.rfl
theorem Y_nck {p_x : AX} : AWOps P (⟨none, d, .nck p_x⟩ :: l) F H K = @StepK (AOp.ev F H (.nck p_x)) ⟨fun v H' => AWOps P l (Fr.put F d v) H' K⟩ := propext Iff.rfl
theorem Yd_nck {p_x : AX} : AWDraw P ((⟨none, d, .nck p_x⟩, []) :: ld) F H K = @StepK (AOp.ev F H (.nck p_x)) ⟨fun v H' => AWDraw P ld (Fr.put F d v) H' K⟩ := by
  simp only [AWDraw, AI.want, AI.step, StepK, List.not_mem_nil, false_implies, implies_true, true_and]
  rfl
theorem Ye_nck {p_x : AX} {r0 : AI} {chk : List AI} : AWDraw P ((⟨none, d, .nck p_x⟩, r0 :: chk) :: ld) F H K = @StepK (AOp.ev F H (.nck p_x)) ⟨fun v H' => (∀ r ∈ r0 :: chk, r.stable (Fr.put F d v) H') ∧ AWDraw P ld (Fr.put F d v) H' K⟩ := propext Iff.rfl
theorem Y_bin {p_op : BinOp} {p_x : AX} {p_y : AX} : AWOps P (⟨none, d, .bin p_op p_x p_y⟩ :: l) F H K = @StepK (AOp.ev F H (.bin p_op p_x p_y)) ⟨fun v H' => AWOps P l (Fr.put F d v) H' K⟩ := propext Iff.rfl
theorem Yd_bin {p_op : BinOp} {p_x : AX} {p_y : AX} : AWDraw P ((⟨none, d, .bin p_op p_x p_y⟩, []) :: ld) F H K = @StepK (AOp.ev F H (.bin p_op p_x p_y)) ⟨fun v H' => AWDraw P ld (Fr.put F d v) H' K⟩ := by
  simp only [AWDraw, AI.want, AI.step, StepK, List.not_mem_nil, false_implies, implies_true, true_and]
  rfl
theorem Ye_bin {p_op : BinOp} {p_x : AX} {p_y : AX} {r0 : AI} {chk : List AI} : AWDraw P ((⟨none, d, .bin p_op p_x p_y⟩, r0 :: chk) :: ld) F H K = @StepK (AOp.ev F H (.bin p_op p_x p_y)) ⟨fun v H' => (∀ r ∈ r0 :: chk, r.stable (Fr.put F d v) H') ∧ AWDraw P ld (Fr.put F d v) H' K⟩ := propext Iff.rfl
theorem Y_eqf {p_ks : List SK} {p_neg : Bool} {p_x : AX} {p_y : AX} : AWOps P (⟨none, d, .eqf p_ks p_neg p_x p_y⟩ :: l) F H K = @StepK (AOp.ev F H (.eqf p_ks p_neg p_x p_y)) ⟨fun v H' => AWOps P l (Fr.put F d v) H' K⟩ := propext Iff.rfl
theorem Yd_eqf {p_ks : List SK} {p_neg : Bool} {p_x : AX} {p_y : AX} : AWDraw P ((⟨none, d, .eqf p_ks p_neg p_x p_y⟩, []) :: ld) F H K = @StepK (AOp.ev F H (.eqf p_ks p_neg p_x p_y)) ⟨fun v H' => AWDraw P ld (Fr.put F d v) H' K⟩ := by
  simp only [AWDraw, AI.want, AI.step, StepK, List.not_mem_nil, false_implies, implies_true, true_and]
  rfl
theorem Ye_eqf {p_ks : List SK} {p_neg : Bool} {p_x : AX} {p_y : AX} {r0 : AI} {chk : List AI} : AWDraw P ((⟨none, d, .eqf p_ks p_neg p_x p_y⟩, r0 :: chk) :: ld) F H K = @StepK (AOp.ev F H (.eqf p_ks p_neg p_x p_y)) ⟨fun v H' => (∀ r ∈ r0 :: chk, r.stable (Fr.put F d v) H') ∧ AWDraw P ld (Fr.put F d v) H' K⟩ := propext Iff.rfl
theorem Y_bnb {p_neg : Bool} {p_x : AX} {p_y : AX} : AWOps P (⟨none, d, .bnb p_neg p_x p_y⟩ :: l) F H K = @StepK (AOp.ev F H (.bnb p_neg p_x p_y)) ⟨fun v H' => AWOps P l (Fr.put F d v) H' K⟩ := propext Iff.rfl
theorem Yd_bnb {p_neg : Bool} {p_x : AX} {p_y : AX} : AWDraw P ((⟨none, d, .bnb p_neg p_x p_y⟩, []) :: ld) F H K = @StepK (AOp.ev F H (.bnb p_neg p_x p_y)) ⟨fun v H' => AWDraw P ld (Fr.put F d v) H' K⟩ := by
  simp only [AWDraw, AI.want, AI.step, StepK, List.not_mem_nil, false_implies, implies_true, true_and]
  rfl
theorem Ye_bnb {p_neg : Bool} {p_x : AX} {p_y : AX} {r0 : AI} {chk : List AI} : AWDraw P ((⟨none, d, .bnb p_neg p_x p_y⟩, r0 :: chk) :: ld) F H K = @StepK (AOp.ev F H (.bnb p_neg p_x p_y)) ⟨fun v H' => (∀ r ∈ r0 :: chk, r.stable (Fr.put F d v) H') ∧ AWDraw P ld (Fr.put F d v) H' K⟩ := propext Iff.rfl
theorem Y_eqn {p_kd : Nat} {p_neg : Bool} {p_x : AX} {p_y : AX} : AWOps P (⟨none, d, .eqn p_kd p_neg p_x p_y⟩ :: l) F H K = @StepK (AOp.ev F H (.eqn p_kd p_neg p_x p_y)) ⟨fun v H' => AWOps P l (Fr.put F d v) H' K⟩ := propext Iff.rfl
theorem Yd_eqn {p_kd : Nat} {p_neg : Bool} {p_x : AX} {p_y : AX} : AWDraw P ((⟨none, d, .eqn p_kd p_neg p_x p_y⟩, []) :: ld) F H K = @StepK (AOp.ev F H (.eqn p_kd p_neg p_x p_y)) ⟨fun v H' => AWDraw P ld (Fr.put F d v) H' K⟩ := by
  simp only [AWDraw, AI.want, AI.step, StepK, List.not_mem_nil, false_implies, implies_true, true_and]
  rfl
theorem Ye_eqn {p_kd : Nat} {p_neg : Bool} {p_x : AX} {p_y : AX} {r0 : AI} {chk : List AI} : AWDraw P ((⟨none, d, .eqn p_kd p_neg p_x p_y⟩, r0 :: chk) :: ld) F H K = @StepK (AOp.ev F H (.eqn p_kd p_neg p_x p_y)) ⟨fun v H' => (∀ r ∈ r0 :: chk, r.stable (Fr.put F d v) H') ∧ AWDraw P ld (Fr.put F d v) H' K⟩ := propext Iff.rfl
theorem Y_un {p_op : UnOp} {p_x : AX} : AWOps P (⟨none, d, .un p_op p_x⟩ :: l) F H K = @StepK (AOp.ev F H (.un p_op p_x)) ⟨fun v H' => AWOps P l (Fr.put F d v) H' K⟩ := propext Iff.rfl
theorem Yd_un {p_op : UnOp} {p_x : AX} : AWDraw P ((⟨none, d, .un p_op p_x⟩, []) :: ld) F H K = @StepK (AOp.ev F H (.un p_op p_x)) ⟨fun v H' => AWDraw P ld (Fr.put F d v) H' K⟩ := by
  simp only [AWDraw, AI.want, AI.step, StepK, List.not_mem_nil, false_implies, implies_true, true_and]
  rfl
theorem Ye_un {p_op : UnOp} {p_x : AX} {r0 : AI} {chk : List AI} : AWDraw P ((⟨none, d, .un p_op p_x⟩, r0 :: chk) :: ld) F H K = @StepK (AOp.ev F H (.un p_op p_x)) ⟨fun v H' => (∀ r ∈ r0 :: chk, r.stable (Fr.put F d v) H') ∧ AWDraw P ld (Fr.put F d v) H' K⟩ := propext Iff.rfl
theorem Y_cnv {p_k : IntKind} {p_x : AX} : AWOps P (⟨none, d, .cnv p_k p_x⟩ :: l) F H K = @StepK (AOp.ev F H (.cnv p_k p_x)) ⟨fun v H' => AWOps P l (Fr.put F d v) H' K⟩ := propext Iff.rfl
theorem Yd_cnv {p_k : IntKind} {p_x : AX} : AWDraw P ((⟨none, d, .cnv p_k p_x⟩, []) :: ld) F H K = @StepK (AOp.ev F H (.cnv p_k p_x)) ⟨fun v H' => AWDraw P ld (Fr.put F d v) H' K⟩ := by
  simp only [AWDraw, AI.want, AI.step, StepK, List.not_mem_nil, false_implies, implies_true, true_and]
  rfl
theorem Ye_cnv {p_k : IntKind} {p_x : AX} {r0 : AI} {chk : List AI} : AWDraw P ((⟨none, d, .cnv p_k p_x⟩, r0 :: chk) :: ld) F H K = @StepK (AOp.ev F H (.cnv p_k p_x)) ⟨fun v H' => (∀ r ∈ r0 :: chk, r.stable (Fr.put F d v) H') ∧ AWDraw P ld (Fr.put F d v) H' K⟩ := propext Iff.rfl
theorem Y_cvs {p_x : AX} : AWOps P (⟨none, d, .cvs p_x⟩ :: l) F H K = @StepK (AOp.ev F H (.cvs p_x)) ⟨fun v H' => AWOps P l (Fr.put F d v) H' K⟩ := propext Iff.rfl
theorem Yd_cvs {p_x : AX} : AWDraw P ((⟨none, d, .cvs p_x⟩, []) :: ld) F H K = @StepK (AOp.ev F H (.cvs p_x)) ⟨fun v H' => AWDraw P ld (Fr.put F d v) H' K⟩ := by
  simp only [AWDraw, AI.want, AI.step, StepK, List.not_mem_nil, false_implies, implies_true, true_and]
  rfl
theorem Ye_cvs {p_x : AX} {r0 : AI} {chk : List AI} : AWDraw P ((⟨none, d, .cvs p_x⟩, r0 :: chk) :: ld) F H K = @StepK (AOp.ev F H (.cvs p_x)) ⟨fun v H' => (∀ r ∈ r0 :: chk, r.stable (Fr.put F d v) H') ∧ AWDraw P ld (Fr.put F d v) H' K⟩ := propext Iff.rfl
theorem Y_sob {p_x : AX} : AWOps P (⟨none, d, .sob p_x⟩ :: l) F H K = @StepK (AOp.ev F H (.sob p_x)) ⟨fun v H' => AWOps P l (Fr.put F d v) H' K⟩ := propext Iff.rfl
theorem Yd_sob {p_x : AX} : AWDraw P ((⟨none, d, .sob p_x⟩, []) :: ld) F H K = @StepK (AOp.ev F H (.sob p_x)) ⟨fun v H' => AWDraw P ld (Fr.put F d v) H' K⟩ := by
  simp only [AWDraw, AI.want, AI.step, StepK, List.not_mem_nil, false_implies, implies_true, true_and]
  rfl
theorem Ye_sob {p_x : AX} {r0 : AI} {chk : List AI} : AWDraw P ((⟨none, d, .sob p_x⟩, r0 :: chk) :: ld) F H K = @StepK (AOp.ev F H (.sob p_x)) ⟨fun v H' => (∀ r ∈ r0 :: chk, r.stable (Fr.put F d v) H') ∧ AWDraw P ld (Fr.put F d v) H' K⟩ := propext Iff.rfl
theorem Y_clr {p_m : AX} : AWOps P (⟨none, d, .clr p_m⟩ :: l) F H K = @StepK (AOp.ev F H (.clr p_m)) ⟨fun v H' => AWOps P l (Fr.put F d v) H' K⟩ := propext Iff.rfl
theorem Yd_clr {p_m : AX} : AWDraw P ((⟨none, d, .clr p_m⟩, []) :: ld) F H K = @StepK (AOp.ev F H (.clr p_m)) ⟨fun v H' => AWDraw P ld (Fr.put F d v) H' K⟩ := by
  simp only [AWDraw, AI.want, AI.step, StepK, List.not_mem_nil, false_implies, implies_true, true_and]
  rfl
theorem Ye_clr {p_m : AX} {r0 : AI} {chk : List AI} : AWDraw P ((⟨none, d, .clr p_m⟩, r0 :: chk) :: ld) F H K = @StepK (AOp.ev F H (.clr p_m)) ⟨fun v H' => (∀ r ∈ r0 :: chk, r.stable (Fr.put F d v) H') ∧ AWDraw P ld (Fr.put F d v) H' K⟩ := propext Iff.rfl
theorem Y_mkf {p_f : FuncId} {p_first : List AX} {p_caps : List AX} : AWOps P (⟨none, d, .mkf p_f p_first p_caps⟩ :: l) F H K = @StepK (AOp.ev F H (.mkf p_f p_first p_caps)) ⟨fun v H' => AWOps P l (Fr.put F d v) H' K⟩ := propext Iff.rfl
theorem Yd_mkf {p_f : FuncId} {p_first : List AX} {p_caps : List AX} : AWDraw P ((⟨none, d, .mkf p_f p_first p_caps⟩, []) :: ld) F H K = @StepK (AOp.ev F H (.mkf p_f p_first p_caps)) ⟨fun v H' => AWDraw P ld (Fr.put F d v) H' K⟩ := by
  simp only [AWDraw, AI.want, AI.step, StepK, List.not_mem_nil, false_implies, implies_true, true_and]
  rfl
theorem Ye_mkf {p_f : FuncId} {p_first : List AX} {p_caps : List AX} {r0 : AI} {chk : List AI} : AWDraw P ((⟨none, d, .mkf p_f p_first p_caps⟩, r0 :: chk) :: ld) F H K = @StepK (AOp.ev F H (.mkf p_f p_first p_caps)) ⟨fun v H' => (∀ r ∈ r0 :: chk, r.stable (Fr.put F d v) H') ∧ AWDraw P ld (Fr.put F d v) H' K⟩ := propext Iff.rfl
theorem Y_mks {p_E : Nat} {p_sz : Nat} {p_bytes : Nat} {p_zero : List AV} {p_l : AX} {p_c : AX} : AWOps P (⟨none, d, .mks p_E p_sz p_bytes p_zero p_l p_c⟩ :: l) F H K = @StepK (AOp.ev F H (.mks p_E p_sz p_bytes p_zero p_l p_c)) ⟨fun v H' => AWOps P l (Fr.put F d v) H' K⟩ := propext Iff.rfl
theorem Yd_mks {p_E : Nat} {p_sz : Nat} {p_bytes : Nat} {p_zero : List AV} {p_l : AX} {p_c : AX} : AWDraw P ((⟨none, d, .mks p_E p_sz p_bytes p_zero p_l p_c⟩, []) :: ld) F H K = @StepK (AOp.ev F H (.mks p_E p_sz p_bytes p_zero p_l p_c)) ⟨fun v H' => AWDraw P ld (Fr.put F d v) H' K⟩ := by
  simp only [AWDraw, AI.want, AI.step, StepK, List.not_mem_nil, false_implies, implies_true, true_and]
  rfl
theorem Ye_mks {p_E : Nat} {p_sz : Nat} {p_bytes : Nat} {p_zero : List AV} {p_l : AX} {p_c : AX} {r0 : AI} {chk : List AI} : AWDraw P ((⟨none, d, .mks p_E p_sz p_bytes p_zero p_l p_c⟩, r0 :: chk) :: ld) F H K = @StepK (AOp.ev F H (.mks p_E p_sz p_bytes p_zero p_l p_c)) ⟨fun v H' => (∀ r ∈ r0 :: chk, r.stable (Fr.put F d v) H') ∧ AWDraw P ld (Fr.put F d v) H' K⟩ := propext Iff.rfl
theorem Y_slc {p_sz : Nat} {p_x : AX} {p_lo : Option AX} {p_hi : Option AX} {p_mx : Option AX} : AWOps P (⟨none, d, .slc p_sz p_x p_lo p_hi p_mx⟩ :: l) F H K = @StepK (AOp.ev F H (.slc p_sz p_x p_lo p_hi p_mx)) ⟨fun v H' => AWOps P l (Fr.put F d v) H' K⟩ := propext Iff.rfl
theorem Yd_slc {p_sz : Nat} {p_x : AX} {p_lo : Option AX} {p_hi : Option AX} {p_mx : Option AX} : AWDraw P ((⟨none, d, .slc p_sz p_x p_lo p_hi p_mx⟩, []) :: ld) F H K = @StepK (AOp.ev F H (.slc p_sz p_x p_lo p_hi p_mx)) ⟨fun v H' => AWDraw P ld (Fr.put F d v) H' K⟩ := by
  simp only [AWDraw, AI.want, AI.step, StepK, List.not_mem_nil, false_implies, implies_true, true_and]
  rfl
theorem Ye_slc {p_sz : Nat} {p_x : AX} {p_lo : Option AX} {p_hi : Option AX} {p_mx : Option AX} {r0 : AI} {chk : List AI} : AWDraw P ((⟨none, d, .slc p_sz p_x p_lo p_hi p_mx⟩, r0 :: chk) :: ld) F H K = @StepK (AOp.ev F H (.slc p_sz p_x p_lo p_hi p_mx)) ⟨fun v H' => (∀ r ∈ r0 :: chk, r.stable (Fr.put F d v) H') ∧ AWDraw P ld (Fr.put F d v) H' K⟩ := propext Iff.rfl
theorem Y_slS {p_x : AX} {p_lo : Option AX} {p_hi : Option AX} : AWOps P (⟨none, d, .slS p_x p_lo p_hi⟩ :: l) F H K = @StepK (AOp.ev F H (.slS p_x p_lo p_hi)) ⟨fun v H' => AWOps P l (Fr.put F d v) H' K⟩ := propext Iff.rfl
theorem Yd_slS {p_x : AX} {p_lo : Option AX} {p_hi : Option AX} : AWDraw P ((⟨none, d, .slS p_x p_lo p_hi⟩, []) :: ld) F H K = @StepK (AOp.ev F H (.slS p_x p_lo p_hi)) ⟨fun v H' => AWDraw P ld (Fr.put F d v) H' K⟩ := by
  simp only [AWDraw, AI.want, AI.step, StepK, List.not_mem_nil, false_implies, implies_true, true_and]
  rfl
theorem Ye_slS {p_x : AX} {p_lo : Option AX} {p_hi : Option AX} {r0 : AI} {chk : List AI} : AWDraw P ((⟨none, d, .slS p_x p_lo p_hi⟩, r0 :: chk) :: ld) F H K = @StepK (AOp.ev F H (.slS p_x p_lo p_hi)) ⟨fun v H' => (∀ r ∈ r0 :: chk, r.stable (Fr.put F d v) H') ∧ AWDraw P ld (Fr.put F d v) H' K⟩ := propext Iff.rfl
theorem Y_fla {p_off : Nat} {p_x : AX} : AWOps P (⟨none, d, .fla p_off p_x⟩ :: l) F H K = @StepK (AOp.ev F H (.fla p_off p_x)) ⟨fun v H' => AWOps P l (Fr.put F d v) H' K⟩ := propext Iff.rfl
theorem Yd_fla {p_off : Nat} {p_x : AX} : AWDraw P ((⟨none, d, .fla p_off p_x⟩, []) :: ld) F H K = @StepK (AOp.ev F H (.fla p_off p_x)) ⟨fun v H' => AWDraw P ld (Fr.put F d v) H' K⟩ := by
  simp only [AWDraw, AI.want, AI.step, StepK, List.not_mem_nil, false_implies, implies_true, true_and]
  rfl
theorem Ye_fla {p_off : Nat} {p_x : AX} {r0 : AI} {chk : List AI} : AWDraw P ((⟨none, d, .fla p_off p_x⟩, r0 :: chk) :: ld) F H K = @StepK (AOp.ev F H (.fla p_off p_x)) ⟨fun v H' => (∀ r ∈ r0 :: chk, r.stable (Fr.put F d v) H') ∧ AWDraw P ld (Fr.put F d v) H' K⟩ := propext Iff.rfl
theorem Y_fld {p_off : Nat} {p_sz : Nat} {p_agg : Bool} {p_x : AX} : AWOps P (⟨none, d, .fld p_off p_sz p_agg p_x⟩ :: l) F H K = @StepK (AOp.ev F H (.fld p_off p_sz p_agg p_x)) ⟨fun v H' => AWOps P l (Fr.put F d v) H' K⟩ := propext Iff.rfl
theorem Yd_fld {p_off : Nat} {p_sz : Nat} {p_agg : Bool} {p_x : AX} : AWDraw P ((⟨none, d, .fld p_off p_sz p_agg p_x⟩, []) :: ld) F H K = @StepK (AOp.ev F H (.fld p_off p_sz p_agg p_x)) ⟨fun v H' => AWDraw P ld (Fr.put F d v) H' K⟩ := by
  simp only [AWDraw, AI.want, AI.step, StepK, List.not_mem_nil, false_implies, implies_true, true_and]
  rfl
theorem Ye_fld {p_off : Nat} {p_sz : Nat} {p_agg : Bool} {p_x : AX} {r0 : AI} {chk : List AI} : AWDraw P ((⟨none, d, .fld p_off p_sz p_agg p_x⟩, r0 :: chk) :: ld) F H K = @StepK (AOp.ev F H (.fld p_off p_sz p_agg p_x)) ⟨fun v H' => (∀ r ∈ r0 :: chk, r.stable (Fr.put F d v) H') ∧ AWDraw P ld (Fr.put F d v) H' K⟩ := propext Iff.rfl
theorem Y_ixa {p_sz : Nat} {p_x : AX} {p_i : AX} : AWOps P (⟨none, d, .ixa p_sz p_x p_i⟩ :: l) F H K = @StepK (AOp.ev F H (.ixa p_sz p_x p_i)) ⟨fun v H' => AWOps P l (Fr.put F d v) H' K⟩ := propext Iff.rfl
theorem Yd_ixa {p_sz : Nat} {p_x : AX} {p_i : AX} : AWDraw P ((⟨none, d, .ixa p_sz p_x p_i⟩, []) :: ld) F H K = @StepK (AOp.ev F H (.ixa p_sz p_x p_i)) ⟨fun v H' => AWDraw P ld (Fr.put F d v) H' K⟩ := by
  simp only [AWDraw, AI.want, AI.step, StepK, List.not_mem_nil, false_implies, implies_true, true_and]
  rfl
theorem Ye_ixa {p_sz : Nat} {p_x : AX} {p_i : AX} {r0 : AI} {chk : List AI} : AWDraw P ((⟨none, d, .ixa p_sz p_x p_i⟩, r0 :: chk) :: ld) F H K = @StepK (AOp.ev F H (.ixa p_sz p_x p_i)) ⟨fun v H' => (∀ r ∈ r0 :: chk, r.stable (Fr.put F d v) H') ∧ AWDraw P ld (Fr.put F d v) H' K⟩ := propext Iff.rfl
theorem Y_ixA {p_n : Nat} {p_sz : Nat} {p_x : AX} {p_i : AX} : AWOps P (⟨none, d, .ixA p_n p_sz p_x p_i⟩ :: l) F H K = @StepK (AOp.ev F H (.ixA p_n p_sz p_x p_i)) ⟨fun v H' => AWOps P l (Fr.put F d v) H' K⟩ := propext Iff.rfl
theorem Yd_ixA {p_n : Nat} {p_sz : Nat} {p_x : AX} {p_i : AX} : AWDraw P ((⟨none, d, .ixA p_n p_sz p_x p_i⟩, []) :: ld) F H K = @StepK (AOp.ev F H (.ixA p_n p_sz p_x p_i)) ⟨fun v H' => AWDraw P ld (Fr.put F d v) H' K⟩ := by
  simp only [AWDraw, AI.want, AI.step, StepK, List.not_mem_nil, false_implies, implies_true, true_and]
  rfl
theorem Ye_ixA {p_n : Nat} {p_sz : Nat} {p_x : AX} {p_i : AX} {r0 : AI} {chk : List AI} : AWDraw P ((⟨none, d, .ixA p_n p_sz p_x p_i⟩, r0 :: chk) :: ld) F H K = @StepK (AOp.ev F H (.ixA p_n p_sz p_x p_i)) ⟨fun v H' => (∀ r ∈ r0 :: chk, r.stable (Fr.put F d v) H') ∧ AWDraw P ld (Fr.put F d v) H' K⟩ := propext Iff.rfl
theorem Y_ixv {p_n : Nat} {p_sz : Nat} {p_agg : Bool} {p_x : AX} {p_i : AX} : AWOps P (⟨none, d, .ixv p_n p_sz p_agg p_x p_i⟩ :: l) F H K = @StepK (AOp.ev F H (.ixv p_n p_sz p_agg p_x p_i)) ⟨fun v H' => AWOps P l (Fr.put F d v) H' K⟩ := propext Iff.rfl
theorem Yd_ixv {p_n : Nat} {p_sz : Nat} {p_agg : Bool} {p_x : AX} {p_i : AX} : AWDraw P ((⟨none, d, .ixv p_n p_sz p_agg p_x p_i⟩, []) :: ld) F H K = @StepK (AOp.ev F H (.ixv p_n p_sz p_agg p_x p_i)) ⟨fun v H' => AWDraw P ld (Fr.put F d v) H' K⟩ := by
  simp only [AWDraw, AI.want, AI.step, StepK, List.not_mem_nil, false_implies, implies_true, true_and]
  rfl
theorem Ye_ixv {p_n : Nat} {p_sz : Nat} {p_agg : Bool} {p_x : AX} {p_i : AX} {r0 : AI} {chk : List AI} : AWDraw P ((⟨none, d, .ixv p_n p_sz p_agg p_x p_i⟩, r0 :: chk) :: ld) F H K = @StepK (AOp.ev F H (.ixv p_n p_sz p_agg p_x p_i)) ⟨fun v H' => (∀ r ∈ r0 :: chk, r.stable (Fr.put F d v) H') ∧ AWDraw P ld (Fr.put F d v) H' K⟩ := propext Iff.rfl
theorem Y_ixs {p_x : AX} {p_i : AX} : AWOps P (⟨none, d, .ixs p_x p_i⟩ :: l) F H K = @StepK (AOp.ev F H (.ixs p_x p_i)) ⟨fun v H' => AWOps P l (Fr.put F d v) H' K⟩ := propext Iff.rfl
theorem Yd_ixs {p_x : AX} {p_i : AX} : AWDraw P ((⟨none, d, .ixs p_x p_i⟩, []) :: ld) F H K = @StepK (AOp.ev F H (.ixs p_x p_i)) ⟨fun v H' => AWDraw P ld (Fr.put F d v) H' K⟩ := by
  simp only [AWDraw, AI.want, AI.step, StepK, List.not_mem_nil, false_implies, implies_true, true_and]
  rfl
theorem Ye_ixs {p_x : AX} {p_i : AX} {r0 : AI} {chk : List AI} : AWDraw P ((⟨none, d, .ixs p_x p_i⟩, r0 :: chk) :: ld) F H K = @StepK (AOp.ev F H (.ixs p_x p_i)) ⟨fun v H' => (∀ r ∈ r0 :: chk, r.stable (Fr.put F d v) H') ∧ AWDraw P ld (Fr.put F d v) H' K⟩ := propext Iff.rfl
theorem Y_ext {p_x : AX} {p_i : Nat} : AWOps P (⟨none, d, .ext p_x p_i⟩ :: l) F H K = @StepK (AOp.ev F H (.ext p_x p_i)) ⟨fun v H' => AWOps P l (Fr.put F d v) H' K⟩ := propext Iff.rfl
theorem Yd_ext {p_x : AX} {p_i : Nat} : AWDraw P ((⟨none, d, .ext p_x p_i⟩, []) :: ld) F H K = @StepK (AOp.ev F H (.ext p_x p_i)) ⟨fun v H' => AWDraw P ld (Fr.put F d v) H' K⟩ := by
  simp only [AWDraw, AI.want, AI.step, StepK, List.not_mem_nil, false_implies, implies_true, true_and]
  rfl
theorem Ye_ext {p_x : AX} {p_i : Nat} {r0 : AI} {chk : List AI} : AWDraw P ((⟨none, d, .ext p_x p_i⟩, r0 :: chk) :: ld) F H K = @StepK (AOp.ev F H (.ext p_x p_i)) ⟨fun v H' => (∀ r ∈ r0 :: chk, r.stable (Fr.put F d v) H') ∧ AWDraw P ld (Fr.put F d v) H' K⟩ := propext Iff.rfl
theorem Y_len {p_str : Bool} {p_x : AX} : AWOps P (⟨none, d, .len p_str p_x⟩ :: l) F H K = @StepK (AOp.ev F H (.len p_str p_x)) ⟨fun v H' => AWOps P l (Fr.put F d v) H' K⟩ := propext Iff.rfl
theorem Yd_len {p_str : Bool} {p_x : AX} : AWDraw P ((⟨none, d, .len p_str p_x⟩, []) :: ld) F H K = @StepK (AOp.ev F H (.len p_str p_x)) ⟨fun v H' => AWDraw P ld (Fr.put F d v) H' K⟩ := by
  simp only [AWDraw, AI.want, AI.step, StepK, List.not_mem_nil, false_implies, implies_true, true_and]
  rfl
theorem Ye_len {p_str : Bool} {p_x : AX} {r0 : AI} {chk : List AI} : AWDraw P ((⟨none, d, .len p_str p_x⟩, r0 :: chk) :: ld) F H K = @StepK (AOp.ev F H (.len p_str p_x)) ⟨fun v H' => (∀ r ∈ r0 :: chk, r.stable (Fr.put F d v) H') ∧ AWDraw P ld (Fr.put F d v) H' K⟩ := propext Iff.rfl
theorem Y_lnA {p_n : Nat} : AWOps P (⟨none, d, .lnA p_n⟩ :: l) F H K = @StepK (AOp.ev F H (.lnA p_n)) ⟨fun v H' => AWOps P l (Fr.put F d v) H' K⟩ := propext Iff.rfl
theorem Yd_lnA {p_n : Nat} : AWDraw P ((⟨none, d, .lnA p_n⟩, []) :: ld) F H K = @StepK (AOp.ev F H (.lnA p_n)) ⟨fun v H' => AWDraw P ld (Fr.put F d v) H' K⟩ := by
  simp only [AWDraw, AI.want, AI.step, StepK, List.not_mem_nil, false_implies, implies_true, true_and]
  rfl
theorem Ye_lnA {p_n : Nat} {r0 : AI} {chk : List AI} : AWDraw P ((⟨none, d, .lnA p_n⟩, r0 :: chk) :: ld) F H K = @StepK (AOp.ev F H (.lnA p_n)) ⟨fun v H' => (∀ r ∈ r0 :: chk, r.stable (Fr.put F d v) H') ∧ AWDraw P ld (Fr.put F d v) H' K⟩ := propext Iff.rfl
theorem Y_app {p_E : Nat} {p_sz : Nat} {p_bytes : Nat} {p_s : AX} {p_x : AX} : AWOps P (⟨none, d, .app p_E p_sz p_bytes p_s p_x⟩ :: l) F H K = @StepK (AOp.ev F H (.app p_E p_sz p_bytes p_s p_x)) ⟨fun v H' => AWOps P l (Fr.put F d v) H' K⟩ := propext Iff.rfl
theorem Yd_app {p_E : Nat} {p_sz : Nat} {p_bytes : Nat} {p_s : AX} {p_x : AX} : AWDraw P ((⟨none, d, .app p_E p_sz p_bytes p_s p_x⟩, []) :: ld) F H K = @StepK (AOp.ev F H (.app p_E p_sz p_bytes p_s p_x)) ⟨fun v H' => AWDraw P ld (Fr.put F d v) H' K⟩ := by
  simp only [AWDraw, AI.want, AI.step, StepK, List.not_mem_nil, false_implies, implies_true, true_and]
  rfl
theorem Ye_app {p_E : Nat} {p_sz : Nat} {p_bytes : Nat} {p_s : AX} {p_x : AX} {r0 : AI} {chk : List AI} : AWDraw P ((⟨none, d, .app p_E p_sz p_bytes p_s p_x⟩, r0 :: chk) :: ld) F H K = @StepK (AOp.ev F H (.app p_E p_sz p_bytes p_s p_x)) ⟨fun v H' => (∀ r ∈ r0 :: chk, r.stable (Fr.put F d v) H') ∧ AWDraw P ld (Fr.put F d v) H' K⟩ := propext Iff.rfl
theorem Y_mm {p_max : Bool} {p_x : AX} {p_y : AX} : AWOps P (⟨none, d, .mm p_max p_x p_y⟩ :: l) F H K = @StepK (AOp.ev F H (.mm p_max p_x p_y)) ⟨fun v H' => AWOps P l (Fr.put F d v) H' K⟩ := propext Iff.rfl
theorem Yd_mm {p_max : Bool} {p_x : AX} {p_y : AX} : AWDraw P ((⟨none, d, .mm p_max p_x p_y⟩, []) :: ld) F H K = @StepK (AOp.ev F H (.mm p_max p_x p_y)) ⟨fun v H' => AWDraw P ld (Fr.put F d v) H' K⟩ := by
  simp only [AWDraw, AI.want, AI.step, StepK, List.not_mem_nil, false_implies, implies_true, true_and]
  rfl
theorem Ye_mm {p_max : Bool} {p_x : AX} {p_y : AX} {r0 : AI} {chk : List AI} : AWDraw P ((⟨none, d, .mm p_max p_x p_y⟩, r0 :: chk) :: ld) F H K = @StepK (AOp.ev F H (.mm p_max p_x p_y)) ⟨fun v H' => (∀ r ∈ r0 :: chk, r.stable (Fr.put F d v) H') ∧ AWDraw P ld (Fr.put F d v) H' K⟩ := propext Iff.rfl
theorem Y_mkm {p_kk : KK} : AWOps P (⟨none, d, .mkm p_kk⟩ :: l) F H K = @StepK (AOp.ev F H (.mkm p_kk)) ⟨fun v H' => AWOps P l (Fr.put F d v) H' K⟩ := propext Iff.rfl
theorem Yd_mkm {p_kk : KK} : AWDraw P ((⟨none, d, .mkm p_kk⟩, []) :: ld) F H K = @StepK (AOp.ev F H (.mkm p_kk)) ⟨fun v H' => AWDraw P ld (Fr.put F d v) H' K⟩ := by
  simp only [AWDraw, AI.want, AI.step, StepK, List.not_mem_nil, false_implies, implies_true, true_and]
  rfl
theorem Ye_mkm {p_kk : KK} {r0 : AI} {chk : List AI} : AWDraw P ((⟨none, d, .mkm p_kk⟩, r0 :: chk) :: ld) F H K = @StepK (AOp.ev F H (.mkm p_kk)) ⟨fun v H' => (∀ r ∈ r0 :: chk, r.stable (Fr.put F d v) H') ∧ AWDraw P ld (Fr.put F d v) H' K⟩ := propext Iff.rfl
theorem Y_lkp {p_kk : KK} {p_zero : AV} {p_ok : Bool} {p_m : AX} {p_k : AX} : AWOps P (⟨none, d, .lkp p_kk p_zero p_ok p_m p_k⟩ :: l) F H K = @StepK (AOp.ev F H (.lkp p_kk p_zero p_ok p_m p_k)) ⟨fun v H' => AWOps P l (Fr.put F d v) H' K⟩ := propext Iff.rfl
theorem Yd_lkp {p_kk : KK} {p_zero : AV} {p_ok : Bool} {p_m : AX} {p_k : AX} : AWDraw P ((⟨none, d, .lkp p_kk p_zero p_ok p_m p_k⟩, []) :: ld) F H K = @StepK (AOp.ev F H (.lkp p_kk p_zero p_ok p_m p_k)) ⟨fun v H' => AWDraw P ld (Fr.put F d v) H' K⟩ := by
  simp only [AWDraw, AI.want, AI.step, StepK, List.not_mem_nil, false_implies, implies_true, true_and]
  rfl
theorem Ye_lkp {p_kk : KK} {p_zero : AV} {p_ok : Bool} {p_m : AX} {p_k : AX} {r0 : AI} {chk : List AI} : AWDraw P ((⟨none, d, .lkp p_kk p_zero p_ok p_m p_k⟩, r0 :: chk) :: ld) F H K = @StepK (AOp.ev F H (.lkp p_kk p_zero p_ok p_m p_k)) ⟨fun v H' => (∀ r ∈ r0 :: chk, r.stable (Fr.put F d v) H') ∧ AWDraw P ld (Fr.put F d v) H' K⟩ := propext Iff.rfl
theorem Y_mup {p_kk : KK} {p_m : AX} {p_k : AX} {p_x : AX} : AWOps P (⟨none, d, .mup p_kk p_m p_k p_x⟩ :: l) F H K = @StepK (AOp.ev F H (.mup p_kk p_m p_k p_x)) ⟨fun v H' => AWOps P l (Fr.put F d v) H' K⟩ := propext Iff.rfl
theorem Yd_mup {p_kk : KK} {p_m : AX} {p_k : AX} {p_x : AX} : AWDraw P ((⟨none, d, .mup p_kk p_m p_k p_x⟩, []) :: ld) F H K = @StepK (AOp.ev F H (.mup p_kk p_m p_k p_x)) ⟨fun v H' => AWDraw P ld (Fr.put F d v) H' K⟩ := by
  simp only [AWDraw, AI.want, AI.step, StepK, List.not_mem_nil, false_implies, implies_true, true_and]
  rfl
theorem Ye_mup {p_kk : KK} {p_m : AX} {p_k : AX} {p_x : AX} {r0 : AI} {chk : List AI} : AWDraw P ((⟨none, d, .mup p_kk p_m p_k p_x⟩, r0 :: chk) :: ld) F H K = @StepK (AOp.ev F H (.mup p_kk p_m p_k p_x)) ⟨fun v H' => (∀ r ∈ r0 :: chk, r.stable (Fr.put F d v) H') ∧ AWDraw P ld (Fr.put F d v) H' K⟩ := propext Iff.rfl
theorem Y_men {p_kk : KK} {p_zero : AV} {p_m : AX} {p_k : AX} : AWOps P (⟨none, d, .men p_kk p_zero p_m p_k⟩ :: l) F H K = @StepK (AOp.ev F H (.men p_kk p_zero p_m p_k)) ⟨fun v H' => AWOps P l (Fr.put F d v) H' K⟩ := propext Iff.rfl
theorem Yd_men {p_kk : KK} {p_zero : AV} {p_m : AX} {p_k : AX} : AWDraw P ((⟨none, d, .men p_kk p_zero p_m p_k⟩, []) :: ld) F H K = @StepK (AOp.ev F H (.men p_kk p_zero p_m p_k)) ⟨fun v H' => AWDraw P ld (Fr.put F d v) H' K⟩ := by
  simp only [AWDraw, AI.want, AI.step, StepK, List.not_mem_nil, false_implies, implies_true, true_and]
  rfl
theorem Ye_men {p_kk : KK} {p_zero : AV} {p_m : AX} {p_k : AX} {r0 : AI} {chk : List AI} : AWDraw P ((⟨none, d, .men p_kk p_zero p_m p_k⟩, r0 :: chk) :: ld) F H K = @StepK (AOp.ev F H (.men p_kk p_zero p_m p_k)) ⟨fun v H' => (∀ r ∈ r0 :: chk, r.stable (Fr.put F d v) H') ∧ AWDraw P ld (Fr.put F d v) H' K⟩ := propext Iff.rfl
theorem Y_est {p_m : AX} {p_s : AX} {p_x : AX} : AWOps P (⟨none, d, .est p_m p_s p_x⟩ :: l) F H K = @StepK (AOp.ev F H (.est p_m p_s p_x)) ⟨fun v H' => AWOps P l (Fr.put F d v) H' K⟩ := propext Iff.rfl
theorem Yd_est {p_m : AX} {p_s : AX} {p_x : AX} : AWDraw P ((⟨none, d, .est p_m p_s p_x⟩, []) :: ld) F H K = @StepK (AOp.ev F H (.est p_m p_s p_x)) ⟨fun v H' => AWDraw P ld (Fr.put F d v) H' K⟩ := by
  simp only [AWDraw, AI.want, AI.step, StepK, List.not_mem_nil, false_implies, implies_true, true_and]
  rfl
theorem Ye_est {p_m : AX} {p_s : AX} {p_x : AX} {r0 : AI} {chk : List AI} : AWDraw P ((⟨none, d, .est p_m p_s p_x⟩, r0 :: chk) :: ld) F H K = @StepK (AOp.ev F H (.est p_m p_s p_x)) ⟨fun v H' => (∀ r ∈ r0 :: chk, r.stable (Fr.put F d v) H') ∧ AWDraw P ld (Fr.put F d v) H' K⟩ := propext Iff.rfl
theorem Y_mln {p_m : AX} : AWOps P (⟨none, d, .mln p_m⟩ :: l) F H K = @StepK (AOp.ev F H (.mln p_m)) ⟨fun v H' => AWOps P l (Fr.put F d v) H' K⟩ := propext Iff.rfl
theorem Yd_mln {p_m : AX} : AWDraw P ((⟨none, d, .mln p_m⟩, []) :: ld) F H K = @StepK (AOp.ev F H (.mln p_m)) ⟨fun v H' => AWDraw P ld (Fr.put F d v) H' K⟩ := by
  simp only [AWDraw, AI.want, AI.step, StepK, List.not_mem_nil, false_implies, implies_true, true_and]
  rfl
theorem Ye_mln {p_m : AX} {r0 : AI} {chk : List AI} : AWDraw P ((⟨none, d, .mln p_m⟩, r0 :: chk) :: ld) F H K = @StepK (AOp.ev F H (.mln p_m)) ⟨fun v H' => (∀ r ∈ r0 :: chk, r.stable (Fr.put F d v) H') ∧ AWDraw P ld (Fr.put F d v) H' K⟩ := propext Iff.rfl
theorem Y_del {p_kk : KK} {p_m : AX} {p_k : AX} : AWOps P (⟨none, d, .del p_kk p_m p_k⟩ :: l) F H K = @StepK (AOp.ev F H (.del p_kk p_m p_k)) ⟨fun v H' => AWOps P l (Fr.put F d v) H' K⟩ := propext Iff.rfl
theorem Yd_del {p_kk : KK} {p_m : AX} {p_k : AX} : AWDraw P ((⟨none, d, .del p_kk p_m p_k⟩, []) :: ld) F H K = @StepK (AOp.ev F H (.del p_kk p_m p_k)) ⟨fun v H' => AWDraw P ld (Fr.put F d v) H' K⟩ := by
  simp only [AWDraw, AI.want, AI.step, StepK, List.not_mem_nil, false_implies, implies_true, true_and]
  rfl
theorem Ye_del {p_kk : KK} {p_m : AX} {p_k : AX} {r0 : AI} {chk : List AI} : AWDraw P ((⟨none, d, .del p_kk p_m p_k⟩, r0 :: chk) :: ld) F H K = @StepK (AOp.ev F H (.del p_kk p_m p_k)) ⟨fun v H' => (∀ r ∈ r0 :: chk, r.stable (Fr.put F d v) H') ∧ AWDraw P ld (Fr.put F d v) H' K⟩ := propext Iff.rfl
theorem Y_eqs {p_neg : Bool} {p_x : AX} : AWOps P (⟨none, d, .eqs p_neg p_x⟩ :: l) F H K = @StepK (AOp.ev F H (.eqs p_neg p_x)) ⟨fun v H' => AWOps P l (Fr.put F d v) H' K⟩ := propext Iff.rfl
theorem Yd_eqs {p_neg : Bool} {p_x : AX} : AWDraw P ((⟨none, d, .eqs p_neg p_x⟩, []) :: ld) F H K = @StepK (AOp.ev F H (.eqs p_neg p_x)) ⟨fun v H' => AWDraw P ld (Fr.put F d v) H' K⟩ := by
  simp only [AWDraw, AI.want, AI.step, StepK, List.not_mem_nil, false_implies, implies_true, true_and]
  rfl
theorem Ye_eqs {p_neg : Bool} {p_x : AX} {r0 : AI} {chk : List AI} : AWDraw P ((⟨none, d, .eqs p_neg p_x⟩, r0 :: chk) :: ld) F H K = @StepK (AOp.ev F H (.eqs p_neg p_x)) ⟨fun v H' => (∀ r ∈ r0 :: chk, r.stable (Fr.put F d v) H') ∧ AWDraw P ld (Fr.put F d v) H' K⟩ := propext Iff.rfl
theorem Y_cap {p_x : AX} : AWOps P (⟨none, d, .cap p_x⟩ :: l) F H K = @StepK (AOp.ev F H (.cap p_x)) ⟨fun v H' => AWOps P l (Fr.put F d v) H' K⟩ := propext Iff.rfl
theorem Yd_cap {p_x : AX} : AWDraw P ((⟨none, d, .cap p_x⟩, []) :: ld) F H K = @StepK (AOp.ev F H (.cap p_x)) ⟨fun v H' => AWDraw P ld (Fr.put F d v) H' K⟩ := by
  simp only [AWDraw, AI.want, AI.step, StepK, List.not_mem_nil, false_implies, implies_true, true_and]
  rfl
theorem Ye_cap {p_x : AX} {r0 : AI} {chk : List AI} : AWDraw P ((⟨none, d, .cap p_x⟩, r0 :: chk) :: ld) F H K = @StepK (AOp.ev F H (.cap p_x)) ⟨fun v H' => (∀ r ∈ r0 :: chk, r.stable (Fr.put F d v) H') ∧ AWDraw P ld (Fr.put F d v) H' K⟩ := propext Iff.rfl
end
end Go.Proofs.Ytgnpihhakogeeaa
