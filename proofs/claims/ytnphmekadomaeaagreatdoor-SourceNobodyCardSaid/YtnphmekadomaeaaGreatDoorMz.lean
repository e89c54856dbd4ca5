/- Texts of the walk, joined: Z1 Z2 Z3 Z4 Z5. -/
import Derived.Test.YtnphmekadomaeaaGreatDoorMd
import Derived.Test.YtnphmekadomaeaaGreatDoorProg
namespace Go.Proofs.YtnphmekadomaeaaGreatDoor
set_option linter.unusedSimpArgs false
set_option linter.unusedVariables false
open Go.RowKit
def eqT : EqT := ⟨fun _ => none, fun _ => false⟩
theorem stable_n {d : Nat} {op : AOp} {F : Fr} {H : AHeap} : AI.stable ⟨none, some d, op⟩ F H = (op.ev F H = some (Fr.get F d, H)) := by
 simp [AI.stable, AI.want]
theorem stable_g {s d : Nat} {t : Bool} {op : AOp} {F : Fr} {H : AHeap} : AI.stable ⟨some (s, t), some d, op⟩ F H = @GdK (Fr.get F s) t ⟨op.ev F H = some (Fr.get F d, H)⟩ ⟨fun _ _ => True⟩ := by
 simp only [AI.stable, AI.want, GdK]
 cases Fr.get F s with
 | sc v =>
  cases v with
  | bool c => cases c <;> cases t <;> simp
  | _ => rfl
 | _ => rfl
theorem stables_nil {F : Fr} {H : AHeap} : (∀ r ∈ ([] : List AI), r.stable F H) = True := by simp
theorem stables_cons {F : Fr} {H : AHeap} {a : AI} {l : List AI} : (∀ r ∈ a :: l, r.stable F H) = (a.stable F H ∧ ∀ r ∈ l, r.stable F H) := by simp
theorem YE : (∀ {α β : Type} {f : α → β} {l : List α} {i : Nat}, (l.map f)[i]? = (l[i]?).map f) ∧ (∀ {α : Type} {l : List α} {i : Nat} (h : i < l.length), l[i]? = some l[i]) ∧
  (∀ {n : Nat}, (0 ≤ (n : Int)) = True) ∧ (∀ {H : AHeap} {i : Nat} {o o' : AObj}, i = H.next → (H.alloc o).set i o' = H.alloc o') ∧
  (∀ {d op F H}, AI.stable ⟨none, some d, op⟩ F H = (op.ev F H = some (Fr.get F d, H))) ∧ (∀ {s d t op F H}, AI.stable ⟨some (s, t), some d, op⟩ F H = @GdK (Fr.get F s) t ⟨op.ev F H = some (Fr.get F d, H)⟩ ⟨fun _ _ => True⟩) ∧
  (∀ {F : Fr} {H : AHeap}, (∀ r ∈ ([] : List AI), r.stable F H) = True) ∧ (∀ {F : Fr} {H : AHeap} {a : AI} {l : List AI}, (∀ r ∈ a :: l, r.stable F H) = (a.stable F H ∧ ∀ r ∈ l, r.stable F H)) :=
 ⟨List.getElem?_map, List.getElem?_eq_getElem, by simp, set_alloc_at, stable_n, stable_g, stables_nil, stables_cons⟩
theorem hE : ∀ t ks, eqT t = some ks → EqOk Tryz.prog t ks := fun t ks h => by cases h
def za0 : AV := .agg [.sc (.int .i64 0), .sl .full [], .sc (.int .i64 0), .sc (.int .i64 0), .sc (.int .i64 0), .sc (.int .i64 0), .sc (.int .i64 0), .sc (.int .i64 0), .sc (.int .i64 0), .sc (.int .i64 0), .sc (.int .i64 0), .sc (.int .i64 0), .sc (.int .i64 0), .sc (.int .i64 0)]
def zl1 : List AV := [.sc (.int .i64 0), .sl .full [], .sc (.int .i64 0), .sc (.int .i64 0), .sc (.int .i64 0), .sc (.int .i64 0), .sc (.int .i64 0), .sc (.int .i64 0), .sc (.int .i64 0), .sc (.int .i64 0), .sc (.int .i64 0), .sc (.int .i64 0), .sc (.int .i64 0), .sc (.int .i64 0)]
def za2 : AV := .agg [.sc (.int .i64 0), .sc (.int .i64 0), .sc (.int .i64 0), .sc (.int .i64 0), .sc (.int .i64 0), .sc (.int .i64 0)]
def zl3 : List AV := [.sc (.int .i64 0), .sc (.int .i64 0), .sc (.int .i64 0), .sc (.int .i64 0), .sc (.int .i64 0), .sc (.int .i64 0)]
def za4 : AV := .agg [.sc (.int .i64 0), .sc (.int .i64 0), .sc (.int .i64 0), .sc (.int .i64 0), .sc (.int .i64 0), .sc (.int .i64 0), .sc (.int .i64 0), .sc (.int .i64 0), .sc (.int .i64 0), .sc (.int .i64 0), .sc (.int .i64 0), .sc (.int .i64 0)]
def zl5 : List AV := [.sl .full [], .sc (.int .i64 0), .sl .full [], .sc (.int .i64 0)]
theorem YZ : True ∧ za0 = .agg [.sc (.int .i64 0), .sl .full [], .sc (.int .i64 0), .sc (.int .i64 0), .sc (.int .i64 0), .sc (.int .i64 0), .sc (.int .i64 0), .sc (.int .i64 0), .sc (.int .i64 0), .sc (.int .i64 0), .sc (.int .i64 0), .sc (.int .i64 0), .sc (.int .i64 0), .sc (.int .i64 0)] ∧ zl1 = [.sc (.int .i64 0), .sl .full [], .sc (.int .i64 0), .sc (.int .i64 0), .sc (.int .i64 0), .sc (.int .i64 0), .sc (.int .i64 0), .sc (.int .i64 0), .sc (.int .i64 0), .sc (.int .i64 0), .sc (.int .i64 0), .sc (.int .i64 0), .sc (.int .i64 0), .sc (.int .i64 0)] ∧ za2 = .agg [.sc (.int .i64 0), .sc (.int .i64 0), .sc (.int .i64 0), .sc (.int .i64 0), .sc (.int .i64 0), .sc (.int .i64 0)] ∧ zl3 = [.sc (.int .i64 0), .sc (.int .i64 0), .sc (.int .i64 0), .sc (.int .i64 0), .sc (.int .i64 0), .sc (.int .i64 0)] ∧ za4 = .agg [.sc (.int .i64 0), .sc (.int .i64 0), .sc (.int .i64 0), .sc (.int .i64 0), .sc (.int .i64 0), .sc (.int .i64 0), .sc (.int .i64 0), .sc (.int .i64 0), .sc (.int .i64 0), .sc (.int .i64 0), .sc (.int .i64 0), .sc (.int .i64 0)] ∧ zl5 = [.sl .full [], .sc (.int .i64 0), .sl .full [], .sc (.int .i64 0)] := ⟨trivial, rfl, rfl, rfl, rfl, rfl, rfl⟩
def c3_0 : ACode := .seq (.reg [io 3 (.box 24 (.t 0)), io 6 (.mv (ib false))]) (.seq (.reg [io 7 (.mv (.c (.sc (.pointer none))))]) (.seq (.seq (.reg [im 16 2]) (.cond (.t 16) (.reg [io 17 (.bld [.sc .nilFunc, .sc (.int .i64 0), .sc (.int .i64 0)] []), io 18 (.box 28 (.t 17)), im 7 18]) .skip)) (.seq (.reg [im 20 7, im 21 1, io 22 (.call (jf 5) [.t 20, .t 21]), im 19 22, io 23 (.ext (.t 19) 0), io 24 (.ext (.t 19) 1), io 8 (.box 38 (.c za0)), iz (.st 14 (.t 8) (.t 23)), im 9 24]) (.seq (.drw [ip (io 26 (.ld 2 true (.t 3))), (io 25 (.call (jf 6) [.c (.sc (.pointer none))]), [io 26 (.ld 2 true (.t 3))]), ip (io 27 (.call (jf 7) [.c (.sc (.pointer none)), .t 26])), ip (im 10 25), ip (im 11 27)]) (.seq (.reg [im 29 10, im 30 1, io 31 (.mm true (.t 30) (ik 0)), io 32 (.call (jf 5) [.t 29, .t 31]), im 28 32, io 33 (.ext (.t 28) 0), io 34 (.ext (.t 28) 1), io 12 (.box 38 (.c za0)), iz (.st 14 (.t 12) (.t 33)), im 13 34]) (.seq (.reg [im 36 11, im 37 1, io 38 (.mm true (.t 37) (ik 0)), io 39 (.call (jf 5) [.t 36, .t 38]), im 35 39, io 40 (.ext (.t 35) 0), io 41 (.ext (.t 35) 1), io 14 (.box 38 (.c za0)), iz (.st 14 (.t 14) (.t 40)), im 15 41]) (.seq (.reg [im 42 9, io 43 (.bin .eql (.t 42) (ik 1)), im 44 43, ig 44 45 (.mv (.t 7)), ig 44 46 (.call (jf 8) [.t 45]), ig 44 47 (.bin .eql (.t 46) (ik (-1))), io 48 (.pick (.t 44) (.t 47) (ib false)), im 49 48, ig 49 50 (.mv (.t 7)), ig 49 51 (.call (jf 9) [.t 50]), ig 49 52 (.bin .eql (.t 51) (ik 0)), io 53 (.pick (.t 49) (.t 52) (ib false)), im 54 53, ig 54 55 (.mv (.t 10)), ig 54 56 (.call (jf 8) [.t 55]), ig 54 57 (.bin .eql (.t 56) (ik (-1))), io 58 (.pick (.t 54) (.t 57) (ib false)), im 59 58, ig 59 60 (.mv (.t 11)), ig 59 61 (.call (jf 8) [.t 60]), ig 59 62 (.bin .eql (.t 61) (ik (-1))), io 63 (.pick (.t 59) (.t 62) (ib false)), im 64 63, ig 64 65 (.mv (.t 13)), ig 64 66 (.bin .eql (.t 65) (ik 1)), io 67 (.pick (.t 64) (.t 66) (ib false)), im 68 67, ig 68 69 (.mv (.t 15)), ig 68 70 (.bin .eql (.t 69) (ik 1)), io 71 (.pick (.t 68) (.t 70) (ib false)), im 72 71, ig 72 73 (.call (jf 10) []), io 74 (.pick (.t 72) (.t 73) (ib false)), im 6 74]) .ret)))))))
theorem cf3 : cFn Tryz.prog eqT 3 = some (c3_0, [(.tmp 6)], 75) := by kernel_rfl
def c5_0 : ACode := .seq (.reg [io 4 (.box 38 (.c za0)), jm 5 0]) (.seq (.seq (.reg [im 6 0, io 7 (.eqn 0 false (.t 6) (.c (.sc (.pointer none)))), im 8 7, ih 8 9 (.mv (.t 0)), ih 8 10 (.nck (.t 9)), ih 8 11 (.fla 0 (.t 10)), ih 8 12 (.ld 1 false (.t 11)), ih 8 13 (.eqn 2 false (.t 12) (.c (.sc .nilFunc))), io 14 (.pick (.t 8) (ib true) (.t 13))]) (.cond (.t 14) (.seq (.reg [io 15 (.bld zl1 []), iz (.st 14 (.t 4) (.t 15)), jm 5 1]) .ret) .skip)) (.seq (.reg [im 16 0, io 17 (.nck (.t 16)), io 18 (.fla 2 (.t 17)), io 19 (.ld 1 false (.t 18)), io 20 (.bin .add (.t 19) (ik 1)), io 21 (.nck (.t 16)), io 22 (.fla 2 (.t 21)), iz (.st 1 (.t 22) (.t 20))]) (.seq (.seq (.reg [im 23 1, io 24 (.bin .lss (.t 23) (ik 0))]) (.cond (.t 24) (.seq (.reg [io 25 (.bld zl1 []), iz (.st 14 (.t 4) (.t 25)), jm 5 9]) .ret) .skip)) (.seq (.reg [im 26 0, io 27 (.nck (.t 26)), io 28 (.fla 0 (.t 27)), io 29 (.ld 1 false (.t 28)), im 30 1, io 31 (.call (.t 29) [.t 30]), io 32 (.ext (.t 31) 0), io 33 (.ext (.t 31) 1), iz (.st 14 (.t 4) (.t 32)), im 5 33]) .ret))))
theorem cf5 : cFn Tryz.prog eqT 5 = some (c5_0, [(.cell 14 true 4), (.tmp 5)], 34) := by kernel_rfl
def c6_0 : ACode := .seq (.reg [io 2 (.mv (.c (.sc (.pointer none))))]) (.seq (.reg [im 3 0, io 4 (.mkf 23 [.t 3] []), im 5 0, io 6 (.call (jf 24) [.t 5]), io 7 (.bld [.sc .nilFunc, .sc (.int .i64 0), .sc (.int .i64 0)] [(0, (1, .t 4)), (1, (1, .t 6))]), io 8 (.box 28 (.t 7)), im 2 8]) .ret)
theorem cf6 : cFn Tryz.prog eqT 6 = some (c6_0, [(.tmp 2)], 9) := by kernel_rfl
def c7_0 : ACode := .seq (.reg [io 3 (.box 24 (.t 1)), io 4 (.mv (.c (.sc (.pointer none))))]) (.seq (.reg [im 7 0, io 8 (.ld 2 true (.t 3)), io 9 (.bld [.sc (.pointer none), .sl .full [], .sc (.int .i64 0)] [(0, (1, .t 7)), (1, (2, .t 8))]), io 5 (.box 73 (.c (.agg [.sc (.pointer none), .sl .full [], .sc (.int .i64 0)]))), iz (.st 3 (.t 5) (.t 9))]) (.seq (.reg [jm 6 (-1)]) (.seq (.seq (.reg [im 10 0, io 11 (.call (jf 19) [.t 10]), io 12 (.fld 4 1 false (.t 11)), io 13 (.bin .gtr (.t 12) (ik 0))]) (.cond (.t 13) (.reg [im 14 0, io 15 (.call (jf 19) [.t 14]), io 16 (.fld 5 1 false (.t 15)), im 6 16]) .skip)) (.seq (.reg [io 17 (.ld 3 true (.t 5)), io 18 (.mkf 25 [.t 17] []), im 19 6, io 20 (.bld [.sc .nilFunc, .sc (.int .i64 0), .sc (.int .i64 0)] [(0, (1, .t 18)), (1, (1, .t 19))]), io 21 (.box 28 (.t 20)), im 4 21]) .ret))))
theorem cf7 : cFn Tryz.prog eqT 7 = some (c7_0, [(.tmp 4)], 22) := by kernel_rfl
def c8_0 : ACode := .seq (.reg [jm 2 0]) (.seq (.seq (.reg [im 3 0, io 4 (.eqn 0 false (.t 3) (.c (.sc (.pointer none)))), im 5 4, ih 5 6 (.mv (.t 0)), ih 5 7 (.nck (.t 6)), ih 5 8 (.fla 0 (.t 7)), ih 5 9 (.ld 1 false (.t 8)), ih 5 10 (.eqn 2 false (.t 9) (.c (.sc .nilFunc))), io 11 (.pick (.t 5) (ib true) (.t 10))]) (.cond (.t 11) (.seq (.reg [jm 2 (-1)]) .ret) .skip)) (.seq (.reg [im 12 0, io 13 (.nck (.t 12)), io 14 (.fla 1 (.t 13)), io 15 (.ld 1 false (.t 14)), im 2 15]) .ret))
theorem cf8 : cFn Tryz.prog eqT 8 = some (c8_0, [(.tmp 2)], 16) := by kernel_rfl
def c9_0 : ACode := .seq (.reg [jm 2 0]) (.seq (.seq (.reg [im 3 0, io 4 (.eqn 0 false (.t 3) (.c (.sc (.pointer none))))]) (.cond (.t 4) (.seq (.reg [jm 2 0]) .ret) .skip)) (.seq (.reg [im 5 0, io 6 (.nck (.t 5)), io 7 (.fla 2 (.t 6)), io 8 (.ld 1 false (.t 7)), im 2 8]) .ret))
theorem cf9 : cFn Tryz.prog eqT 9 = some (c9_0, [(.tmp 2)], 9) := by kernel_rfl
def c10_0 : ACode := .seq (.reg [io 0 (.mv (ib false))]) (.seq (.reg [io 5 (.bsl 1 [ik 1]), io 6 (.bsl 1 [.t 5]), io 7 (.bld [.sl .full [], .sc (.int .i64 0)] [(0, (1, .t 6)), (1, (1, ik 1))]), io 8 (.call (jf 26) [.t 7, ik 1]), im 4 8, io 9 (.ext (.t 4) 0), io 10 (.ext (.t 4) 1), im 1 9, im 2 10]) (.seq (.reg [im 11 1, io 12 (.call (jf 6) [.t 11]), im 3 12]) (.seq (.reg [im 13 2, io 14 (.bin .eql (.t 13) (ik 0)), im 15 14, ig 15 16 (.mv (.t 3)), ig 15 17 (.call (jf 8) [.t 16]), ig 15 18 (.bin .eql (.t 17) (ik (-1))), io 19 (.pick (.t 15) (.t 18) (ib false)), im 20 19, ig 20 21 (.mv (.t 3)), ig 20 22 (.call (jf 9) [.t 21]), ig 20 23 (.bin .eql (.t 22) (ik 0)), io 24 (.pick (.t 20) (.t 23) (ib false)), im 0 24]) .ret)))
theorem cf10 : cFn Tryz.prog eqT 10 = some (c10_0, [(.tmp 0)], 25) := by kernel_rfl
def c14_0 : ACode := .seq (.reg [io 6 (.mv (.c (.sc (.string ⟨#[]⟩)))), jm 7 0]) (.seq (.seq (.reg [im 9 0, io 10 (.call (jf 37) [.t 9]), im 8 10]) (.seq (.reg [im 11 8, io 12 (.bin .neq (.t 11) (ik 0))]) (.cond (.t 12) (.seq (.reg [im 13 8, io 6 (.mv (.c (.sc (.string ⟨#[]⟩)))), im 7 13]) .ret) .skip))) (.seq (.drw [ip (im 14 0), ip (im 15 0), ip (io 16 (.nck (.t 15))), ip (io 17 (.fla 1 (.t 16))), ip (io 18 (.fla 3 (.t 17))), ip (io 19 (.ld 1 false (.t 18))), ip (im 21 0), ip (io 22 (.nck (.t 21))), ip (io 23 (.fla 1 (.t 22))), ip (io 24 (.fla 4 (.t 23))), ip (io 25 (.ld 1 false (.t 24))), ip (im 26 1), ip (im 27 2), (io 20 (.call (jf 41) [.t 19]), [io 25 (.ld 1 false (.t 24))]), ip (io 28 (.call (jf 40) [.t 14, .t 20, .t 25, .t 26, .t 27])), ip (io 29 (.ext (.t 28) 0)), ip (io 30 (.ext (.t 28) 1)), ip (im 6 29), ip (im 7 30)]) .ret))
theorem cf14 : cFn Tryz.prog eqT 14 = some (c14_0, [(.tmp 6), (.tmp 7)], 31) := by kernel_rfl
def c19_0 : ACode := .seq (.reg [io 2 (.box 52 (.c za2))]) (.seq (.seq (.reg [im 3 0, io 4 (.call (jf 51) [.t 3]), io 5 (.un .not (.t 4))]) (.cond (.t 5) (.seq (.reg [io 6 (.bld zl3 []), iz (.st 6 (.t 2) (.t 6))]) .ret) .skip)) (.seq (.reg [im 7 0, io 8 (.nck (.t 7)), io 9 (.fla 1 (.t 8)), io 10 (.ld 6 true (.t 9)), iz (.st 6 (.t 2) (.t 10))]) .ret))
theorem cf19 : cFn Tryz.prog eqT 19 = some (c19_0, [(.cell 6 true 2)], 11) := by kernel_rfl
def c23_0 : ACode := .seq (.reg [io 4 (.box 38 (.c za0)), jm 5 0]) (.seq (.blk 0 (.seq (.reg [im 7 0, io 8 (.call (jf 53) [.t 7]), io 9 (.un .not (.t 8)), im 6 9]) (.cond (.t 6) (.seq (.reg [io 10 (.bld zl1 []), iz (.st 14 (.t 4) (.t 10)), jm 5 1]) .ret) (.seq (.reg [im 12 1, io 13 (.bin .lss (.t 12) (ik 0)), im 14 13, ih 14 15 (.mv (.t 1)), ih 14 16 (.mv (.t 0)), ih 14 17 (.nck (.t 16)), ih 14 18 (.fla 2 (.t 17)), ih 14 19 (.ld 1 false (.t 18)), ih 14 20 (.len false (.t 19)), ih 14 21 (.bin .geq (.t 15) (.t 20)), io 22 (.pick (.t 14) (ib true) (.t 21)), im 11 22]) (.cond (.t 11) (.seq (.reg [io 23 (.bld zl1 []), iz (.st 14 (.t 4) (.t 23)), jm 5 9]) .ret) .skip))))) (.seq (.reg [im 24 0, io 25 (.nck (.t 24)), io 26 (.fla 2 (.t 25)), io 27 (.ld 1 false (.t 26)), im 28 1, io 29 (.ixa 14 (.t 27) (.t 28)), io 30 (.ld 14 true (.t 29)), io 31 (.call (jf 54) [.t 30]), iz (.st 14 (.t 4) (.t 31)), jm 5 0]) .ret))
theorem cf23 : cFn Tryz.prog eqT 23 = some (c23_0, [(.cell 14 true 4), (.tmp 5)], 32) := by kernel_rfl
def c24_0 : ACode := .seq (.reg [jm 2 0]) (.seq (.reg [im 3 0, io 4 (.call (jf 55) [.t 3]), io 5 (.bin .sub (.t 4) (ik 1)), im 2 5]) .ret)
theorem cf24 : cFn Tryz.prog eqT 24 = some (c24_0, [(.tmp 2)], 6) := by kernel_rfl
def c25_1 : ACode := .blk 0 (.loop (.seq (.reg [io 68 (.bin .lss (.t 67) (.t 66))]) (.seq (.cond (.t 68) .skip (.exit 0)) (.seq (.blk 1 (.seq (.reg [io 69 (.ixa 12 (.t 65) (.t 67)), io 70 (.ld 12 true (.t 69)), io 13 (.box 36 (.c za4)), iz (.st 12 (.t 13) (.t 70))]) (.seq (.reg [io 71 (.fla 1 (.t 13)), io 72 (.ld 1 false (.t 71)), im 73 1, io 74 (.bin .geq (.t 72) (.t 73)), im 75 74, ig 75 76 (.fla 1 (.t 2)), ig 75 77 (.ld 2 true (.t 76)), ig 75 78 (.fla 0 (.t 10)), ig 75 79 (.ld 1 false (.t 78)), ig 75 80 (.call (jf 60) [.t 77, .t 79]), ig 75 81 (.un .not (.t 80)), io 82 (.pick (.t 75) (.t 81) (ib false))]) (.cond (.t 82) (.seq (.reg [io 83 (.bld zl1 []), iz (.st 14 (.t 4) (.t 83)), jm 5 15]) .ret) .skip)))) (.reg [io 84 (.bin .add (.t 67) (ik 1)), im 67 84])))))
def c25_0 : ACode := .seq (.reg [io 2 (.box 73 (.t 0)), io 4 (.box 38 (.c za0)), jm 5 0]) (.seq (.drw [ip (io 15 (.ld 3 true (.t 2))), ip (im 16 1), ip (io 17 (.fla 0 (.t 2))), ip (io 18 (.ld 1 false (.t 17))), ip (im 21 1), (io 19 (.call (jf 19) [.t 18]), [io 15 (.ld 3 true (.t 2))]), ip (io 20 (.fld 4 1 false (.t 19))), ip (io 22 (.bin .sub (.t 20) (.t 21))), ip (io 23 (.mm true (.t 22) (ik 1))), ip (io 24 (.mm false (ik 9) (.t 23))), ip (io 25 (.call (jf 56) [.t 15, .t 16, .t 24])), ip (im 14 25), ip (io 26 (.ext (.t 14) 0)), ip (io 27 (.ext (.t 14) 1)), ip (im 6 26), ip (im 7 27)]) (.seq (.seq (.reg [im 28 7, io 29 (.bin .neq (.t 28) (ik 0))]) (.cond (.t 29) (.seq (.reg [io 30 (.bld zl1 []), im 31 7, iz (.st 14 (.t 4) (.t 30)), im 5 31]) .ret) .skip)) (.seq (.reg [im 33 6, io 34 (.call (jf 57) [.t 33]), im 32 34, io 35 (.ext (.t 32) 0), io 36 (.ext (.t 32) 1), im 8 35, im 7 36]) (.seq (.seq (.reg [im 37 7, io 38 (.bin .neq (.t 37) (ik 0))]) (.cond (.t 38) (.seq (.reg [io 39 (.bld zl1 []), im 40 7, iz (.st 14 (.t 4) (.t 39)), im 5 40]) .ret) .skip)) (.seq (.reg [io 42 (.ld 3 true (.t 2)), im 43 1, im 44 8, io 45 (.call (jf 56) [.t 42, .t 43, .t 44]), im 41 45, io 46 (.ext (.t 41) 0), io 47 (.ext (.t 41) 1), im 9 46, im 7 47]) (.seq (.seq (.reg [im 48 7, io 49 (.bin .neq (.t 48) (ik 0))]) (.cond (.t 49) (.seq (.reg [io 50 (.bld zl1 []), im 51 7, iz (.st 14 (.t 4) (.t 50)), im 5 51]) .ret) .skip)) (.seq (.reg [io 53 (.fla 1 (.t 2)), io 54 (.ld 2 true (.t 53)), im 55 9, io 56 (.call (jf 58) [.t 54, .t 55]), im 52 56, io 57 (.ext (.t 52) 0), io 58 (.ext (.t 52) 1), io 59 (.ext (.t 52) 2), io 10 (.box 38 (.c za0)), iz (.st 14 (.t 10) (.t 57)), im 11 58, im 7 59]) (.seq (.seq (.reg [im 60 7, io 61 (.bin .neq (.t 60) (ik 0))]) (.cond (.t 61) (.seq (.reg [io 62 (.bld zl1 []), im 63 7, iz (.st 14 (.t 4) (.t 62)), im 5 63]) .ret) .skip)) (.seq (.seq (.reg [io 64 (.ld 14 true (.t 10)), io 65 (.call (jf 59) [.t 64]), io 66 (.len false (.t 65)), jm 67 0]) c25_1) (.seq (.reg [io 85 (.ld 14 true (.t 10)), iz (.st 14 (.t 4) (.t 85)), jm 5 0]) .ret))))))))))
theorem cf25 : cFn Tryz.prog eqT 25 = some (c25_0, [(.cell 14 true 4), (.tmp 5)], 86) := by kernel_rfl
def c26_1 : ACode := .blk 0 (.loop (.seq (.reg [io 27 (.bin .lss (.t 26) (.t 25))]) (.seq (.cond (.t 27) .skip (.exit 0)) (.seq (.blk 1 (.seq (.reg [io 28 (.ixa 1 (.t 24) (.t 26)), io 29 (.ld 1 false (.t 28)), im 8 29]) (.drw [ip (io 30 (.fla 0 (.t 6))), ip (io 31 (.ld 1 false (.t 30))), ip (im 32 8), (io 33 (.call (jf 62) [.t 32]), [io 31 (.ld 1 false (.t 30))]), ip (io 34 (.bsl 1 [.t 33])), ip (io 35 (.app 46 1 24 (.t 31) (.t 34))), ip (io 36 (.fla 0 (.t 6))), ip (iz (.st 1 (.t 36) (.t 35)))]))) (.reg [io 37 (.bin .add (.t 26) (ik 1)), im 26 37])))))
def c26_0 : ACode := .seq (.reg [io 2 (.box 24 (.t 0)), io 4 (.mv (.c (.sc (.pointer none)))), jm 5 0]) (.seq (.seq (.reg [io 9 (.ld 2 true (.t 2)), io 10 (.call (jf 61) [.t 9]), io 11 (.un .not (.t 10)), im 12 11, ih 12 13 (.mv (.t 1)), ih 12 14 (.bin .lss (.t 13) (ik 0)), io 15 (.pick (.t 12) (ib true) (.t 14)), im 16 15, ih 16 17 (.mv (.t 1)), ih 16 18 (.bin .gtr (.t 17) (ik 131072)), io 19 (.pick (.t 16) (ib true) (.t 18))]) (.cond (.t 19) (.seq (.reg [io 4 (.mv (.c (.sc (.pointer none)))), jm 5 2]) .ret) .skip)) (.seq (.reg [io 20 (.fla 1 (.t 2)), io 21 (.ld 1 false (.t 20)), io 22 (.bld [.sl .full [], .sc (.int .i64 0)] [(1, (1, .t 21))]), io 6 (.box 24 (.c (.agg [.sl .full [], .sc (.int .i64 0)]))), iz (.st 2 (.t 6) (.t 22))]) (.seq (.seq (.reg [io 23 (.fla 0 (.t 2)), io 24 (.ld 1 false (.t 23)), io 25 (.len false (.t 24)), jm 26 0]) c26_1) (.seq (.reg [io 38 (.ld 2 true (.t 6)), im 39 1, io 40 (.bld zl5 [(0, (2, .t 38)), (3, (1, .t 39))]), io 41 (.box 102 (.t 40)), im 4 41, jm 5 0]) .ret))))
theorem cf26 : cFn Tryz.prog eqT 26 = some (c26_0, [(.tmp 4), (.tmp 5)], 42) := by kernel_rfl
def c37_0 : ACode := .seq (.reg [jm 2 0]) (.seq (.blk 0 (.seq (.reg [im 4 0, io 5 (.call (jf 51) [.t 4]), io 6 (.un .not (.t 5)), im 3 6]) (.cond (.t 3) (.seq (.reg [jm 2 1]) .ret) (.seq (.reg [im 8 0, io 9 (.nck (.t 8)), io 10 (.fla 12 (.t 9)), io 11 (.ld 1 false (.t 10)), im 12 11, ih 12 13 (.mv (.t 0)), ih 12 14 (.nck (.t 13)), ih 12 15 (.fla 0 (.t 14)), ih 12 16 (.ld 1 false (.t 15)), ih 12 17 (.call (jf 73) [.t 16]), io 18 (.pick (.t 12) (ib true) (.t 17)), im 7 18]) (.cond (.t 7) (.seq (.reg [jm 2 8]) .ret) (.seq (.reg [im 20 0, io 21 (.call (jf 18) [.t 20]), io 22 (.un .not (.t 21)), im 19 22]) (.cond (.t 19) (.seq (.reg [jm 2 10]) .ret) .skip))))))) (.seq (.reg [jm 2 0]) .ret))
theorem cf37 : cFn Tryz.prog eqT 37 = some (c37_0, [(.tmp 2)], 23) := by kernel_rfl
def c51_0 : ACode := .seq (.reg [io 2 (.mv (ib false))]) (.seq (.reg [im 3 0, io 4 (.eqn 0 true (.t 3) (.c (.sc (.pointer none)))), im 5 4, ig 5 6 (.mv (.t 0)), ig 5 7 (.nck (.t 6)), ig 5 8 (.fla 0 (.t 7)), ig 5 9 (.ld 1 false (.t 8)), ig 5 10 (.eqn 0 true (.t 9) (.c (.sc (.pointer none)))), io 11 (.pick (.t 5) (.t 10) (ib false)), im 12 11, ig 12 13 (.mv (.t 0)), ig 12 14 (.nck (.t 13)), ig 12 15 (.fla 9 (.t 14)), ig 12 16 (.ld 1 false (.t 15)), ig 12 17 (.eqn 0 true (.t 16) (.c (.sc (.pointer none)))), io 18 (.pick (.t 12) (.t 17) (ib false)), im 19 18, ig 19 20 (.mv (.t 0)), ig 19 21 (.nck (.t 20)), ig 19 22 (.fla 10 (.t 21)), ig 19 23 (.ld 1 false (.t 22)), ig 19 24 (.eqn 0 true (.t 23) (.c (.sc (.pointer none)))), io 25 (.pick (.t 19) (.t 24) (ib false)), im 2 25]) .ret)
theorem cf51 : cFn Tryz.prog eqT 51 = some (c51_0, [(.tmp 2)], 26) := by kernel_rfl
def c53_0 : ACode := .seq (.reg [io 2 (.mv (ib false))]) (.seq (.reg [im 3 0, io 4 (.eqn 0 true (.t 3) (.c (.sc (.pointer none)))), im 5 4, ig 5 6 (.mv (.t 0)), ig 5 7 (.nck (.t 6)), ig 5 8 (.fla 0 (.t 7)), ig 5 9 (.fla 0 (.t 8)), ig 5 10 (.ld 1 false (.t 9)), ig 5 11 (.len false (.t 10)), ig 5 12 (.bin .gtr (.t 11) (ik 0)), io 13 (.pick (.t 5) (.t 12) (ib false)), im 2 13]) .ret)
theorem cf53 : cFn Tryz.prog eqT 53 = some (c53_0, [(.tmp 2)], 14) := by kernel_rfl
def c55_0 : ACode := .seq (.reg [jm 2 0]) (.seq (.seq (.reg [im 3 0, io 4 (.call (jf 53) [.t 3]), io 5 (.un .not (.t 4))]) (.cond (.t 5) (.seq (.reg [jm 2 0]) .ret) .skip)) (.seq (.reg [im 6 0, io 7 (.nck (.t 6)), io 8 (.fla 2 (.t 7)), io 9 (.ld 1 false (.t 8)), io 10 (.len false (.t 9)), im 2 10]) .ret))
theorem cf55 : cFn Tryz.prog eqT 55 = some (c55_0, [(.tmp 2)], 11) := by kernel_rfl
def c56_0 : ACode := .seq (.reg [io 3 (.box 73 (.t 0)), io 6 (.mv (.c (.sc (.string ⟨#[]⟩)))), jm 7 0]) (.seq (.reg [io 11 (.fla 0 (.t 3)), io 12 (.ld 1 false (.t 11)), im 13 1, im 14 2, io 15 (.call (jf 14) [.t 12, .t 13, .t 14]), im 10 15, io 16 (.ext (.t 10) 0), io 17 (.ext (.t 10) 1), im 8 16, im 9 17]) (.seq (.seq (.reg [im 18 9, io 19 (.bin .eql (.t 18) (ik 9))]) (.cond (.t 19) (.seq (.reg [io 6 (.mv (.c (.sc (.string ⟨#[]⟩)))), jm 7 15]) .ret) .skip)) (.seq (.reg [im 20 8, im 21 9, im 6 20, im 7 21]) .ret)))
theorem cf56 : cFn Tryz.prog eqT 56 = some (c56_0, [(.tmp 6), (.tmp 7)], 22) := by kernel_rfl
def c61_2 : ACode := .blk 2 (.loop (.seq (.reg [io 45 (.bin .lss (.t 44) (.t 43))]) (.seq (.cond (.t 45) .skip (.exit 2)) (.seq (.blk 3 (.seq (.reg [im 46 44, io 47 (.ixa 1 (.t 42) (.t 44)), io 48 (.ld 1 false (.t 47)), im 5 46, im 6 48]) (.seq (.reg [im 49 6, io 50 (.bin .lss (.t 49) (ik 1)), im 51 50, ih 51 52 (.mv (.t 6)), ih 51 53 (.bin .gtr (.t 52) (ik 200)), io 54 (.pick (.t 51) (ib true) (.t 53)), im 55 54, ih 55 56 (.mv (.t 5)), ih 55 57 (.bin .gtr (.t 56) (ik 0)), ih 55 58 (.mv (.t 57)), ig 58 59 (.mv (.t 6)), ig 58 60 (.mv (.t 4)), ig 58 61 (.mv (.t 5)), ig 58 62 (.bin .sub (.t 61) (ik 1)), ig 58 63 (.ixa 1 (.t 60) (.t 62)), ig 58 64 (.ld 1 false (.t 63)), ig 58 65 (.bin .gtr (.t 59) (.t 64)), ih 55 66 (.pick (.t 58) (.t 65) (ib false)), io 67 (.pick (.t 55) (ib true) (.t 66))]) (.cond (.t 67) (.seq (.reg [io 2 (.mv (ib false))]) .ret) .skip)))) (.reg [io 68 (.bin .add (.t 44) (ik 1)), im 44 68])))))
def c61_1 : ACode := .blk 0 (.loop (.seq (.reg [io 31 (.bin .lss (.t 30) (.t 29))]) (.seq (.cond (.t 31) .skip (.exit 0)) (.seq (.blk 1 (.seq (.reg [io 32 (.ixa 1 (.t 28) (.t 30)), io 33 (.ld 1 false (.t 32)), im 4 33]) (.seq (.seq (.reg [im 34 4, io 35 (.len false (.t 34)), io 36 (.bin .lss (.t 35) (ik 1)), im 37 36, ih 37 38 (.mv (.t 4)), ih 37 39 (.len false (.t 38)), ih 37 40 (.bin .gtr (.t 39) (ik 4)), io 41 (.pick (.t 37) (ib true) (.t 40))]) (.cond (.t 41) (.seq (.reg [io 2 (.mv (ib false))]) .ret) .skip)) (.seq (.reg [im 42 4, io 43 (.len false (.t 42)), jm 44 0]) c61_2)))) (.reg [io 69 (.bin .add (.t 30) (ik 1)), im 30 69])))))
def c61_0 : ACode := .seq (.reg [io 1 (.box 24 (.t 0)), io 2 (.mv (ib false))]) (.seq (.seq (.reg [io 7 (.fla 0 (.t 1)), io 8 (.ld 1 false (.t 7)), io 9 (.len false (.t 8)), io 10 (.bin .lss (.t 9) (ik 1)), im 11 10, ih 11 12 (.fla 0 (.t 1)), ih 11 13 (.ld 1 false (.t 12)), ih 11 14 (.len false (.t 13)), ih 11 15 (.bin .gtr (.t 14) (ik 16)), io 16 (.pick (.t 11) (ib true) (.t 15)), im 17 16, ih 17 18 (.fla 1 (.t 1)), ih 17 19 (.ld 1 false (.t 18)), ih 17 20 (.bin .lss (.t 19) (ik 1)), io 21 (.pick (.t 17) (ib true) (.t 20)), im 22 21, ih 22 23 (.fla 1 (.t 1)), ih 22 24 (.ld 1 false (.t 23)), ih 22 25 (.bin .gtr (.t 24) (ik 3)), io 26 (.pick (.t 22) (ib true) (.t 25))]) (.cond (.t 26) (.seq (.reg [io 2 (.mv (ib false))]) .ret) .skip)) (.seq (.seq (.reg [io 27 (.fla 0 (.t 1)), io 28 (.ld 1 false (.t 27)), io 29 (.len false (.t 28)), jm 30 0]) c61_1) (.seq (.reg [io 2 (.mv (ib true))]) .ret)))
theorem cf61 : cFn Tryz.prog eqT 61 = some (c61_0, [(.tmp 2)], 70) := by kernel_rfl
def c62_0 : ACode := .seq (.reg [io 2 (.mv jn)]) (.seq (.seq (.reg [im 3 0, io 4 (.eqs false (.t 3))]) (.cond (.t 4) (.seq (.reg [io 2 (.mv jn)]) .ret) .skip)) (.seq (.reg [io 5 (.bsl 1 []), im 6 0, io 7 (.app 3 1 8 (.t 5) (.t 6)), im 2 7]) .ret))
theorem cf62 : cFn Tryz.prog eqT 62 = some (c62_0, [(.tmp 2)], 8) := by kernel_rfl
def tabGet {α : Type} : List (FuncId × α) → FuncId → Option α
 | [], _ => none
 | (k, x) :: l, f => bif Nat.beq f k then some x else tabGet l f
def TabAll {α : Type} (Pr : FuncId → α → Prop) : List (FuncId × α) → Prop
 | [] => True
 | (k, x) :: l => Pr k x ∧ TabAll Pr l
theorem tabGet_ok {α : Type} {Pr : FuncId → α → Prop} : ∀ {l : List (FuncId × α)} {f : FuncId} {x : α}, TabAll Pr l → tabGet l f = some x → Pr f x
 | [], f, x, _, h => by simp [tabGet] at h
 | (k, y) :: l, f, x, ha, h => by
  simp only [tabGet, beqd] at h
  by_cases e : f = k
  ·subst e
   simp only [decide_true, cond_true, Option.some.injEq] at h
   subst h
   exact ha.1
  ·simp only [e, decide_false, cond_false] at h
   exact tabGet_ok ha.2 h
def LZ : List (FuncId × ACode × List ARes × Nat) := [(10, c10_0, [(.tmp 0)], 25), (26, c26_0, [(.tmp 4), (.tmp 5)], 42), (61, c61_0, [(.tmp 2)], 70), (62, c62_0, [(.tmp 2)], 8), (6, c6_0, [(.tmp 2)], 9), (24, c24_0, [(.tmp 2)], 6), (53, c53_0, [(.tmp 2)], 14), (55, c55_0, [(.tmp 2)], 11), (8, c8_0, [(.tmp 2)], 16), (9, c9_0, [(.tmp 2)], 9)]
def TZ : FuncId → Option (ACode × List ARes × Nat) := tabGet LZ
theorem hTZ : ∀ f x, TZ f = some x → cFn Tryz.prog eqT f = some x := fun f x h => tabGet_ok (Pr := fun f x => cFn Tryz.prog eqT f = some x) (l := LZ) ⟨cf10, cf26, cf61, cf62, cf6, cf24, cf53, cf55, cf8, cf9, trivial⟩ h
def XN : CallT → FuncId → List AV → (AV → TH → Nat → Bool) → TH → Nat → Option Bool := fun _ _ _ _ _ _ => none
theorem hXN : ∀ call, CallOk2 Tryz.prog call → ∀ f args k M n, XN call f args k M n = some true → Sound Tryz.prog f args (upT M n) fun r H' => ∃ M' n', upT M' n' = H' ∧ k r M' n' = true := fun _ _ _ _ _ _ _ h => by cases h
def isT2 : AV → TH → Nat → Bool := fun r _ _ => match r with
 | .sc (.bool true) => true
 | _ => false
theorem isT2_ok {r : AV} {M : TH} {n : Nat} (h : isT2 r M n = true) : r = .sc (.bool true) := by
 unfold isT2 at h
 split at h
 ·rfl
 ·cases h
theorem run_aw37 : runF2 XN TZ 60 40 10 [] isT2 .e 0 = true := by kernel_rfl
theorem awake37 (H : AHeap) : Sound Tryz.prog 10 [] H (Pure H (.b true)) := by
 have := runF2_ok hE hXN hTZ 60 40 10 [] isT2 .e 0 run_aw37
 rw [upT_emp] at this
 exact @Sound.closed Tryz.prog 10 [] _ _ (this.mono fun r H' ⟨_, _, _, h2⟩ => isT2_ok h2) (fun _ _ h => h) H
theorem zNode_nil (i : Int) (H : AHeap) : Sound Tryz.prog 5 [.sc (.pointer none), .i i] H (PureE H (.tup [za0, .i 1])) := by
 refine fn_soundQ hE cf5 (Nat.le_of_ble_eq_true rfl) fun Q hQr hQn => ?_
 ((have hd := trivial; repeat' (first | ((first | apply GdK_st | apply GdK_sf | apply CondK_s) <;> intro hd <;> (try simp only [hd])) | simp (disch := first | assumption | omega | (simp only [nx] <;> omega) | fail) only [hd, hQr, hQn, c5_0, ↓YA, YB, YC, YE, YF, YZ, ↓reduceIte, Nat.reduceEqDiff, Nat.reduceAdd, Nat.reduceMul, Nat.reduceLeDiff, Int.reduceToNat, Int.reduceLE, Int.reduceLT, Int.reduceGT, Int.reduceGE, Int.reduceAdd, Int.reduceSub, Int.reduceNeg, Int.reduceBEq, Int.reduceBNe])) <;> (try (have hd_ : True := hd; clear hd_ hd)))
 exact fin_keep ⟨rfl, by exact AXT⟩
theorem zNode_new (i : Int) (H : AHeap) (id : Nat) (h : H.get id = some (.cells [.sc .nilFunc, .i 0, .i 0] 28)) : Sound Tryz.prog 5 [.ptr id 0, .i i] H (PureE H (.tup [za0, .i 1])) := by
 have hl := AHeap.lt h
 refine fn_soundQ hE cf5 (Nat.le_of_ble_eq_true rfl) fun Q hQr hQn => ?_
 ((have hd := trivial; repeat' (first | ((first | apply GdK_st | apply GdK_sf | apply CondK_s) <;> intro hd <;> (try simp only [hd])) | simp (disch := first | assumption | omega | (simp only [nx] <;> omega) | fail) only [hd, hQr, hQn, c5_0, ↓YA, YB, YC, YE, YF, YZ, ↓reduceIte, Nat.reduceEqDiff, Nat.reduceAdd, Nat.reduceMul, Nat.reduceLeDiff, Int.reduceToNat, Int.reduceLE, Int.reduceLT, Int.reduceGT, Int.reduceGE, Int.reduceAdd, Int.reduceSub, Int.reduceNeg, Int.reduceBEq, Int.reduceBNe, h])) <;> (try (have hd_ : True := hd; clear hd_ hd)))
 exact fin_keep ⟨rfl, by exact AXT⟩
theorem zTop_nil (H : AHeap) : Sound Tryz.prog 8 [.sc (.pointer none)] H (Pure H (.i (-1))) := by
 refine fn_soundQ hE cf8 (Nat.le_of_ble_eq_true rfl) fun Q hQr hQn => ?_
 ((have hd := trivial; repeat' (first | ((first | apply GdK_st | apply GdK_sf | apply CondK_s) <;> intro hd <;> (try simp only [hd])) | simp (disch := first | assumption | omega | (simp only [nx] <;> omega) | fail) only [hd, hQr, hQn, c8_0, ↓YA, YB, YC, YE, YF, YZ, ↓reduceIte, Nat.reduceEqDiff, Nat.reduceAdd, Nat.reduceMul, Nat.reduceLeDiff, Int.reduceToNat, Int.reduceLE, Int.reduceLT, Int.reduceGT, Int.reduceGE, Int.reduceAdd, Int.reduceSub, Int.reduceNeg, Int.reduceBEq, Int.reduceBNe])) <;> (try (have hd_ : True := hd; clear hd_ hd)))
 exact fin_pure (by exact AXT) rfl
theorem zTop_new (H : AHeap) (id : Nat) (h : H.get id = some (.cells [.sc .nilFunc, .i 0, .i 0] 28)) : Sound Tryz.prog 8 [.ptr id 0] H (Pure H (.i (-1))) := by
 have hl := AHeap.lt h
 refine fn_soundQ hE cf8 (Nat.le_of_ble_eq_true rfl) fun Q hQr hQn => ?_
 ((have hd := trivial; repeat' (first | ((first | apply GdK_st | apply GdK_sf | apply CondK_s) <;> intro hd <;> (try simp only [hd])) | simp (disch := first | assumption | omega | (simp only [nx] <;> omega) | fail) only [hd, hQr, hQn, c8_0, ↓YA, YB, YC, YE, YF, YZ, ↓reduceIte, Nat.reduceEqDiff, Nat.reduceAdd, Nat.reduceMul, Nat.reduceLeDiff, Int.reduceToNat, Int.reduceLE, Int.reduceLT, Int.reduceGT, Int.reduceGE, Int.reduceAdd, Int.reduceSub, Int.reduceNeg, Int.reduceBEq, Int.reduceBNe, h])) <;> (try (have hd_ : True := hd; clear hd_ hd)))
 exact fin_pure (by exact AXT) rfl
theorem zReads_nil (H : AHeap) : Sound Tryz.prog 9 [.sc (.pointer none)] H (Pure H (.i 0)) := by
 refine fn_soundQ hE cf9 (Nat.le_of_ble_eq_true rfl) fun Q hQr hQn => ?_
 ((have hd := trivial; repeat' (first | ((first | apply GdK_st | apply GdK_sf | apply CondK_s) <;> intro hd <;> (try simp only [hd])) | simp (disch := first | assumption | omega | (simp only [nx] <;> omega) | fail) only [hd, hQr, hQn, c9_0, ↓YA, YB, YC, YE, YF, YZ, ↓reduceIte, Nat.reduceEqDiff, Nat.reduceAdd, Nat.reduceMul, Nat.reduceLeDiff, Int.reduceToNat, Int.reduceLE, Int.reduceLT, Int.reduceGT, Int.reduceGE, Int.reduceAdd, Int.reduceSub, Int.reduceNeg, Int.reduceBEq, Int.reduceBNe])) <;> (try (have hd_ : True := hd; clear hd_ hd)))
 exact fin_pure (by exact AXT) rfl
theorem zReads_new (H : AHeap) (id : Nat) (h : H.get id = some (.cells [.sc .nilFunc, .i 0, .i 0] 28)) : Sound Tryz.prog 9 [.ptr id 0] H (Pure H (.i 0)) := by
 have hl := AHeap.lt h
 refine fn_soundQ hE cf9 (Nat.le_of_ble_eq_true rfl) fun Q hQr hQn => ?_
 ((have hd := trivial; repeat' (first | ((first | apply GdK_st | apply GdK_sf | apply CondK_s) <;> intro hd <;> (try simp only [hd])) | simp (disch := first | assumption | omega | (simp only [nx] <;> omega) | fail) only [hd, hQr, hQn, c9_0, ↓YA, YB, YC, YE, YF, YZ, ↓reduceIte, Nat.reduceEqDiff, Nat.reduceAdd, Nat.reduceMul, Nat.reduceLeDiff, Int.reduceToNat, Int.reduceLE, Int.reduceLT, Int.reduceGT, Int.reduceGE, Int.reduceAdd, Int.reduceSub, Int.reduceNeg, Int.reduceBEq, Int.reduceBNe, h])) <;> (try (have hd_ : True := hd; clear hd_ hd)))
 exact fin_pure (by exact AXT) rfl
theorem zTop_fn (H : AHeap) (id f : Nat) (a b : List AV) (t r : Int) (h : H.get id = some (.cells [.fn f a b, .i t, .i r] 28)) : Sound Tryz.prog 8 [.ptr id 0] H (Pure H (.i t)) := by
 have hl := AHeap.lt h
 refine fn_soundQ hE cf8 (Nat.le_of_ble_eq_true rfl) fun Q hQr hQn => ?_
 ((have hd := trivial; repeat' (first | ((first | apply GdK_st | apply GdK_sf | apply CondK_s) <;> intro hd <;> (try simp only [hd])) | simp (disch := first | assumption | omega | (simp only [nx] <;> omega) | fail) only [hd, hQr, hQn, c8_0, ↓YA, YB, YC, YE, YF, YZ, ↓reduceIte, Nat.reduceEqDiff, Nat.reduceAdd, Nat.reduceMul, Nat.reduceLeDiff, Int.reduceToNat, Int.reduceLE, Int.reduceLT, Int.reduceGT, Int.reduceGE, Int.reduceAdd, Int.reduceSub, Int.reduceNeg, Int.reduceBEq, Int.reduceBNe, h])) <;> (try (have hd_ : True := hd; clear hd_ hd)))
 exact fin_pure (by exact AXT) rfl
theorem zThere (H : AHeap) : Sound Tryz.prog 53 [.sc (.pointer none)] H (Pure H (.b false)) := by
 refine fn_soundQ hE cf53 (Nat.le_of_ble_eq_true rfl) fun Q hQr hQn => ?_
 ((have hd := trivial; repeat' (first | ((first | apply GdK_st | apply GdK_sf | apply CondK_s) <;> intro hd <;> (try simp only [hd])) | simp (disch := first | assumption | omega | (simp only [nx] <;> omega) | fail) only [hd, hQr, hQn, c53_0, ↓YA, YB, YC, YE, YF, YZ, ↓reduceIte, Nat.reduceEqDiff, Nat.reduceAdd, Nat.reduceMul, Nat.reduceLeDiff, Int.reduceToNat, Int.reduceLE, Int.reduceLT, Int.reduceGT, Int.reduceGE, Int.reduceAdd, Int.reduceSub, Int.reduceNeg, Int.reduceBEq, Int.reduceBNe])) <;> (try (have hd_ : True := hd; clear hd_ hd)))
 exact fin_pure (by exact AXT) rfl
theorem zLen (H : AHeap) : Sound Tryz.prog 55 [.sc (.pointer none)] H (Pure H (.i 0)) := by
 refine fn_soundQ hE cf55 (Nat.le_of_ble_eq_true rfl) fun Q hQr hQn => ?_
 ((have hd := trivial; repeat' (first | ((first | apply GdK_st | apply GdK_sf | apply CondK_s) <;> intro hd <;> (try simp only [hd])) | simp (disch := first | assumption | omega | (simp only [nx] <;> omega) | fail) only [hd, hQr, hQn, c55_0, ↓YA, YB, YC, YE, YF, YZ, ↓reduceIte, Nat.reduceEqDiff, Nat.reduceAdd, Nat.reduceMul, Nat.reduceLeDiff, Int.reduceToNat, Int.reduceLE, Int.reduceLT, Int.reduceGT, Int.reduceGE, Int.reduceAdd, Int.reduceSub, Int.reduceNeg, Int.reduceBEq, Int.reduceBNe])) <;> (try (have hd_ : True := hd; clear hd_ hd)))
 (refine CallK.use (zThere _) ?_; rintro _ _ ⟨rfl, k1, rfl⟩)
 ((have hd := trivial; repeat' (first | ((first | apply GdK_st | apply GdK_sf | apply CondK_s) <;> intro hd <;> (try simp only [hd])) | simp (disch := first | assumption | omega | (simp only [nx] <;> omega) | fail) only [hd, hQr, hQn, c55_0, ↓YA, YB, YC, YE, YF, YZ, ↓reduceIte, Nat.reduceEqDiff, Nat.reduceAdd, Nat.reduceMul, Nat.reduceLeDiff, Int.reduceToNat, Int.reduceLE, Int.reduceLT, Int.reduceGT, Int.reduceGE, Int.reduceAdd, Int.reduceSub, Int.reduceNeg, Int.reduceBEq, Int.reduceBNe])) <;> (try (have hd_ : True := hd; clear hd_ hd)))
 exact fin_pure (by exact AXT) rfl
theorem zATop (H : AHeap) : Sound Tryz.prog 24 [.sc (.pointer none)] H (Pure H (.i (-1))) := by
 refine fn_soundQ hE cf24 (Nat.le_of_ble_eq_true rfl) fun Q hQr hQn => ?_
 ((have hd := trivial; repeat' (first | ((first | apply GdK_st | apply GdK_sf | apply CondK_s) <;> intro hd <;> (try simp only [hd])) | simp (disch := first | assumption | omega | (simp only [nx] <;> omega) | fail) only [hd, hQr, hQn, c24_0, ↓YA, YB, YC, YE, YF, YZ, ↓reduceIte, Nat.reduceEqDiff, Nat.reduceAdd, Nat.reduceMul, Nat.reduceLeDiff, Int.reduceToNat, Int.reduceLE, Int.reduceLT, Int.reduceGT, Int.reduceGE, Int.reduceAdd, Int.reduceSub, Int.reduceNeg, Int.reduceBEq, Int.reduceBNe])) <;> (try (have hd_ : True := hd; clear hd_ hd)))
 (refine CallK.use (zLen _) ?_; rintro _ _ ⟨rfl, k1, rfl⟩)
 ((have hd := trivial; repeat' (first | ((first | apply GdK_st | apply GdK_sf | apply CondK_s) <;> intro hd <;> (try simp only [hd])) | simp (disch := first | assumption | omega | (simp only [nx] <;> omega) | fail) only [hd, hQr, hQn, c24_0, ↓YA, YB, YC, YE, YF, YZ, ↓reduceIte, Nat.reduceEqDiff, Nat.reduceAdd, Nat.reduceMul, Nat.reduceLeDiff, Int.reduceToNat, Int.reduceLE, Int.reduceLT, Int.reduceGT, Int.reduceGE, Int.reduceAdd, Int.reduceSub, Int.reduceNeg, Int.reduceBEq, Int.reduceBNe])) <;> (try (have hd_ : True := hd; clear hd_ hd)))
 exact fin_pure (by exact AXT) rfl
theorem zANode (i : Int) (H : AHeap) : Sound Tryz.prog 23 [.sc (.pointer none), .i i] H (PureE H (.tup [za0, .i 1])) := by
 refine fn_soundQ hE cf23 (Nat.le_of_ble_eq_true rfl) fun Q hQr hQn => ?_
 ((have hd := trivial; repeat' (first | ((first | apply GdK_st | apply GdK_sf | apply CondK_s) <;> intro hd <;> (try simp only [hd])) | simp (disch := first | assumption | omega | (simp only [nx] <;> omega) | fail) only [hd, hQr, hQn, c23_0, ↓YA, YB, YC, YE, YF, YZ, ↓reduceIte, Nat.reduceEqDiff, Nat.reduceAdd, Nat.reduceMul, Nat.reduceLeDiff, Int.reduceToNat, Int.reduceLE, Int.reduceLT, Int.reduceGT, Int.reduceGE, Int.reduceAdd, Int.reduceSub, Int.reduceNeg, Int.reduceBEq, Int.reduceBNe])) <;> (try (have hd_ : True := hd; clear hd_ hd)))
 (refine CallK.use (zThere _) ?_; rintro _ _ ⟨rfl, k1, rfl⟩)
 ((have hd := trivial; repeat' (first | ((first | apply GdK_st | apply GdK_sf | apply CondK_s) <;> intro hd <;> (try simp only [hd])) | simp (disch := first | assumption | omega | (simp only [nx] <;> omega) | fail) only [hd, hQr, hQn, c23_0, ↓YA, YB, YC, YE, YF, YZ, ↓reduceIte, Nat.reduceEqDiff, Nat.reduceAdd, Nat.reduceMul, Nat.reduceLeDiff, Int.reduceToNat, Int.reduceLE, Int.reduceLT, Int.reduceGT, Int.reduceGE, Int.reduceAdd, Int.reduceSub, Int.reduceNeg, Int.reduceBEq, Int.reduceBNe])) <;> (try (have hd_ : True := hd; clear hd_ hd)))
 exact fin_keep ⟨rfl, by exact AXT⟩
theorem zPThere (H : AHeap) : Sound Tryz.prog 51 [.sc (.pointer none)] H (Pure H (.b false)) := by
 refine fn_soundQ hE cf51 (Nat.le_of_ble_eq_true rfl) fun Q hQr hQn => ?_
 ((have hd := trivial; repeat' (first | ((first | apply GdK_st | apply GdK_sf | apply CondK_s) <;> intro hd <;> (try simp only [hd])) | simp (disch := first | assumption | omega | (simp only [nx] <;> omega) | fail) only [hd, hQr, hQn, c51_0, ↓YA, YB, YC, YE, YF, YZ, ↓reduceIte, Nat.reduceEqDiff, Nat.reduceAdd, Nat.reduceMul, Nat.reduceLeDiff, Int.reduceToNat, Int.reduceLE, Int.reduceLT, Int.reduceGT, Int.reduceGE, Int.reduceAdd, Int.reduceSub, Int.reduceNeg, Int.reduceBEq, Int.reduceBNe])) <;> (try (have hd_ : True := hd; clear hd_ hd)))
 exact fin_pure (by exact AXT) rfl
theorem zReady (H : AHeap) : Sound Tryz.prog 37 [.sc (.pointer none)] H (Pure H (.i 1)) := by
 refine fn_soundQ hE cf37 (Nat.le_of_ble_eq_true rfl) fun Q hQr hQn => ?_
 ((have hd := trivial; repeat' (first | ((first | apply GdK_st | apply GdK_sf | apply CondK_s) <;> intro hd <;> (try simp only [hd])) | simp (disch := first | assumption | omega | (simp only [nx] <;> omega) | fail) only [hd, hQr, hQn, c37_0, ↓YA, YB, YC, YE, YF, YZ, ↓reduceIte, Nat.reduceEqDiff, Nat.reduceAdd, Nat.reduceMul, Nat.reduceLeDiff, Int.reduceToNat, Int.reduceLE, Int.reduceLT, Int.reduceGT, Int.reduceGE, Int.reduceAdd, Int.reduceSub, Int.reduceNeg, Int.reduceBEq, Int.reduceBNe])) <;> (try (have hd_ : True := hd; clear hd_ hd)))
 (refine CallK.use (zPThere _) ?_; rintro _ _ ⟨rfl, k1, rfl⟩)
 ((have hd := trivial; repeat' (first | ((first | apply GdK_st | apply GdK_sf | apply CondK_s) <;> intro hd <;> (try simp only [hd])) | simp (disch := first | assumption | omega | (simp only [nx] <;> omega) | fail) only [hd, hQr, hQn, c37_0, ↓YA, YB, YC, YE, YF, YZ, ↓reduceIte, Nat.reduceEqDiff, Nat.reduceAdd, Nat.reduceMul, Nat.reduceLeDiff, Int.reduceToNat, Int.reduceLE, Int.reduceLT, Int.reduceGT, Int.reduceGE, Int.reduceAdd, Int.reduceSub, Int.reduceNeg, Int.reduceBEq, Int.reduceBNe])) <;> (try (have hd_ : True := hd; clear hd_ hd)))
 exact fin_pure (by exact AXT) rfl
theorem zRoot (H : AHeap) : Sound Tryz.prog 19 [.sc (.pointer none)] H (Pure H za2) := by
 refine fn_soundQ hE cf19 (Nat.le_of_ble_eq_true rfl) fun Q hQr hQn => ?_
 ((have hd := trivial; repeat' (first | ((first | apply GdK_st | apply GdK_sf | apply CondK_s) <;> intro hd <;> (try simp only [hd])) | simp (disch := first | assumption | omega | (simp only [nx] <;> omega) | fail) only [hd, hQr, hQn, c19_0, ↓YA, YB, YC, YE, YF, YZ, ↓reduceIte, Nat.reduceEqDiff, Nat.reduceAdd, Nat.reduceMul, Nat.reduceLeDiff, Int.reduceToNat, Int.reduceLE, Int.reduceLT, Int.reduceGT, Int.reduceGE, Int.reduceAdd, Int.reduceSub, Int.reduceNeg, Int.reduceBEq, Int.reduceBNe])) <;> (try (have hd_ : True := hd; clear hd_ hd)))
 (refine CallK.use (zPThere _) ?_; rintro _ _ ⟨rfl, k1, rfl⟩)
 ((have hd := trivial; repeat' (first | ((first | apply GdK_st | apply GdK_sf | apply CondK_s) <;> intro hd <;> (try simp only [hd])) | simp (disch := first | assumption | omega | (simp only [nx] <;> omega) | fail) only [hd, hQr, hQn, c19_0, ↓YA, YB, YC, YE, YF, YZ, ↓reduceIte, Nat.reduceEqDiff, Nat.reduceAdd, Nat.reduceMul, Nat.reduceLeDiff, Int.reduceToNat, Int.reduceLE, Int.reduceLT, Int.reduceGT, Int.reduceGE, Int.reduceAdd, Int.reduceSub, Int.reduceNeg, Int.reduceBEq, Int.reduceBNe])) <;> (try (have hd_ : True := hd; clear hd_ hd)))
 exact fin_pure (by exact AXT) rfl
theorem zBytes (i j : Int) (H : AHeap) : Sound Tryz.prog 14 [.sc (.pointer none), .i i, .i j] H (Pure H (.tup [.sc (.string ⟨#[]⟩), .i 1])) := by
 refine fn_soundQ hE cf14 (Nat.le_of_ble_eq_true rfl) fun Q hQr hQn => ?_
 ((have hd := trivial; repeat' (first | ((first | apply GdK_st | apply GdK_sf | apply CondK_s) <;> intro hd <;> (try simp only [hd])) | simp (disch := first | assumption | omega | (simp only [nx] <;> omega) | fail) only [hd, hQr, hQn, c14_0, ↓YA, YB, YC, YE, YF, YZ, ↓reduceIte, Nat.reduceEqDiff, Nat.reduceAdd, Nat.reduceMul, Nat.reduceLeDiff, Int.reduceToNat, Int.reduceLE, Int.reduceLT, Int.reduceGT, Int.reduceGE, Int.reduceAdd, Int.reduceSub, Int.reduceNeg, Int.reduceBEq, Int.reduceBNe])) <;> (try (have hd_ : True := hd; clear hd_ hd)))
 (refine CallK.use (zReady _) ?_; rintro _ _ ⟨rfl, k1, rfl⟩)
 ((have hd := trivial; repeat' (first | ((first | apply GdK_st | apply GdK_sf | apply CondK_s) <;> intro hd <;> (try simp only [hd])) | simp (disch := first | assumption | omega | (simp only [nx] <;> omega) | fail) only [hd, hQr, hQn, c14_0, ↓YA, YB, YC, YE, YF, YZ, ↓reduceIte, Nat.reduceEqDiff, Nat.reduceAdd, Nat.reduceMul, Nat.reduceLeDiff, Int.reduceToNat, Int.reduceLE, Int.reduceLT, Int.reduceGT, Int.reduceGE, Int.reduceAdd, Int.reduceSub, Int.reduceNeg, Int.reduceBEq, Int.reduceBNe])) <;> (try (have hd_ : True := hd; clear hd_ hd)))
 exact fin_pure (by exact AXT) rfl
theorem zPBytes (x : AV) (y : AV) (i j : Int) (H : AHeap) : Sound Tryz.prog 56 [.agg [.sc (.pointer none), x, y], .i i, .i j] H (Pure H (.tup [.sc (.string ⟨#[]⟩), .i 1])) := by
 refine fn_soundQ hE cf56 (Nat.le_of_ble_eq_true rfl) fun Q hQr hQn => ?_
 ((have hd := trivial; repeat' (first | ((first | apply GdK_st | apply GdK_sf | apply CondK_s) <;> intro hd <;> (try simp only [hd])) | simp (disch := first | assumption | omega | (simp only [nx] <;> omega) | fail) only [hd, hQr, hQn, c56_0, ↓YA, YB, YC, YE, YF, YZ, ↓reduceIte, Nat.reduceEqDiff, Nat.reduceAdd, Nat.reduceMul, Nat.reduceLeDiff, Int.reduceToNat, Int.reduceLE, Int.reduceLT, Int.reduceGT, Int.reduceGE, Int.reduceAdd, Int.reduceSub, Int.reduceNeg, Int.reduceBEq, Int.reduceBNe])) <;> (try (have hd_ : True := hd; clear hd_ hd)))
 (refine CallK.use (zBytes _ _ _) ?_; rintro _ _ ⟨rfl, k1, rfl⟩)
 ((have hd := trivial; repeat' (first | ((first | apply GdK_st | apply GdK_sf | apply CondK_s) <;> intro hd <;> (try simp only [hd])) | simp (disch := first | assumption | omega | (simp only [nx] <;> omega) | fail) only [hd, hQr, hQn, c56_0, ↓YA, YB, YC, YE, YF, YZ, ↓reduceIte, Nat.reduceEqDiff, Nat.reduceAdd, Nat.reduceMul, Nat.reduceLeDiff, Int.reduceToNat, Int.reduceLE, Int.reduceLT, Int.reduceGT, Int.reduceGE, Int.reduceAdd, Int.reduceSub, Int.reduceNeg, Int.reduceBEq, Int.reduceBNe])) <;> (try (have hd_ : True := hd; clear hd_ hd)))
 exact fin_pure (by exact AXT) rfl
theorem zPNode (x y : AV) (i : Int) (H : AHeap) : Sound Tryz.prog 25 [.agg [.sc (.pointer none), x, y], .i i] H (PureE H (.tup [za0, .i 1])) := by
 refine fn_soundQ hE cf25 (Nat.le_of_ble_eq_true rfl) fun Q hQr hQn => ?_
 ((have hd := trivial; repeat' (first | ((first | apply GdK_st | apply GdK_sf | apply CondK_s) <;> intro hd <;> (try simp only [hd])) | simp (disch := first | assumption | omega | (simp only [nx] <;> omega) | fail) only [hd, hQr, hQn, c25_0, ↓YA, YB, YC, YE, YF, YZ, ↓reduceIte, Nat.reduceEqDiff, Nat.reduceAdd, Nat.reduceMul, Nat.reduceLeDiff, Int.reduceToNat, Int.reduceLE, Int.reduceLT, Int.reduceGT, Int.reduceGE, Int.reduceAdd, Int.reduceSub, Int.reduceNeg, Int.reduceBEq, Int.reduceBNe])) <;> (try (have hd_ : True := hd; clear hd_ hd)))
 (refine CallK.use (zRoot _) ?_; rintro _ _ ⟨rfl, k1, rfl⟩)
 ((have hd := trivial; repeat' (first | ((first | apply GdK_st | apply GdK_sf | apply CondK_s) <;> intro hd <;> (try simp only [hd])) | simp (disch := first | assumption | omega | (simp only [nx] <;> omega) | fail) only [hd, hQr, hQn, c25_0, ↓YA, YB, YC, YE, YF, YZ, ↓reduceIte, Nat.reduceEqDiff, Nat.reduceAdd, Nat.reduceMul, Nat.reduceLeDiff, Int.reduceToNat, Int.reduceLE, Int.reduceLT, Int.reduceGT, Int.reduceGE, Int.reduceAdd, Int.reduceSub, Int.reduceNeg, Int.reduceBEq, Int.reduceBNe])) <;> (try (have hd_ : True := hd; clear hd_ hd)))
 (refine CallK.use (zPBytes _ _ _ _ _) ?_; rintro _ _ ⟨rfl, k2, rfl⟩)
 ((have hd := trivial; repeat' (first | ((first | apply GdK_st | apply GdK_sf | apply CondK_s) <;> intro hd <;> (try simp only [hd])) | simp (disch := first | assumption | omega | (simp only [nx] <;> omega) | fail) only [hd, hQr, hQn, c25_0, ↓YA, YB, YC, YE, YF, YZ, ↓reduceIte, Nat.reduceEqDiff, Nat.reduceAdd, Nat.reduceMul, Nat.reduceLeDiff, Int.reduceToNat, Int.reduceLE, Int.reduceLT, Int.reduceGT, Int.reduceGE, Int.reduceAdd, Int.reduceSub, Int.reduceNeg, Int.reduceBEq, Int.reduceBNe])) <;> (try (have hd_ : True := hd; clear hd_ hd)))
 exact fin_keep ⟨rfl, by exact AXT⟩
theorem zArena (H : AHeap) : Sound Tryz.prog 6 [.sc (.pointer none)] H (fun r H' => ∃ id, r = .ptr id 0 ∧ H'.get id = some (.cells [.fn 23 [.sc (.pointer none)] [], .i (-1), .i 0] 28) ∧ AHeap.Ext H H') := by
 refine fn_soundQ hE cf6 (Nat.le_of_ble_eq_true rfl) fun Q hQr hQn => ?_
 ((have hd := trivial; repeat' (first | ((first | apply GdK_st | apply GdK_sf | apply CondK_s) <;> intro hd <;> (try simp only [hd])) | simp (disch := first | assumption | omega | (simp only [nx] <;> omega) | fail) only [hd, hQr, hQn, c6_0, ↓YA, YB, YC, YE, YF, YZ, ↓reduceIte, Nat.reduceEqDiff, Nat.reduceAdd, Nat.reduceMul, Nat.reduceLeDiff, Int.reduceToNat, Int.reduceLE, Int.reduceLT, Int.reduceGT, Int.reduceGE, Int.reduceAdd, Int.reduceSub, Int.reduceNeg, Int.reduceBEq, Int.reduceBNe])) <;> (try (have hd_ : True := hd; clear hd_ hd)))
 (refine CallK.use (zATop _) ?_; rintro _ _ ⟨rfl, k1, rfl⟩)
 ((have hd := trivial; repeat' (first | ((first | apply GdK_st | apply GdK_sf | apply CondK_s) <;> intro hd <;> (try simp only [hd])) | simp (disch := first | assumption | omega | (simp only [nx] <;> omega) | fail) only [hd, hQr, hQn, c6_0, ↓YA, YB, YC, YE, YF, YZ, ↓reduceIte, Nat.reduceEqDiff, Nat.reduceAdd, Nat.reduceMul, Nat.reduceLeDiff, Int.reduceToNat, Int.reduceLE, Int.reduceLT, Int.reduceGT, Int.reduceGE, Int.reduceAdd, Int.reduceSub, Int.reduceNeg, Int.reduceBEq, Int.reduceBNe])) <;> (try (have hd_ : True := hd; clear hd_ hd)))
 exact fin_keep ⟨_, rfl, AHeap.get_alloc_self, by exact AXT⟩
theorem zPager (x y : AV) (H : AHeap) : Sound Tryz.prog 7 [.sc (.pointer none), .agg [x, y]] H (fun r H' => ∃ id, r = .ptr id 0 ∧ H'.get id = some (.cells [.fn 25 [.agg [.sc (.pointer none), x, y]] [], .i (-1), .i 0] 28) ∧ AHeap.Ext H H') := by
 refine fn_soundQ hE cf7 (Nat.le_of_ble_eq_true rfl) fun Q hQr hQn => ?_
 ((have hd := trivial; repeat' (first | ((first | apply GdK_st | apply GdK_sf | apply CondK_s) <;> intro hd <;> (try simp only [hd])) | simp (disch := first | assumption | omega | (simp only [nx] <;> omega) | fail) only [hd, hQr, hQn, c7_0, ↓YA, YB, YC, YE, YF, YZ, ↓reduceIte, Nat.reduceEqDiff, Nat.reduceAdd, Nat.reduceMul, Nat.reduceLeDiff, Int.reduceToNat, Int.reduceLE, Int.reduceLT, Int.reduceGT, Int.reduceGE, Int.reduceAdd, Int.reduceSub, Int.reduceNeg, Int.reduceBEq, Int.reduceBNe])) <;> (try (have hd_ : True := hd; clear hd_ hd)))
 (refine CallK.use (zRoot _) ?_; rintro _ _ ⟨rfl, k1, rfl⟩)
 ((have hd := trivial; repeat' (first | ((first | apply GdK_st | apply GdK_sf | apply CondK_s) <;> intro hd <;> (try simp only [hd])) | simp (disch := first | assumption | omega | (simp only [nx] <;> omega) | fail) only [hd, hQr, hQn, c7_0, ↓YA, YB, YC, YE, YF, YZ, ↓reduceIte, Nat.reduceEqDiff, Nat.reduceAdd, Nat.reduceMul, Nat.reduceLeDiff, Int.reduceToNat, Int.reduceLE, Int.reduceLT, Int.reduceGT, Int.reduceGE, Int.reduceAdd, Int.reduceSub, Int.reduceNeg, Int.reduceBEq, Int.reduceBNe])) <;> (try (have hd_ : True := hd; clear hd_ hd)))
 exact fin_keep ⟨_, rfl, AHeap.get_alloc_self, by exact AXT⟩
def SrcQ (id : Nat) (f : AV) (H : AHeap) (r : AV) (H' : AHeap) : Prop :=
 r = .tup [za0, .i 1] ∧ H'.get id = some (.cells [f, .i (-1), .i 1] 28) ∧ (∀ j o, j ≠ id → H.get j = some o → H'.get j = some o) ∧ H.next ≤ H'.next
theorem src_end {H H1 : AHeap} {id : Nat} {f : AV} {o c : AObj} (hl : id < H.next) (hx : AHeap.Ext ((H.alloc o).set id (.cells [f, .i (-1), .i 1] 28)) H1) : SrcQ id f H (.tup [za0, .i 1]) (H1.set H.next c) := by
 have hn : ((H.alloc o).set id (.cells [f, .i (-1), .i 1] 28)).get id = some (.cells [f, .i (-1), .i 1] 28) := AHeap.get_set_self (by simp only [AHeap.next_alloc]; omega)
 refine ⟨rfl, ?_, fun j o hj h => ?_, ?_⟩
 ·rw [AHeap.get_set_ne (by omega)]
  exact hx.get _ _ hn
 ·have := AHeap.lt h
  rw [AHeap.get_set_ne (by omega)]
  refine hx.get _ _ ?_
  rw [AHeap.get_set_ne hj, AHeap.get_alloc_ne (by omega)]
  exact h
 ·have := hx.next
  simp only [AHeap.next_set, AHeap.next_alloc] at this ⊢
  omega
theorem src_box {H H1 : AHeap} {id : Nat} {o o' : AObj} (hl : id < H.next) (hx : AHeap.Ext ((H.alloc o).set id o') H1) : H1.get H.next = some o :=
 hx.get _ _ (by rw [AHeap.get_set_ne (by omega)]; exact AHeap.get_alloc_self)
theorem zNode_arena (i : Int) (H : AHeap) (id : Nat) (hi : 0 ≤ i) (h : H.get id = some (.cells [.fn 23 [.sc (.pointer none)] [], .i (-1), .i 0] 28)) : Sound Tryz.prog 5 [.ptr id 0, .i i] H (SrcQ id (.fn 23 [.sc (.pointer none)] []) H) := by
 have hl := AHeap.lt h
 have hd0 : decide (i < 0) = false := decide_eq_false (by omega)
 refine fn_soundQ hE cf5 (Nat.le_of_ble_eq_true rfl) fun Q hQr hQn => ?_
 ((have hd := trivial; repeat' (first | ((first | apply GdK_st | apply GdK_sf | apply CondK_s) <;> intro hd <;> (try simp only [hd])) | simp (disch := first | assumption | omega | (simp only [nx] <;> omega) | fail) only [hd, hQr, hQn, c5_0, ↓YA, YB, YC, YE, YF, YZ, ↓reduceIte, Nat.reduceEqDiff, Nat.reduceAdd, Nat.reduceMul, Nat.reduceLeDiff, Int.reduceToNat, Int.reduceLE, Int.reduceLT, Int.reduceGT, Int.reduceGE, Int.reduceAdd, Int.reduceSub, Int.reduceNeg, Int.reduceBEq, Int.reduceBNe, h, hd0])) <;> (try (have hd_ : True := hd; clear hd_ hd)))
 (refine CallK.use (zANode _ _) ?_; rintro _ H1 ⟨rfl, hx1⟩)
 have g1 := src_box hl hx1
 have hl1 := AHeap.lt g1
 ((have hd := trivial; repeat' (first | ((first | apply GdK_st | apply GdK_sf | apply CondK_s) <;> intro hd <;> (try simp only [hd])) | simp (disch := first | assumption | omega | (simp only [nx] <;> omega) | fail) only [hd, hQr, hQn, c5_0, ↓YA, YB, YC, YE, YF, YZ, ↓reduceIte, Nat.reduceEqDiff, Nat.reduceAdd, Nat.reduceMul, Nat.reduceLeDiff, Int.reduceToNat, Int.reduceLE, Int.reduceLT, Int.reduceGT, Int.reduceGE, Int.reduceAdd, Int.reduceSub, Int.reduceNeg, Int.reduceBEq, Int.reduceBNe, g1])) <;> (try (have hd_ : True := hd; clear hd_ hd)))
 refine fin_keep ?_
 exact src_end hl hx1
theorem zNode_pager (x y : AV) (i : Int) (H : AHeap) (id : Nat) (hi : 0 ≤ i) (h : H.get id = some (.cells [.fn 25 [.agg [.sc (.pointer none), x, y]] [], .i (-1), .i 0] 28)) : Sound Tryz.prog 5 [.ptr id 0, .i i] H (SrcQ id (.fn 25 [.agg [.sc (.pointer none), x, y]] []) H) := by
 have hl := AHeap.lt h
 have hd0 : decide (i < 0) = false := decide_eq_false (by omega)
 refine fn_soundQ hE cf5 (Nat.le_of_ble_eq_true rfl) fun Q hQr hQn => ?_
 ((have hd := trivial; repeat' (first | ((first | apply GdK_st | apply GdK_sf | apply CondK_s) <;> intro hd <;> (try simp only [hd])) | simp (disch := first | assumption | omega | (simp only [nx] <;> omega) | fail) only [hd, hQr, hQn, c5_0, ↓YA, YB, YC, YE, YF, YZ, ↓reduceIte, Nat.reduceEqDiff, Nat.reduceAdd, Nat.reduceMul, Nat.reduceLeDiff, Int.reduceToNat, Int.reduceLE, Int.reduceLT, Int.reduceGT, Int.reduceGE, Int.reduceAdd, Int.reduceSub, Int.reduceNeg, Int.reduceBEq, Int.reduceBNe, h, hd0])) <;> (try (have hd_ : True := hd; clear hd_ hd)))
 (refine CallK.use (zPNode _ _ _ _) ?_; rintro _ H1 ⟨rfl, hx1⟩)
 have g1 := src_box hl hx1
 have hl1 := AHeap.lt g1
 ((have hd := trivial; repeat' (first | ((first | apply GdK_st | apply GdK_sf | apply CondK_s) <;> intro hd <;> (try simp only [hd])) | simp (disch := first | assumption | omega | (simp only [nx] <;> omega) | fail) only [hd, hQr, hQn, c5_0, ↓YA, YB, YC, YE, YF, YZ, ↓reduceIte, Nat.reduceEqDiff, Nat.reduceAdd, Nat.reduceMul, Nat.reduceLeDiff, Int.reduceToNat, Int.reduceLE, Int.reduceLT, Int.reduceGT, Int.reduceGE, Int.reduceAdd, Int.reduceSub, Int.reduceNeg, Int.reduceBEq, Int.reduceBNe, g1])) <;> (try (have hd_ : True := hd; clear hd_ hd)))
 refine fin_keep ?_
 exact src_end hl hx1
theorem get_ext {H H' : AHeap} {id : Nat} {o c : AObj} (hx : AHeap.Ext (H.alloc c) H') (h : H.get id = some o) : H'.get id = some o :=
 hx.get _ _ (by rw [AHeap.get_alloc_lt (AHeap.lt h)]; exact h)
set_option maxHeartbeats 1000000 in
theorem srcNobody_no (x y : AV) (i : Int) (H : AHeap) : Sound Tryz.prog 3 [.agg [x, y], .i i, .b false] H fun r _ => r = .b true := by
 obtain ⟨m, hm⟩ : ∃ m, m = if (0 : Int) > i then 0 else i := ⟨_, rfl⟩
 have hm0 : 0 ≤ m := by rw [hm]; split <;> omega
 refine fn_soundQ hE cf3 (Nat.le_of_ble_eq_true rfl) fun Q hQr hQn => ?_
 ((have hd := trivial; repeat' (first | ((first | apply GdK_st | apply GdK_sf | apply CondK_s) <;> intro hd <;> (try simp only [hd])) | simp (disch := first | assumption | omega | (simp only [nx] <;> omega) | fail) only [hd, hQr, hQn, c3_0, ↓YA, YB, YC, YE, YF, YZ, ↓reduceIte, Nat.reduceEqDiff, Nat.reduceAdd, Nat.reduceMul, Nat.reduceLeDiff, Int.reduceToNat, Int.reduceLE, Int.reduceLT, Int.reduceGT, Int.reduceGE, Int.reduceAdd, Int.reduceSub, Int.reduceNeg, Int.reduceBEq, Int.reduceBNe])) <;> (try (have hd_ : True := hd; clear hd_ hd)))
 (refine CallK.use (zNode_nil _ _) ?_; rintro _ H1 ⟨rfl, hx1⟩)
 have gx := hx1.get H.next _ AHeap.get_alloc_self
 have hlx := AHeap.lt gx
 ((have hd := trivial; repeat' (first | ((first | apply GdK_st | apply GdK_sf | apply CondK_s) <;> intro hd <;> (try simp only [hd])) | simp (disch := first | assumption | omega | (simp only [nx] <;> omega) | fail) only [hd, hQr, hQn, c3_0, ↓YA, YB, YC, YE, YF, YZ, ↓reduceIte, Nat.reduceEqDiff, Nat.reduceAdd, Nat.reduceMul, Nat.reduceLeDiff, Int.reduceToNat, Int.reduceLE, Int.reduceLT, Int.reduceGT, Int.reduceGE, Int.reduceAdd, Int.reduceSub, Int.reduceNeg, Int.reduceBEq, Int.reduceBNe, gx])) <;> (try (have hd_ : True := hd; clear hd_ hd)))
 refine CallK.use (zArena _) ?_
 rintro r H2 ⟨ia, rfl, ga, hx2⟩
 have gx2 : H2.get H.next = some (.cells [x, y] 24) := get_ext hx2 gx
 have hlx2 := AHeap.lt gx2
 ((have hd := trivial; repeat' (first | ((first | apply GdK_st | apply GdK_sf | apply CondK_s) <;> intro hd <;> (try simp only [hd])) | simp (disch := first | assumption | omega | (simp only [nx] <;> omega) | fail) only [hd, hQr, hQn, c3_0, ↓YA, YB, YC, YE, YF, YZ, ↓reduceIte, Nat.reduceEqDiff, Nat.reduceAdd, Nat.reduceMul, Nat.reduceLeDiff, Int.reduceToNat, Int.reduceLE, Int.reduceLT, Int.reduceGT, Int.reduceGE, Int.reduceAdd, Int.reduceSub, Int.reduceNeg, Int.reduceBEq, Int.reduceBNe, gx2])) <;> (try (have hd_ : True := hd; clear hd_ hd)))
 refine CallK.use (zPager x y _) ?_
 rintro r H3 ⟨ib, rfl, gb, hx3⟩
 have gx3 := hx3.get _ _ gx2
 have ga3 := hx3.get _ _ ga
 have hab : ia ≠ ib := fun e => by rw [e, gb] at ga3; simp at ga3
 ((have hd := trivial; repeat' (first | ((first | apply GdK_st | apply GdK_sf | apply CondK_s) <;> intro hd <;> (try simp only [hd])) | simp (disch := first | assumption | omega | (simp only [nx] <;> omega) | fail) only [hd, hQr, hQn, c3_0, ↓YA, YB, YC, YE, YF, YZ, ↓reduceIte, Nat.reduceEqDiff, Nat.reduceAdd, Nat.reduceMul, Nat.reduceLeDiff, Int.reduceToNat, Int.reduceLE, Int.reduceLT, Int.reduceGT, Int.reduceGE, Int.reduceAdd, Int.reduceSub, Int.reduceNeg, Int.reduceBEq, Int.reduceBNe, gx3, gx2, ← hm])) <;> (try (have hd_ : True := hd; clear hd_ hd)))
 refine CallK.use (zNode_arena m _ ia hm0 ga3) ?_
 rintro r H4 ⟨rfl, ga4, hk4, hn4⟩
 have gb4 := hk4 _ _ hab.symm gb
 have lb4 := AHeap.lt gb4
 have la4 := AHeap.lt ga4
 ((have hd := trivial; repeat' (first | ((first | apply GdK_st | apply GdK_sf | apply CondK_s) <;> intro hd <;> (try simp only [hd])) | simp (disch := first | assumption | omega | (simp only [nx] <;> omega) | fail) only [hd, hQr, hQn, c3_0, ↓YA, YB, YC, YE, YF, YZ, ↓reduceIte, Nat.reduceEqDiff, Nat.reduceAdd, Nat.reduceMul, Nat.reduceLeDiff, Int.reduceToNat, Int.reduceLE, Int.reduceLT, Int.reduceGT, Int.reduceGE, Int.reduceAdd, Int.reduceSub, Int.reduceNeg, Int.reduceBEq, Int.reduceBNe, gb4, ← hm])) <;> (try (have hd_ : True := hd; clear hd_ hd)))
 refine CallK.use (zNode_pager x y m _ ib hm0 (by rw [AHeap.get_alloc_lt lb4]; exact gb4)) ?_
 rintro r H5 ⟨rfl, gb5, hk5, hn5⟩
 have ga5 := hk5 ia _ hab (by rw [AHeap.get_alloc_lt la4]; exact ga4)
 have lb5 := AHeap.lt gb5
 have la5 := AHeap.lt ga5
 ((have hd := trivial; repeat' (first | ((first | apply GdK_st | apply GdK_sf | apply CondK_s) <;> intro hd <;> (try simp only [hd])) | simp (disch := first | assumption | omega | (simp only [nx] <;> omega) | fail) only [hd, hQr, hQn, c3_0, ↓YA, YB, YC, YE, YF, YZ, ↓reduceIte, Nat.reduceEqDiff, Nat.reduceAdd, Nat.reduceMul, Nat.reduceLeDiff, Int.reduceToNat, Int.reduceLE, Int.reduceLT, Int.reduceGT, Int.reduceGE, Int.reduceAdd, Int.reduceSub, Int.reduceNeg, Int.reduceBEq, Int.reduceBNe])) <;> (try (have hd_ : True := hd; clear hd_ hd)))
 (refine CallK.use (zTop_nil _) ?_; rintro _ _ ⟨rfl, k1, rfl⟩)
 ((have hd := trivial; repeat' (first | ((first | apply GdK_st | apply GdK_sf | apply CondK_s) <;> intro hd <;> (try simp only [hd])) | simp (disch := first | assumption | omega | (simp only [nx] <;> omega) | fail) only [hd, hQr, hQn, c3_0, ↓YA, YB, YC, YE, YF, YZ, ↓reduceIte, Nat.reduceEqDiff, Nat.reduceAdd, Nat.reduceMul, Nat.reduceLeDiff, Int.reduceToNat, Int.reduceLE, Int.reduceLT, Int.reduceGT, Int.reduceGE, Int.reduceAdd, Int.reduceSub, Int.reduceNeg, Int.reduceBEq, Int.reduceBNe])) <;> (try (have hd_ : True := hd; clear hd_ hd)))
 (refine CallK.use (zReads_nil _) ?_; rintro _ _ ⟨rfl, k2, rfl⟩)
 ((have hd := trivial; repeat' (first | ((first | apply GdK_st | apply GdK_sf | apply CondK_s) <;> intro hd <;> (try simp only [hd])) | simp (disch := first | assumption | omega | (simp only [nx] <;> omega) | fail) only [hd, hQr, hQn, c3_0, ↓YA, YB, YC, YE, YF, YZ, ↓reduceIte, Nat.reduceEqDiff, Nat.reduceAdd, Nat.reduceMul, Nat.reduceLeDiff, Int.reduceToNat, Int.reduceLE, Int.reduceLT, Int.reduceGT, Int.reduceGE, Int.reduceAdd, Int.reduceSub, Int.reduceNeg, Int.reduceBEq, Int.reduceBNe])) <;> (try (have hd_ : True := hd; clear hd_ hd)))
 (refine CallK.use (zTop_fn _ ia _ _ _ _ _ (by (try simp only [AHeap.get_bump]); rw [AHeap.get_alloc_lt la5]; exact ga5)) ?_; rintro _ _ ⟨rfl, k3, rfl⟩)
 ((have hd := trivial; repeat' (first | ((first | apply GdK_st | apply GdK_sf | apply CondK_s) <;> intro hd <;> (try simp only [hd])) | simp (disch := first | assumption | omega | (simp only [nx] <;> omega) | fail) only [hd, hQr, hQn, c3_0, ↓YA, YB, YC, YE, YF, YZ, ↓reduceIte, Nat.reduceEqDiff, Nat.reduceAdd, Nat.reduceMul, Nat.reduceLeDiff, Int.reduceToNat, Int.reduceLE, Int.reduceLT, Int.reduceGT, Int.reduceGE, Int.reduceAdd, Int.reduceSub, Int.reduceNeg, Int.reduceBEq, Int.reduceBNe])) <;> (try (have hd_ : True := hd; clear hd_ hd)))
 (refine CallK.use (zTop_fn _ ib _ _ _ _ _ (by (try simp only [AHeap.get_bump]); rw [AHeap.get_alloc_lt lb5]; exact gb5)) ?_; rintro _ _ ⟨rfl, k4, rfl⟩)
 ((have hd := trivial; repeat' (first | ((first | apply GdK_st | apply GdK_sf | apply CondK_s) <;> intro hd <;> (try simp only [hd])) | simp (disch := first | assumption | omega | (simp only [nx] <;> omega) | fail) only [hd, hQr, hQn, c3_0, ↓YA, YB, YC, YE, YF, YZ, ↓reduceIte, Nat.reduceEqDiff, Nat.reduceAdd, Nat.reduceMul, Nat.reduceLeDiff, Int.reduceToNat, Int.reduceLE, Int.reduceLT, Int.reduceGT, Int.reduceGE, Int.reduceAdd, Int.reduceSub, Int.reduceNeg, Int.reduceBEq, Int.reduceBNe])) <;> (try (have hd_ : True := hd; clear hd_ hd)))
 (refine CallK.use (awake37 _) ?_; rintro _ _ ⟨rfl, k5, rfl⟩)
 ((have hd := trivial; repeat' (first | ((first | apply GdK_st | apply GdK_sf | apply CondK_s) <;> intro hd <;> (try simp only [hd])) | simp (disch := first | assumption | omega | (simp only [nx] <;> omega) | fail) only [hd, hQr, hQn, c3_0, ↓YA, YB, YC, YE, YF, YZ, ↓reduceIte, Nat.reduceEqDiff, Nat.reduceAdd, Nat.reduceMul, Nat.reduceLeDiff, Int.reduceToNat, Int.reduceLE, Int.reduceLT, Int.reduceGT, Int.reduceGE, Int.reduceAdd, Int.reduceSub, Int.reduceNeg, Int.reduceBEq, Int.reduceBNe])) <;> (try (have hd_ : True := hd; clear hd_ hd)))
 exact fin_keep rfl
set_option maxHeartbeats 1000000 in
theorem srcNobody_yes (x y : AV) (i : Int) (H : AHeap) : Sound Tryz.prog 3 [.agg [x, y], .i i, .b true] H fun r _ => r = .b true := by
 obtain ⟨m, hm⟩ : ∃ m, m = if (0 : Int) > i then 0 else i := ⟨_, rfl⟩
 have hm0 : 0 ≤ m := by rw [hm]; split <;> omega
 refine fn_soundQ hE cf3 (Nat.le_of_ble_eq_true rfl) fun Q hQr hQn => ?_
 ((have hd := trivial; repeat' (first | ((first | apply GdK_st | apply GdK_sf | apply CondK_s) <;> intro hd <;> (try simp only [hd])) | simp (disch := first | assumption | omega | (simp only [nx] <;> omega) | fail) only [hd, hQr, hQn, c3_0, ↓YA, YB, YC, YE, YF, YZ, ↓reduceIte, Nat.reduceEqDiff, Nat.reduceAdd, Nat.reduceMul, Nat.reduceLeDiff, Int.reduceToNat, Int.reduceLE, Int.reduceLT, Int.reduceGT, Int.reduceGE, Int.reduceAdd, Int.reduceSub, Int.reduceNeg, Int.reduceBEq, Int.reduceBNe])) <;> (try (have hd_ : True := hd; clear hd_ hd)))
 (refine CallK.use (zNode_new _ _ (H.next + 1) AHeap.get_alloc_self) ?_; rintro _ H1 ⟨rfl, hx1⟩)
 have gx := hx1.get H.next _ (by rw [AHeap.get_alloc_lt (by simp)]; exact AHeap.get_alloc_self)
 have gs := hx1.get (H.next + 1) _ (AHeap.get_alloc_self (H := H.alloc _))
 have hlx := AHeap.lt gx
 ((have hd := trivial; repeat' (first | ((first | apply GdK_st | apply GdK_sf | apply CondK_s) <;> intro hd <;> (try simp only [hd])) | simp (disch := first | assumption | omega | (simp only [nx] <;> omega) | fail) only [hd, hQr, hQn, c3_0, ↓YA, YB, YC, YE, YF, YZ, ↓reduceIte, Nat.reduceEqDiff, Nat.reduceAdd, Nat.reduceMul, Nat.reduceLeDiff, Int.reduceToNat, Int.reduceLE, Int.reduceLT, Int.reduceGT, Int.reduceGE, Int.reduceAdd, Int.reduceSub, Int.reduceNeg, Int.reduceBEq, Int.reduceBNe, gx])) <;> (try (have hd_ : True := hd; clear hd_ hd)))
 refine CallK.use (zArena _) ?_
 rintro r H2 ⟨ia, rfl, ga, hx2⟩
 have gx2 : H2.get H.next = some (.cells [x, y] 24) := get_ext hx2 gx
 have gs2 := get_ext hx2 gs
 have hlx2 := AHeap.lt gx2
 ((have hd := trivial; repeat' (first | ((first | apply GdK_st | apply GdK_sf | apply CondK_s) <;> intro hd <;> (try simp only [hd])) | simp (disch := first | assumption | omega | (simp only [nx] <;> omega) | fail) only [hd, hQr, hQn, c3_0, ↓YA, YB, YC, YE, YF, YZ, ↓reduceIte, Nat.reduceEqDiff, Nat.reduceAdd, Nat.reduceMul, Nat.reduceLeDiff, Int.reduceToNat, Int.reduceLE, Int.reduceLT, Int.reduceGT, Int.reduceGE, Int.reduceAdd, Int.reduceSub, Int.reduceNeg, Int.reduceBEq, Int.reduceBNe, gx2])) <;> (try (have hd_ : True := hd; clear hd_ hd)))
 refine CallK.use (zPager x y _) ?_
 rintro r H3 ⟨ib, rfl, gb, hx3⟩
 have gx3 := hx3.get _ _ gx2
 have ga3 := hx3.get _ _ ga
 have gs3 := hx3.get _ _ gs2
 have hsa : H.next + 1 ≠ ia := fun e => by rw [← e, gs2] at ga; simp at ga
 have hsb : H.next + 1 ≠ ib := fun e => by rw [← e, gs3] at gb; simp at gb
 have hab : ia ≠ ib := fun e => by rw [e, gb] at ga3; simp at ga3
 ((have hd := trivial; repeat' (first | ((first | apply GdK_st | apply GdK_sf | apply CondK_s) <;> intro hd <;> (try simp only [hd])) | simp (disch := first | assumption | omega | (simp only [nx] <;> omega) | fail) only [hd, hQr, hQn, c3_0, ↓YA, YB, YC, YE, YF, YZ, ↓reduceIte, Nat.reduceEqDiff, Nat.reduceAdd, Nat.reduceMul, Nat.reduceLeDiff, Int.reduceToNat, Int.reduceLE, Int.reduceLT, Int.reduceGT, Int.reduceGE, Int.reduceAdd, Int.reduceSub, Int.reduceNeg, Int.reduceBEq, Int.reduceBNe, gx3, gx2, ← hm])) <;> (try (have hd_ : True := hd; clear hd_ hd)))
 refine CallK.use (zNode_arena m _ ia hm0 ga3) ?_
 rintro r H4 ⟨rfl, ga4, hk4, hn4⟩
 have gb4 := hk4 _ _ hab.symm gb
 have gs4 := hk4 _ _ hsa gs3
 have ls4 := AHeap.lt gs4
 have lb4 := AHeap.lt gb4
 have la4 := AHeap.lt ga4
 ((have hd := trivial; repeat' (first | ((first | apply GdK_st | apply GdK_sf | apply CondK_s) <;> intro hd <;> (try simp only [hd])) | simp (disch := first | assumption | omega | (simp only [nx] <;> omega) | fail) only [hd, hQr, hQn, c3_0, ↓YA, YB, YC, YE, YF, YZ, ↓reduceIte, Nat.reduceEqDiff, Nat.reduceAdd, Nat.reduceMul, Nat.reduceLeDiff, Int.reduceToNat, Int.reduceLE, Int.reduceLT, Int.reduceGT, Int.reduceGE, Int.reduceAdd, Int.reduceSub, Int.reduceNeg, Int.reduceBEq, Int.reduceBNe, gb4, ← hm])) <;> (try (have hd_ : True := hd; clear hd_ hd)))
 refine CallK.use (zNode_pager x y m _ ib hm0 (by rw [AHeap.get_alloc_lt lb4]; exact gb4)) ?_
 rintro r H5 ⟨rfl, gb5, hk5, hn5⟩
 have ga5 := hk5 ia _ hab (by rw [AHeap.get_alloc_lt la4]; exact ga4)
 have gs5 := hk5 _ _ hsb (by rw [AHeap.get_alloc_lt ls4]; exact gs4)
 have ls5 := AHeap.lt gs5
 have lb5 := AHeap.lt gb5
 have la5 := AHeap.lt ga5
 ((have hd := trivial; repeat' (first | ((first | apply GdK_st | apply GdK_sf | apply CondK_s) <;> intro hd <;> (try simp only [hd])) | simp (disch := first | assumption | omega | (simp only [nx] <;> omega) | fail) only [hd, hQr, hQn, c3_0, ↓YA, YB, YC, YE, YF, YZ, ↓reduceIte, Nat.reduceEqDiff, Nat.reduceAdd, Nat.reduceMul, Nat.reduceLeDiff, Int.reduceToNat, Int.reduceLE, Int.reduceLT, Int.reduceGT, Int.reduceGE, Int.reduceAdd, Int.reduceSub, Int.reduceNeg, Int.reduceBEq, Int.reduceBNe])) <;> (try (have hd_ : True := hd; clear hd_ hd)))
 (refine CallK.use (zTop_new _ (H.next + 1) (by (try simp only [AHeap.get_bump]); rw [AHeap.get_alloc_lt ls5]; exact gs5)) ?_; rintro _ _ ⟨rfl, k1, rfl⟩)
 ((have hd := trivial; repeat' (first | ((first | apply GdK_st | apply GdK_sf | apply CondK_s) <;> intro hd <;> (try simp only [hd])) | simp (disch := first | assumption | omega | (simp only [nx] <;> omega) | fail) only [hd, hQr, hQn, c3_0, ↓YA, YB, YC, YE, YF, YZ, ↓reduceIte, Nat.reduceEqDiff, Nat.reduceAdd, Nat.reduceMul, Nat.reduceLeDiff, Int.reduceToNat, Int.reduceLE, Int.reduceLT, Int.reduceGT, Int.reduceGE, Int.reduceAdd, Int.reduceSub, Int.reduceNeg, Int.reduceBEq, Int.reduceBNe])) <;> (try (have hd_ : True := hd; clear hd_ hd)))
 (refine CallK.use (zReads_new _ (H.next + 1) (by (try simp only [AHeap.get_bump]); rw [AHeap.get_alloc_lt ls5]; exact gs5)) ?_; rintro _ _ ⟨rfl, k2, rfl⟩)
 ((have hd := trivial; repeat' (first | ((first | apply GdK_st | apply GdK_sf | apply CondK_s) <;> intro hd <;> (try simp only [hd])) | simp (disch := first | assumption | omega | (simp only [nx] <;> omega) | fail) only [hd, hQr, hQn, c3_0, ↓YA, YB, YC, YE, YF, YZ, ↓reduceIte, Nat.reduceEqDiff, Nat.reduceAdd, Nat.reduceMul, Nat.reduceLeDiff, Int.reduceToNat, Int.reduceLE, Int.reduceLT, Int.reduceGT, Int.reduceGE, Int.reduceAdd, Int.reduceSub, Int.reduceNeg, Int.reduceBEq, Int.reduceBNe])) <;> (try (have hd_ : True := hd; clear hd_ hd)))
 (refine CallK.use (zTop_fn _ ia _ _ _ _ _ (by (try simp only [AHeap.get_bump]); rw [AHeap.get_alloc_lt la5]; exact ga5)) ?_; rintro _ _ ⟨rfl, k3, rfl⟩)
 ((have hd := trivial; repeat' (first | ((first | apply GdK_st | apply GdK_sf | apply CondK_s) <;> intro hd <;> (try simp only [hd])) | simp (disch := first | assumption | omega | (simp only [nx] <;> omega) | fail) only [hd, hQr, hQn, c3_0, ↓YA, YB, YC, YE, YF, YZ, ↓reduceIte, Nat.reduceEqDiff, Nat.reduceAdd, Nat.reduceMul, Nat.reduceLeDiff, Int.reduceToNat, Int.reduceLE, Int.reduceLT, Int.reduceGT, Int.reduceGE, Int.reduceAdd, Int.reduceSub, Int.reduceNeg, Int.reduceBEq, Int.reduceBNe])) <;> (try (have hd_ : True := hd; clear hd_ hd)))
 (refine CallK.use (zTop_fn _ ib _ _ _ _ _ (by (try simp only [AHeap.get_bump]); rw [AHeap.get_alloc_lt lb5]; exact gb5)) ?_; rintro _ _ ⟨rfl, k4, rfl⟩)
 ((have hd := trivial; repeat' (first | ((first | apply GdK_st | apply GdK_sf | apply CondK_s) <;> intro hd <;> (try simp only [hd])) | simp (disch := first | assumption | omega | (simp only [nx] <;> omega) | fail) only [hd, hQr, hQn, c3_0, ↓YA, YB, YC, YE, YF, YZ, ↓reduceIte, Nat.reduceEqDiff, Nat.reduceAdd, Nat.reduceMul, Nat.reduceLeDiff, Int.reduceToNat, Int.reduceLE, Int.reduceLT, Int.reduceGT, Int.reduceGE, Int.reduceAdd, Int.reduceSub, Int.reduceNeg, Int.reduceBEq, Int.reduceBNe])) <;> (try (have hd_ : True := hd; clear hd_ hd)))
 (refine CallK.use (awake37 _) ?_; rintro _ _ ⟨rfl, k5, rfl⟩)
 ((have hd := trivial; repeat' (first | ((first | apply GdK_st | apply GdK_sf | apply CondK_s) <;> intro hd <;> (try simp only [hd])) | simp (disch := first | assumption | omega | (simp only [nx] <;> omega) | fail) only [hd, hQr, hQn, c3_0, ↓YA, YB, YC, YE, YF, YZ, ↓reduceIte, Nat.reduceEqDiff, Nat.reduceAdd, Nat.reduceMul, Nat.reduceLeDiff, Int.reduceToNat, Int.reduceLE, Int.reduceLT, Int.reduceGT, Int.reduceGE, Int.reduceAdd, Int.reduceSub, Int.reduceNeg, Int.reduceBEq, Int.reduceBNe])) <;> (try (have hd_ : True := hd; clear hd_ hd)))
 exact fin_keep rfl
theorem sourceNobody_sound (x y : AV) (i : Int) (there : Bool) (H : AHeap) : Sound Tryz.prog 3 [.agg [x, y], .i i, .b there] H fun r _ => r = .b true := by
 cases there
 ·exact srcNobody_no x y i H
 ·exact srcNobody_yes x y i H
def i64Sh : Sh := .int .i64
def shpSh : Sh := .pair (.slice (.slice i64Sh)) (.pair i64Sh .unit)
theorem fits_ints : (Sh.slice i64Sh).Fits Tryz.prog (.inl 46) := ⟨3, Tryz.underlying46, by kernel_rfl, by decide, Tryz.underlying3⟩
theorem fits_intss : (Sh.slice (.slice i64Sh)).Fits Tryz.prog (.inl 22) := ⟨46, Tryz.underlying22, by kernel_rfl, by decide, fits_ints⟩
theorem fits_shp : shpSh.Fits Tryz.prog (.inl 24) :=
 ⟨_, _, Tryz.underlying24, by kernel_rfl, rfl, by kernel_rfl, fits_intss, _, _, rfl, rfl, by kernel_rfl, Tryz.underlying3, rfl⟩
end Go.Proofs.YtnphmekadomaeaaGreatDoor
