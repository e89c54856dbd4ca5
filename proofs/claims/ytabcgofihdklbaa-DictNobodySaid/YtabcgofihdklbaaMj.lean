/- Texts of the walk, joined: J2 J3 J4 J5 Jf J6 J7 J8 J9 Ja Jb. -/
import Derived.Test.YtabcgofihdklbaaMd
import Derived.Test.YtabcgofihdklbaaMz
import Derived.Test.YtabcgofihdklbaaProg
namespace Go.Proofs.Ytabcgofihdklbaa
set_option linter.unusedSimpArgs false
set_option linter.unusedVariables false
open Go.RowKit
def eqT : EqT := ⟨fun _ => none, fun _ => false⟩
def eqTs : EqT := ⟨fun _ => none, fun t => t == 9⟩
theorem hE : ∀ t ks, eqT t = some ks → EqOk Try.prog t ks := fun t ks h => by cases h
theorem hEs : ∀ t ks, eqTs t = some ks → EqOk Try.prog t ks := fun t ks h => by cases h
theorem stable_n {d : Nat} {op : AOp} {F : Fr} {H : AHeap} : AI.stable ⟨none, some d, op⟩ F H = (op.ev F H = some (Fr.get F d, H)) := by
 simp [AI.stable, AI.want]
theorem stable_g {s d : Nat} {t : Bool} {op : AOp} {F : Fr} {H : AHeap} : AI.stable ⟨some (s, t), some d, op⟩ F H = @GdK (Fr.get F s) t ⟨op.ev F H = some (Fr.get F d, H)⟩ ⟨fun _ _ => True⟩ := by
 simp only [AI.stable, AI.want, GdK]
 cases Fr.get F s with
 | sc v =>
  cases v with
  | bool c => cases c <;> cases t <;> simp
  | _ => rfl
 | _ => rfl
theorem stables_nil {F : Fr} {H : AHeap} : (∀ r ∈ ([] : List AI), r.stable F H) = True := by simp
theorem stables_cons {F : Fr} {H : AHeap} {a : AI} {l : List AI} : (∀ r ∈ a :: l, r.stable F H) = (a.stable F H ∧ ∀ r ∈ l, r.stable F H) := by simp
theorem bytes_toList (l : List UInt8) : (⟨l.toArray⟩ : ByteArray).toList = l := by rw [ByteArray.toList_eq]
theorem beq_dec (a b : List UInt8) : (a == b) = decide (a = b) := by rw [Bool.eq_iff_iff]; simp
theorem YE : (∀ {l : List UInt8}, (⟨l.toArray⟩ : ByteArray).toList = l) ∧ (∀ {a b : List UInt8}, Op.bytesLess a b = decide (a < b)) ∧ (∀ {a b : List UInt8}, (a == b) = decide (a = b)) ∧ (∀ {l : List UInt8}, (⟨l.toArray⟩ : ByteArray).size = l.length) ∧ (∀ {α β : Type} {f : α → β} {l : List α} {i : Nat}, (l.map f)[i]? = (l[i]?).map f) ∧ (∀ {α : Type} {l : List α} {i : Nat} (h : i < l.length), l[i]? = some l[i]) ∧
  (∀ {n : Nat}, (0 ≤ (n : Int)) = True) ∧ (∀ {H : AHeap} {i : Nat} {o o' : AObj}, i = H.next → (H.alloc o).set i o' = H.alloc o') ∧
  (∀ {d op F H}, AI.stable ⟨none, some d, op⟩ F H = (op.ev F H = some (Fr.get F d, H))) ∧ (∀ {s d t op F H}, AI.stable ⟨some (s, t), some d, op⟩ F H = @GdK (Fr.get F s) t ⟨op.ev F H = some (Fr.get F d, H)⟩ ⟨fun _ _ => True⟩) ∧
  (∀ {F : Fr} {H : AHeap}, (∀ r ∈ ([] : List AI), r.stable F H) = True) ∧ (∀ {F : Fr} {H : AHeap} {a : AI} {l : List AI}, (∀ r ∈ a :: l, r.stable F H) = (a.stable F H ∧ ∀ r ∈ l, r.stable F H)) :=
 ⟨bytes_toList _, bytesLess_eq _ _, beq_dec _ _, rfl, List.getElem?_map, List.getElem?_eq_getElem, by simp, set_alloc_at, stable_n, stable_g, stables_nil, stables_cons⟩
theorem YZ : True ∧ (0 : Nat) = 0 := ⟨trivial, rfl⟩
def c5_0 : ACode := .seq (.reg [io 6 (.mv (ib false))]) (.seq (.seq (.reg [im 18 0, io 19 (.len true (.t 18)), io 20 (.bin .gtr (.t 19) (ik 100))]) (.cond (.t 20) (.seq (.reg [io 21 (.call (jf 7) []), im 6 21]) .ret) .skip)) (.seq (.reg [io 7 (.mv (.c (.sc (.pointer none))))]) (.seq (.seq (.reg [im 22 2]) (.cond (.t 22) (.reg [io 23 (.bld [.sl .full [], .sc (.bool false)] []), io 24 (.box 45 (.t 23)), im 7 24]) .skip)) (.seq (.reg [im 26 7, im 27 0, io 28 (.call (jf 11) [.t 26, .t 27]), im 25 28, io 29 (.ext (.t 25) 0), io 30 (.ext (.t 25) 1), im 8 29, im 9 30]) (.seq (.reg [im 32 7, im 33 1, io 34 (.call (jf 12) [.t 32, .t 33]), im 31 34, io 35 (.ext (.t 31) 0), io 36 (.ext (.t 31) 1), im 10 35, im 11 36]) (.seq (.reg [im 38 7, im 39 0, io 40 (.bsl 1 [.t 39]), io 41 (.call (jf 19) [.t 38, .t 40]), im 37 41, io 42 (.ext (.t 37) 0), io 43 (.ext (.t 37) 1), im 12 42, im 13 43]) (.seq (.reg [im 45 7, im 46 0, io 47 (.call (jf 20) [.t 45, .c (.sc (.string ⟨#[]⟩)), .t 46]), im 44 47, io 48 (.ext (.t 44) 0), io 49 (.ext (.t 44) 1), im 14 48, im 15 49]) (.seq (.reg [im 51 7, im 52 0, io 53 (.call (jf 21) [.t 51, .t 52]), im 50 53, io 54 (.ext (.t 50) 0), io 55 (.ext (.t 50) 1), im 16 54, im 17 55]) (.seq (.reg [im 56 9, io 57 (.un .not (.t 56)), im 58 57, ig 58 59 (.mv (.t 11)), ig 58 60 (.un .not (.t 59)), io 61 (.pick (.t 58) (.t 60) (ib false)), im 62 61, ig 62 63 (.mv (.t 13)), ig 62 64 (.bin .eql (.t 63) (ik 1)), io 65 (.pick (.t 62) (.t 64) (ib false)), im 66 65, ig 66 67 (.mv (.t 7)), ig 66 68 (.call (jf 15) [.t 67]), ig 66 69 (.mv (.t 7)), ig 66 70 (.call (jf 14) [.t 69]), ig 66 71 (.len false (.t 70)), ig 66 72 (.bin .add (.t 68) (.t 71)), ig 66 73 (.mv (.t 14)), ig 66 74 (.bin .add (.t 72) (.t 73)), ig 66 75 (.mv (.t 15)), ig 66 76 (.bin .add (.t 74) (.t 75)), ig 66 77 (.mv (.t 16)), ig 66 78 (.bin .add (.t 76) (.t 77)), ig 66 79 (.mv (.t 17)), ig 66 80 (.bin .add (.t 78) (.t 79)), ig 66 81 (.bin .eql (.t 80) (ik 0)), io 82 (.pick (.t 66) (.t 81) (ib false)), im 83 82, ig 83 84 (.call (jf 7) []), io 85 (.pick (.t 83) (.t 84) (ib false)), im 6 85]) .ret)))))))))
theorem cf5 : cFn Try.prog eqT 5 = some (c5_0, [(.tmp 6)], 86) := by kernel_rfl
def c7_0 : ACode := .seq (.reg [io 0 (.mv (ib false))]) (.seq (.reg [io 6 (.bsl 1 [.c (.sc (.string ⟨#[98]⟩)), .c (.sc (.string ⟨#[97]⟩)), .c (.sc (.string ⟨#[98]⟩))]), io 7 (.call (jf 8) [.t 6]), im 5 7, io 8 (.ext (.t 5) 0), io 9 (.ext (.t 5) 1), im 1 8, im 2 9]) (.seq (.reg [im 11 1, io 12 (.call (jf 11) [.t 11, .c (.sc (.string ⟨#[98]⟩))]), im 10 12, io 13 (.ext (.t 10) 0), io 14 (.ext (.t 10) 1), im 3 13, im 4 14]) (.seq (.reg [im 15 2, io 16 (.bin .eql (.t 15) (ik 0)), im 17 16, ig 17 18 (.mv (.t 3)), ig 17 19 (.bin .eql (.t 18) (ik 1)), io 20 (.pick (.t 17) (.t 19) (ib false)), im 21 20, ig 21 22 (.mv (.t 4)), io 23 (.pick (.t 21) (.t 22) (ib false)), im 24 23, ig 24 25 (.mv (.t 1)), ig 24 26 (.call (jf 14) [.t 25]), ig 24 27 (.bsl 1 [.c (.sc (.string ⟨#[97]⟩)), .c (.sc (.string ⟨#[98]⟩))]), ig 24 28 (.call (jf 13) [.t 26, .t 27]), io 29 (.pick (.t 24) (.t 28) (ib false)), im 0 29]) .ret)))
theorem cf7 : cFn Try.prog eqT 7 = some (c7_0, [(.tmp 0)], 30) := by kernel_rfl
def c8_1 : ACode := .blk 0 (.loop (.seq (.reg [io 11 (.bin .lss (.t 10) (.t 9))]) (.seq (.cond (.t 11) .skip (.exit 0)) (.seq (.blk 1 (.seq (.reg [io 12 (.ixa 1 (.t 8) (.t 10)), io 13 (.ld 1 false (.t 12)), im 5 13]) (.seq (.reg [im 14 5, io 15 (.call (jf 23) [.t 14]), im 6 15]) (.seq (.reg [im 16 6, io 17 (.bin .neq (.t 16) (ik 0))]) (.cond (.t 17) (.seq (.reg [im 18 6, io 2 (.mv (.c (.sc (.pointer none)))), im 3 18]) .ret) .skip))))) (.reg [io 19 (.bin .add (.t 10) (ik 1)), im 10 19])))))
def c8_0 : ACode := .seq (.reg [io 2 (.mv (.c (.sc (.pointer none)))), jm 3 0]) (.seq (.seq (.reg [im 8 0, io 9 (.len false (.t 8)), jm 10 0]) c8_1) (.seq (.reg [im 20 0, io 21 (.call (jf 24) [.t 20]), im 7 21]) (.seq (.reg [im 22 7, io 23 (.call (jf 25) [.t 22])]) (.seq (.reg [im 24 7, io 25 (.call (jf 26) [.t 24]), im 7 25]) (.seq (.seq (.reg [im 26 7, io 27 (.len false (.t 26)), io 28 (.bin .gtr (.t 27) (ik 200))]) (.cond (.t 28) (.seq (.reg [io 2 (.mv (.c (.sc (.pointer none)))), jm 3 5]) .ret) .skip)) (.seq (.reg [im 29 7, io 30 (.bld [.sl .full [], .sc (.bool false)] [(0, (1, .t 29)), (1, (1, ib true))]), io 31 (.box 45 (.t 30)), im 2 31, jm 3 0]) .ret))))))
theorem cf8 : cFn Try.prog eqT 8 = some (c8_0, [(.tmp 2), (.tmp 3)], 32) := by kernel_rfl
def c11_0 : ACode := .seq (.reg [jm 4 0, io 5 (.mv (ib false))]) (.seq (.seq (.reg [im 8 0, io 9 (.eqn 0 false (.t 8) (.c (.sc (.pointer none))))]) (.cond (.t 9) (.seq (.reg [jm 4 0, io 5 (.mv (ib false))]) .ret) .skip)) (.seq (.reg [im 11 0, io 12 (.nck (.t 11)), io 13 (.fla 0 (.t 12)), io 14 (.ld 1 false (.t 13)), im 15 1, io 16 (.call (jf 29) [.t 14, .t 15]), im 10 16, io 17 (.ext (.t 10) 0), io 18 (.ext (.t 10) 1), im 6 17, im 7 18]) (.seq (.seq (.reg [im 19 7, io 20 (.un .not (.t 19))]) (.cond (.t 20) (.seq (.reg [jm 4 0, io 5 (.mv (ib false))]) .ret) .skip)) (.seq (.reg [im 21 6, im 4 21, io 5 (.mv (ib true))]) .ret))))
theorem cf11 : cFn Try.prog eqT 11 = some (c11_0, [(.tmp 4), (.tmp 5)], 22) := by kernel_rfl
def c12_0 : ACode := .seq (.reg [io 4 (.mv (.c (.sc (.string ⟨#[]⟩)))), io 5 (.mv (ib false))]) (.seq (.seq (.reg [im 6 1, io 7 (.bin .lss (.t 6) (ik 0)), im 8 7, ih 8 9 (.mv (.t 1)), ih 8 10 (.mv (.t 0)), ih 8 11 (.call (jf 15) [.t 10]), ih 8 12 (.bin .geq (.t 9) (.t 11)), io 13 (.pick (.t 8) (ib true) (.t 12))]) (.cond (.t 13) (.seq (.reg [io 4 (.mv (.c (.sc (.string ⟨#[]⟩)))), io 5 (.mv (ib false))]) .ret) .skip)) (.seq (.reg [im 14 0, io 15 (.nck (.t 14)), io 16 (.fla 0 (.t 15)), io 17 (.ld 1 false (.t 16)), im 18 1, io 19 (.ixa 1 (.t 17) (.t 18)), io 20 (.ld 1 false (.t 19)), im 4 20, io 5 (.mv (ib true))]) .ret))
theorem cf12 : cFn Try.prog eqT 12 = some (c12_0, [(.tmp 4), (.tmp 5)], 21) := by kernel_rfl
def c13_1 : ACode := .blk 0 (.loop (.seq (.reg [io 14 (.bin .lss (.t 13) (.t 12))]) (.seq (.cond (.t 14) .skip (.exit 0)) (.seq (.blk 1 (.seq (.reg [im 15 13, im 5 15]) (.seq (.drw [ip (im 16 0), ip (im 17 5), ip (io 18 (.ixa 1 (.t 16) (.t 17))), ip (io 19 (.ld 1 false (.t 18))), ip (im 20 1), ip (im 21 5), ip (io 22 (.ixa 1 (.t 20) (.t 21))), ip (io 23 (.ld 1 false (.t 22))), ip (io 24 (.bin .neq (.t 19) (.t 23)))]) (.cond (.t 24) (.seq (.reg [io 4 (.mv (ib false))]) .ret) .skip)))) (.reg [io 25 (.bin .add (.t 13) (ik 1)), im 13 25])))))
def c13_0 : ACode := .seq (.reg [io 4 (.mv (ib false))]) (.seq (.seq (.reg [im 6 0, io 7 (.len false (.t 6)), im 8 1, io 9 (.len false (.t 8)), io 10 (.bin .neq (.t 7) (.t 9))]) (.cond (.t 10) (.seq (.reg [io 4 (.mv (ib false))]) .ret) .skip)) (.seq (.seq (.reg [im 11 0, io 12 (.len false (.t 11)), jm 13 0]) c13_1) (.seq (.reg [io 4 (.mv (ib true))]) .ret)))
theorem cf13 : cFn Try.prog eqT 13 = some (c13_0, [(.tmp 4)], 26) := by kernel_rfl
def c14_0 : ACode := .seq (.reg [io 2 (.mv jn)]) (.seq (.seq (.reg [im 3 0, io 4 (.eqn 0 false (.t 3) (.c (.sc (.pointer none))))]) (.cond (.t 4) (.seq (.reg [io 2 (.mv jn)]) .ret) .skip)) (.seq (.reg [im 5 0, io 6 (.nck (.t 5)), io 7 (.fla 0 (.t 6)), io 8 (.ld 1 false (.t 7)), io 9 (.call (jf 24) [.t 8]), im 2 9]) .ret))
theorem cf14 : cFn Try.prog eqT 14 = some (c14_0, [(.tmp 2)], 10) := by kernel_rfl
def c15_0 : ACode := .seq (.reg [jm 2 0]) (.seq (.seq (.reg [im 3 0, io 4 (.eqn 0 false (.t 3) (.c (.sc (.pointer none))))]) (.cond (.t 4) (.seq (.reg [jm 2 0]) .ret) .skip)) (.seq (.reg [im 5 0, io 6 (.nck (.t 5)), io 7 (.fla 0 (.t 6)), io 8 (.ld 1 false (.t 7)), io 9 (.len false (.t 8)), im 2 9]) .ret))
theorem cf15 : cFn Try.prog eqT 15 = some (c15_0, [(.tmp 2)], 10) := by kernel_rfl
def c19_1 : ACode := .blk 0 (.loop (.seq (.reg [io 26 (.bin .lss (.t 25) (.t 24))]) (.seq (.cond (.t 26) .skip (.exit 0)) (.seq (.blk 1 (.seq (.reg [io 27 (.ixa 1 (.t 23) (.t 25)), io 28 (.ld 1 false (.t 27)), im 9 28]) (.seq (.reg [im 30 6, im 31 9, io 32 (.call (.t 30) [.t 31]), im 29 32, io 33 (.ext (.t 29) 0), io 34 (.ext (.t 29) 1), im 10 33, im 11 34]) (.seq (.seq (.reg [im 35 11, io 36 (.un .not (.t 35))]) (.cond (.t 36) (.seq (.reg [io 4 (.mv jn), jm 5 13]) .ret) .skip)) (.reg [im 37 7, im 38 10, io 39 (.bsl 1 [.t 38]), io 40 (.app 3 1 8 (.t 37) (.t 39)), im 7 40]))))) (.reg [io 41 (.bin .add (.t 25) (ik 1)), im 25 41])))))
def c19_0 : ACode := .seq (.reg [io 4 (.mv jn), jm 5 0]) (.seq (.seq (.reg [im 12 0, io 13 (.eqn 0 false (.t 12) (.c (.sc (.pointer none)))), im 14 13, ih 14 15 (.mv (.t 0)), ih 14 16 (.nck (.t 15)), ih 14 17 (.fla 1 (.t 16)), ih 14 18 (.ld 1 false (.t 17)), ih 14 19 (.un .not (.t 18)), io 20 (.pick (.t 14) (ib true) (.t 19))]) (.cond (.t 20) (.seq (.reg [io 4 (.mv jn), jm 5 1]) .ret) .skip)) (.seq (.reg [im 21 0, io 22 (.mkf 11 [.t 21] []), im 6 22]) (.seq (.reg [io 7 (.mv jn)]) (.seq (.seq (.reg [im 23 1, io 24 (.len false (.t 23)), jm 25 0]) c19_1) (.seq (.reg [im 42 7, im 4 42, jm 5 0]) .ret)))))
theorem cf19 : cFn Try.prog eqT 19 = some (c19_0, [(.tmp 4), (.tmp 5)], 43) := by kernel_rfl
def c20_0 : ACode := .seq (.reg [jm 6 0, jm 7 0]) (.seq (.seq (.reg [im 8 0, io 9 (.eqn 0 false (.t 8) (.c (.sc (.pointer none))))]) (.cond (.t 9) (.seq (.reg [jm 6 0, jm 7 0]) .ret) .skip)) (.seq (.reg [im 10 0, io 11 (.nck (.t 10)), io 12 (.fla 0 (.t 11)), io 13 (.ld 1 false (.t 12)), im 14 1, im 15 2, io 16 (.call (jf 30) [.t 13, .t 14, .t 15]), io 17 (.ext (.t 16) 0), io 18 (.ext (.t 16) 1), im 6 17, im 7 18]) .ret))
theorem cf20 : cFn Try.prog eqT 20 = some (c20_0, [(.tmp 6), (.tmp 7)], 19) := by kernel_rfl
def c21_1 : ACode := .blk 0 (.loop (.seq (.seq (.reg [im 8 6, im 9 0, io 10 (.call (jf 15) [.t 9]), io 11 (.bin .lss (.t 8) (.t 10)), im 12 11, ig 12 13 (.mv (.t 0)), ig 12 14 (.nck (.t 13)), ig 12 15 (.fla 0 (.t 14)), ig 12 16 (.ld 1 false (.t 15)), ig 12 17 (.mv (.t 6)), ig 12 18 (.ixa 1 (.t 16) (.t 17)), ig 12 19 (.ld 1 false (.t 18)), ig 12 20 (.mv (.t 1)), ig 12 21 (.bin .lss (.t 19) (.t 20)), io 22 (.pick (.t 12) (.t 21) (ib false))]) (.cond (.t 22) .skip (.exit 0))) (.blk 1 (.reg [im 23 6, io 24 (.bin .add (.t 23) (ik 1)), im 6 24]))))
def c21_2 : ACode := .blk 2 (.loop (.seq (.seq (.reg [im 26 7, im 27 0, io 28 (.call (jf 15) [.t 27]), io 29 (.bin .lss (.t 26) (.t 28)), im 30 29, ig 30 31 (.mv (.t 0)), ig 30 32 (.nck (.t 31)), ig 30 33 (.fla 0 (.t 32)), ig 30 34 (.ld 1 false (.t 33)), ig 30 35 (.mv (.t 7)), ig 30 36 (.ixa 1 (.t 34) (.t 35)), ig 30 37 (.ld 1 false (.t 36)), ig 30 38 (.mv (.t 1)), ig 30 39 (.call (jf 31) [.t 37, .t 38]), io 40 (.pick (.t 30) (.t 39) (ib false))]) (.cond (.t 40) .skip (.exit 2))) (.blk 3 (.reg [im 41 7, io 42 (.bin .add (.t 41) (ik 1)), im 7 42]))))
def c21_0 : ACode := .seq (.reg [jm 4 0, jm 5 0]) (.seq (.reg [jm 6 0]) (.seq c21_1 (.seq (.reg [im 25 6, im 7 25]) (.seq c21_2 (.seq (.reg [im 43 6, im 44 7, im 4 43, im 5 44]) .ret)))))
theorem cf21 : cFn Try.prog eqT 21 = some (c21_0, [(.tmp 4), (.tmp 5)], 45) := by kernel_rfl
def c23_0 : ACode := .seq (.reg [jm 2 0]) (.seq (.seq (.reg [im 3 0, io 4 (.bin .eql (.t 3) (.c (.sc (.string ⟨#[]⟩)))), im 5 4, ih 5 6 (.mv (.t 0)), ih 5 7 (.len true (.t 6)), ih 5 8 (.bin .gtr (.t 7) (ik 16)), io 9 (.pick (.t 5) (ib true) (.t 8))]) (.cond (.t 9) (.seq (.reg [jm 2 2]) .ret) .skip)) (.seq (.reg [jm 2 0]) .ret))
theorem cf23 : cFn Try.prog eqT 23 = some (c23_0, [(.tmp 2)], 10) := by kernel_rfl
def c24_0 : ACode := .seq (.reg [io 2 (.mv jn)]) (.seq (.seq (.reg [im 3 0, io 4 (.eqs false (.t 3))]) (.cond (.t 4) (.seq (.reg [io 2 (.mv jn)]) .ret) .skip)) (.seq (.reg [io 5 (.bsl 1 []), im 6 0, io 7 (.app 9 1 16 (.t 5) (.t 6)), im 2 7]) .ret))
theorem cf24 : cFn Try.prog eqT 24 = some (c24_0, [(.tmp 2)], 8) := by kernel_rfl
def c29_0 : ACode := .seq (.reg [jm 4 0, io 5 (.mv (ib false))]) (.seq (.reg [im 6 0, im 7 1, io 8 (.call (jf 34) [.t 6, .t 7]), io 9 (.ext (.t 8) 0), io 10 (.ext (.t 8) 1), im 4 9, im 5 10]) .ret)
theorem cf29 : cFn Try.prog eqT 29 = some (c29_0, [(.tmp 4), (.tmp 5)], 11) := by kernel_rfl
def c30_0 : ACode := .seq (.reg [jm 6 0, jm 7 0]) (.seq (.reg [im 13 0, im 14 1, io 15 (.call (jf 29) [.t 13, .t 14]), im 12 15, io 16 (.ext (.t 12) 0), io 17 (.ext (.t 12) 1), im 8 16, im 9 17]) (.seq (.reg [im 19 0, im 20 2, io 21 (.call (jf 29) [.t 19, .t 20]), im 18 21, io 22 (.ext (.t 18) 0), io 23 (.ext (.t 18) 1), im 10 22, im 11 23]) (.seq (.seq (.reg [im 24 11]) (.cond (.t 24) (.reg [im 25 10, io 26 (.bin .add (.t 25) (ik 1)), im 10 26]) .skip)) (.seq (.reg [im 27 8, im 28 10, io 29 (.mm false (.t 27) (.t 28)), im 30 10, im 6 29, im 7 30]) .ret))))
theorem cf30 : cFn Try.prog eqT 30 = some (c30_0, [(.tmp 6), (.tmp 7)], 31) := by kernel_rfl
def c34_1 : ACode := .blk 0 (.loop (.seq (.seq (.reg [im 13 7, im 14 8, io 15 (.bin .lss (.t 13) (.t 14))]) (.cond (.t 15) .skip (.exit 0))) (.blk 1 (.seq (.reg [im 16 7, im 17 8, io 18 (.bin .add (.t 16) (.t 17)), io 19 (.cnv .u64 (.t 18)), io 20 (.bin .shr (.t 19) (.c (.sc (.int .u64 1)))), io 21 (.cnv .i64 (.t 20)), im 9 21]) (.seq (.reg [im 22 0, im 23 9, io 24 (.ixa 1 (.t 22) (.t 23)), io 25 (.ld 1 false (.t 24)), im 26 1, io 27 (.call (jf 42) [.t 25, .t 26])]) (.cond (.t 27) (.reg [im 28 9, io 29 (.bin .add (.t 28) (ik 1)), im 7 29]) (.reg [im 30 9, im 8 30])))))))
def c34_0 : ACode := .seq (.reg [jm 4 0, io 5 (.mv (ib false))]) (.seq (.reg [im 10 0, io 11 (.len false (.t 10)), im 6 11]) (.seq (.reg [im 12 6, jm 7 0, im 8 12]) (.seq c34_1 (.seq (.reg [im 31 7, im 32 7, im 33 6, io 34 (.bin .lss (.t 32) (.t 33)), im 35 34, ig 35 36 (.mv (.t 0)), ig 35 37 (.mv (.t 7)), ig 35 38 (.ixa 1 (.t 36) (.t 37)), ig 35 39 (.ld 1 false (.t 38)), ig 35 40 (.mv (.t 1)), ig 35 41 (.bin .eql (.t 39) (.t 40)), ig 35 42 (.mv (.t 41)), ih 42 43 (.mv (.t 0)), ih 42 44 (.mv (.t 7)), ih 42 45 (.ixa 1 (.t 43) (.t 44)), ih 42 46 (.ld 1 false (.t 45)), ih 42 47 (.call (jf 47) [.t 46]), ih 42 48 (.mv (.t 47)), ig 48 49 (.mv (.t 1)), ig 48 50 (.call (jf 47) [.t 49]), ih 42 51 (.pick (.t 48) (.t 50) (ib false)), ig 35 52 (.pick (.t 42) (ib true) (.t 51)), io 53 (.pick (.t 35) (.t 52) (ib false)), im 4 31, im 5 53]) .ret))))
theorem cf34 : cFn Try.prog eqT 34 = some (c34_0, [(.tmp 4), (.tmp 5)], 54) := by kernel_rfl
def c42_0 : ACode := .seq (.reg [io 4 (.mv (ib false))]) (.seq (.reg [im 5 0, io 6 (.call (jf 53) [.t 5]), im 7 6, ig 7 8 (.mv (.t 1)), ig 7 9 (.call (jf 53) [.t 8]), ig 7 10 (.un .not (.t 9)), io 11 (.pick (.t 7) (.t 10) (ib false)), im 12 11, ih 12 13 (.mv (.t 0)), ih 12 14 (.mv (.t 1)), ih 12 15 (.bin .lss (.t 13) (.t 14)), io 16 (.pick (.t 12) (ib true) (.t 15)), im 4 16]) .ret)
theorem cf42 : cFn Try.prog eqT 42 = some (c42_0, [(.tmp 4)], 17) := by kernel_rfl
def c47_0 : ACode := .seq (.reg [io 2 (.mv (ib false))]) (.seq (.reg [im 3 0, im 4 0, io 5 (.bin .neq (.t 3) (.t 4)), im 2 5]) .ret)
theorem cf47 : cFn Try.prog eqT 47 = some (c47_0, [(.tmp 2)], 6) := by kernel_rfl
def c53_0 : ACode := .seq (.reg [io 2 (.mv (ib false))]) (.seq (.reg [im 3 0, im 4 0, io 5 (.bin .neq (.t 3) (.t 4)), im 2 5]) .ret)
theorem cf53 : cFn Try.prog eqT 53 = some (c53_0, [(.tmp 2)], 6) := by kernel_rfl
def v24_0 : ACode := .seq (.reg [io 2 (.mv jn)]) (.seq (.seq (.reg [im 3 0, io 4 (.eqs false (.t 3))]) (.cond (.t 4) (.seq (.reg [io 2 (.mv jn)]) .ret) .skip)) (.seq (.reg [io 5 (.bsv 9 1 []), im 6 0, io 7 (.apv 9 1 16 [.sc (.string ⟨#[]⟩)] (.t 5) (.t 6)), im 2 7]) .ret))
theorem vf24 : cFn Try.prog eqTs 24 = some (v24_0, [(.tmp 2)], 8) := by kernel_rfl
abbrev Tx := List UInt8
abbrev rS (l : List Tx) : List (List AV) := l.map fun s => [eS s]
theorem AV_i {a b : Int} (h : a = b) : AV.i a = AV.i b := by rw [h]
theorem eqlen_ne {a b : Nat} (h : ((a : Int) != (b : Int)) = true) : a ≠ b := by intro e; subst e; simp at h
theorem eqlen_eq {a b : Nat} (h : ((a : Int) != (b : Int)) = false) : a = b := by simp at h; omega
def allZip {α : Type} (e : α → α → Bool) : List α → List α → Bool
 | [], [] => true
 | a :: l, b :: m => e a b && allZip e l m
 | _, _ => false
theorem allZip_ne {α : Type} {e : α → α → Bool} : ∀ {l m : List α}, l.length ≠ m.length → allZip e l m = false
 | [], [], h => absurd rfl h
 | [], _ :: _, _ => rfl
 | _ :: _, [], _ => rfl
 | a :: l, b :: m, h => by
  simp only [allZip, allZip_ne (l := l) (m := m) (by simpa using h), Bool.and_false]
theorem allZip_drop {α : Type} {e : α → α → Bool} {l m : List α} {k : Nat} (h : k < l.length) (h2 : k < m.length) : allZip e (l.drop k) (m.drop k) = (e l[k] m[k] && allZip e (l.drop (k + 1)) (m.drop (k + 1))) := by
 rw [List.drop_eq_getElem_cons h, List.drop_eq_getElem_cons h2]; rfl
theorem allZip_end {α : Type} {e : α → α → Bool} {l m : List α} {k : Nat} (h : l.length ≤ k) (h2 : m.length ≤ k) : allZip e (l.drop k) (m.drop k) = true := by
 rw [List.drop_of_length_le h, List.drop_of_length_le h2]; rfl
theorem allZip_eq {α : Type} [DecidableEq α] : ∀ {l m : List α}, allZip (fun a b => decide (a = b)) l m = decide (l = m)
 | [], [] => by simp [allZip]
 | [], _ :: _ => by simp [allZip]
 | _ :: _, [] => by simp [allZip]
 | a :: l, b :: m => by rw [Bool.eq_iff_iff]; simp [allZip, allZip_eq (l := l) (m := m)]
theorem texts_sound (t u : Tok) (a b : List Tx) (H : AHeap) (hl : a.length ≤ 1000000) : Sound Try.prog 13 [.sl t (rS a), .sl u (rS b)] H (Pure H (.b (decide (a = b)))) := by
 rw [← allZip_eq]
 refine fn_soundQ hE cf13 (Nat.le_of_ble_eq_true rfl) fun Q hQr hQn => ?_
 ((have hd := trivial; repeat' (first | ((first | apply GdK_st | apply GdK_sf | apply CondK_s) <;> intro hd <;> (try simp only [hd])) | simp (disch := first | assumption | omega | (simp only [nx] <;> omega) | fail) only [hd, hQr, hQn, c13_0, ↓YA, YB, YC, YE, YF, YZ, ↓reduceIte, Nat.reduceEqDiff, Nat.reduceAdd, Nat.reduceMul, Nat.reduceLeDiff, Int.reduceToNat, Int.reduceLE, Int.reduceLT, Int.reduceGT, Int.reduceGE, Int.reduceAdd, Int.reduceSub, Int.reduceNeg, Int.reduceBEq, Int.reduceBNe, List.length_map])) <;> (try (have hd_ : True := hd; clear hd_ hd)))
 ·refine fin_bA (by rw [allZip_ne (eqlen_ne hd)])
 ·have hab := eqlen_eq hd
  generalize hT : allZip (fun x y => decide (x = y)) a b = T at *
  refine AW_for [0, 1, 12] (σ := Unit) (fun (k : Nat) s => T = allZip (fun x y => decide (x = y)) (a.drop k) (b.drop k)) (fun k s => []) (fun k s => []) () (GStep.refl _ _) (by simp only [keep_nil, keep_cons, Fr.put, Fr.get, ↓reduceIte, Nat.reduceEqDiff]; rfl) (by intro k s; rfl) (by intro k s; rfl) (by rfl) (by unfold maxLen; omega) ?_ (by simp only [FrL_nil]) (by simp only [ObjL_nil]) ?_ ?_
  ·exact hT.symm
  ·(rintro k s G hk ht hG hn; try simp only [nx] at hn)
   have hk2 : k < b.length := hab ▸ hk
   rw [allZip_drop hk hk2] at ht
   ((have hd := trivial; repeat' (first | ((first | apply GdK_st | apply GdK_sf | apply CondK_s) <;> intro hd <;> (try simp only [hd])) | simp (disch := first | assumption | omega | (simp only [nx] <;> omega) | fail) only [hd, hQr, hQn, c13_0, ↓YA, YB, YC, YE, YF, YZ, ↓reduceIte, Nat.reduceEqDiff, Nat.reduceAdd, Nat.reduceMul, Nat.reduceLeDiff, Int.reduceToNat, Int.reduceLE, Int.reduceLT, Int.reduceGT, Int.reduceGE, Int.reduceAdd, Int.reduceSub, Int.reduceNeg, Int.reduceBEq, Int.reduceBNe, List.length_map])) <;> (try (have hd_ : True := hd; clear hd_ hd)))
   ·refine fin_bA (by grind)
   ·refine ⟨(), by grind, by exact HXT⟩
  ·(rintro s G ht hG hn; try simp only [nx] at hn)
   ((have hd := trivial; repeat' (first | ((first | apply GdK_st | apply GdK_sf | apply CondK_s) <;> intro hd <;> (try simp only [hd])) | simp (disch := first | assumption | omega | (simp only [nx] <;> omega) | fail) only [hd, hQr, hQn, c13_0, ↓YA, YB, YC, YE, YF, YZ, ↓reduceIte, Nat.reduceEqDiff, Nat.reduceAdd, Nat.reduceMul, Nat.reduceLeDiff, Int.reduceToNat, Int.reduceLE, Int.reduceLT, Int.reduceGT, Int.reduceGE, Int.reduceAdd, Int.reduceSub, Int.reduceNeg, Int.reduceBEq, Int.reduceBNe, List.length_map])) <;> (try (have hd_ : True := hd; clear hd_ hd)))
   refine fin_bA (by rw [ht, allZip_end (Nat.le_refl _) (by omega)])
def isT (s : Tx) : Bool := decide ((s.length : Int) ≥ 1) && decide ((s.length : Int) ≤ 16)
theorem check_sound (s : Tx) (H : AHeap) : Sound Try.prog 23 [eS s] H (Pure H (.i (if isT s = true then 0 else 2))) := by
 unfold isT
 cases s with
 | nil =>
  refine fn_soundQ hE cf23 (Nat.le_of_ble_eq_true rfl) fun Q hQr hQn => ?_
  ((have hd := trivial; repeat' (first | ((first | apply GdK_st | apply GdK_sf | apply CondK_s) <;> intro hd <;> (try simp only [hd])) | simp (disch := first | assumption | omega | (simp only [nx] <;> omega) | fail) only [hd, hQr, hQn, c23_0, ↓YA, YB, YC, YE, YF, YZ, ↓reduceIte, Nat.reduceEqDiff, Nat.reduceAdd, Nat.reduceMul, Nat.reduceLeDiff, Int.reduceToNat, Int.reduceLE, Int.reduceLT, Int.reduceGT, Int.reduceGE, Int.reduceAdd, Int.reduceSub, Int.reduceNeg, Int.reduceBEq, Int.reduceBNe])) <;> (try (have hd_ : True := hd; clear hd_ hd)))
  refine fin_iA (by rfl)
 | cons a r =>
  have d0 : decide (a :: r = []) = false := by simp
  refine fn_soundQ hE cf23 (Nat.le_of_ble_eq_true rfl) fun Q hQr hQn => ?_
  ((have hd := trivial; repeat' (first | ((first | apply GdK_st | apply GdK_sf | apply CondK_s) <;> intro hd <;> (try simp only [hd])) | simp (disch := first | assumption | omega | (simp only [nx] <;> omega) | fail) only [hd, hQr, hQn, c23_0, ↓YA, YB, YC, YE, YF, YZ, ↓reduceIte, Nat.reduceEqDiff, Nat.reduceAdd, Nat.reduceMul, Nat.reduceLeDiff, Int.reduceToNat, Int.reduceLE, Int.reduceLT, Int.reduceGT, Int.reduceGE, Int.reduceAdd, Int.reduceSub, Int.reduceNeg, Int.reduceBEq, Int.reduceBNe, d0])) <;> (try (have hd_ : True := hd; clear hd_ hd)))
  ·refine fin_iA (by rw [if_neg]; simp at hd ⊢; omega)
  ·refine fin_iA (by rw [if_pos]; simp at hd ⊢; omega)
def belowT (l : List Tx) (s : Tx) : Nat := (l.filter fun x => decide (x < s)).length
@[simp] theorem belowT_nil (s : Tx) : belowT [] s = 0 := rfl
theorem belowT_le (l : List Tx) (s : Tx) : belowT l s ≤ l.length := List.length_filter_le _ _
def insT (out : List Tx) (s : Tx) : List Tx := if s ∈ out then out else out.take (belowT out s) ++ s :: out.drop (belowT out s)
def sortT (l : List Tx) : List Tx := l.foldl insT []
theorem allLen_rS (l : List Tx) : allLen 1 (rS l) = true := allLen_map (f := fun s => [eS s]) (fun _ => rfl) l
theorem get_of_len {α : Type} {l m : List α} (hl : l.length = m.length) {i : Nat} {y : α} (h : m[i]? = some y) : ∃ x, l[i]? = some x := by
 have := (List.getElem?_eq_some_iff.1 h).1
 exact ⟨l[i]'(by omega), List.getElem?_eq_getElem (by omega)⟩
theorem chunk_get (sz : Nat) : ∀ (n : Nat) (cs : List AV) (i j : Nat) (r : List AV) (x : AV), n * sz ≤ cs.length → (chunk sz n cs)[i]? = some r → r[j]? = some x → i < n ∧ j < sz ∧ r.length = sz ∧ cs[i * sz + j]? = some x
 | 0, cs, i, j, r, x, _, h, _ => by simp [chunk] at h
 | n + 1, cs, i, j, r, x, hl, h, hx => by
  have e : (n + 1) * sz = n * sz + sz := by rw [Nat.add_mul]; omega
  cases i with
  | zero =>
   simp [chunk] at h
   subst h
   have h1 : j < (cs.take sz).length := (List.getElem?_eq_some_iff.1 hx).1
   have h2 : (cs.take sz).length = sz := by simp; omega
   refine ⟨by omega, by omega, h2, ?_⟩
   rw [List.getElem?_take] at hx
   rw [if_pos (by omega)] at hx
   simpa using hx
  | succ i =>
   simp [chunk] at h
   obtain ⟨h1, h2, h3, h4⟩ := chunk_get sz n (cs.drop sz) i j r x (by simp; omega) h hx
   refine ⟨by omega, h2, h3, ?_⟩
   rw [List.getElem?_drop] at h4
   rw [← h4]
   congr 1
   rw [Nat.add_mul]; omega
def AHeap.dels (H : AHeap) (D : Nat → Bool) : AHeap := ⟨fun i => bif D i then none else H.get i, H.next, fun i hi => by rw [H.wf i hi]; cases D i <;> rfl⟩
theorem dels_get {H : AHeap} {D : Nat → Bool} {i : Nat} (h : D i = false) : (H.dels D).get i = H.get i := by simp [AHeap.dels, h]
inductive Frz (H : AHeap) (D : Nat → Bool) : AV → AV → Prop
 | refl (a : AV) : Frz H D a a
 | arr (id off sz len cap E : Nat) (cs : List AV) (rows' : List (List AV)) (hd : D id = true) (ho : H.get id = some (.cells cs E)) (hb : off + len * sz ≤ cs.length) (hl : rows'.length = len)
   (h1 : ∀ (i : Nat) (r r' : List AV), (chunk sz len (cs.drop off))[i]? = some r → rows'[i]? = some r' → r.length = r'.length)
   (h2 : ∀ (i : Nat) (r r' : List AV) (j : Nat) (x y : AV), (chunk sz len (cs.drop off))[i]? = some r → rows'[i]? = some r' → r[j]? = some x → r'[j]? = some y → Frz H D x y) : Frz H D (.arr id off len cap) (.sl .no rows')
 | sl (t : Tok) (rows rows' : List (List AV)) (hl : rows.length = rows'.length) (h1 : ∀ (i : Nat) (r r' : List AV), rows[i]? = some r → rows'[i]? = some r' → r.length = r'.length)
   (h2 : ∀ (i : Nat) (r r' : List AV) (j : Nat) (x y : AV), rows[i]? = some r → rows'[i]? = some r' → r[j]? = some x → r'[j]? = some y → Frz H D x y) : Frz H D (.sl t rows) (.sl .no rows')
 | agg (cs cs' : List AV) (hl : cs.length = cs'.length) (h : ∀ (i : Nat) (x y : AV), cs[i]? = some x → cs'[i]? = some y → Frz H D x y) : Frz H D (.agg cs) (.agg cs')
 | tup (cs cs' : List AV) (hl : cs.length = cs'.length) (h : ∀ (i : Nat) (x y : AV), cs[i]? = some x → cs'[i]? = some y → Frz H D x y) : Frz H D (.tup cs) (.tup cs')
section
variable {g : Gh} {H : AHeap} {w : World} {D : Nat → Bool}
theorem Frz.one {a b : AV} (h : Frz H D a b) : a.one = b.one := by cases h <;> rfl
def Gh.frz (g : Gh) (H : AHeap) (D : Nat → Bool) : Gh := { g with RO := fun b j => g.RO b j ∨ ∃ id cs E, D id = true ∧ H.get id = some (.cells cs E) ∧ g.ι id = some b ∧ j < cs.length }
theorem frz_le : g.le (g.frz H D) w w := ⟨fun _ _ h => h, fun _ _ _ _ h => ⟨_, _, _, h, .inr ⟨rfl, rfl, rfl⟩⟩, fun _ _ _ h => h, fun _ _ h => .inl h, fun _ _ _ => rfl⟩
theorem VR.frz {a b : AV} {v : Value} (hf : Frz H D a b) (hW : WR g H w) (h : VR g w a v) : VR (g.frz H D) w b v := by
 induction hf generalizing v with
 | refl a => exact h.mono frz_le
 | arr id off sz len cap E cs rows' hd ho hb hl h1 h2 ih =>
  cases h with
  | arr _ _ _ _ b hi hc hm =>
   obtain ⟨b', carr, hi', hblk, hcs, hone, _⟩ := hW.obj id _ ho
   rw [hi] at hi'
   injection hi' with hi'
   subst hi'
   have hk := chunk_flat sz len (cs.drop off) (by simp; omega)
   have key : ∀ i r' j y, rows'[i]? = some r' → r'[j]? = some y → ∃ (x : AV) (u : Value), y.one = x.one ∧ w.cell? ⟨b, off + i * sz + j, none⟩ = some u ∧ off + i * sz + j < cs.length ∧ VR (g.frz H D) w y u := fun i r' j y hr' hy => by
    obtain ⟨r, hr⟩ := get_of_len (l := chunk sz len (cs.drop off)) (m := rows') (by rw [hk.2.1, hl]) hr'
    obtain ⟨x, hx⟩ := get_of_len (h1 i r r' hr hr') hy
    obtain ⟨c1, c2, c3, c4⟩ := chunk_get sz len (cs.drop off) i j r x (by simp; omega) hr hx
    rw [List.getElem?_drop, ← Nat.add_assoc] at c4
    obtain ⟨u, hu, hv⟩ := hcs.get c4
    refine ⟨x, u, (h2 i r r' j x y hr hr' hx hy).one.symm, ?_, (List.getElem?_eq_some_iff.1 c4).1, ih i r r' j x y hr hr' hx hy hv⟩
    simp only [World.cell?, hblk]
    simpa using hu
   let f : Nat → Nat → Value := fun i j => (w.cell? ⟨b, off + i * sz + j, none⟩).getD undef
   have := VR.sl (g := g.frz H D) (w := w) .no rows' (some ⟨b, off, none⟩) cap sz b off f (by omega) hm (fun _ => rfl) (fun r' hr' => by
    obtain ⟨i, hi2, rfl⟩ := List.getElem_of_mem hr'
    obtain ⟨r, hr⟩ := get_of_len (l := chunk sz len (cs.drop off)) (m := rows') (by rw [hk.2.1, hl]) (List.getElem?_eq_getElem hi2)
    refine ⟨by rw [← h1 i r _ hr (List.getElem?_eq_getElem hi2)]; exact hk.2.2 r (List.mem_of_getElem? hr), fun y hy => ?_⟩
    obtain ⟨j, hj, rfl⟩ := List.getElem_of_mem hy
    obtain ⟨x, hx⟩ := get_of_len (h1 i r _ hr (List.getElem?_eq_getElem hi2)) (List.getElem?_eq_getElem hj)
    obtain ⟨c1, c2, c3, c4⟩ := chunk_get sz len (cs.drop off) i j r x (by simp; omega) hr hx
    rw [← (h2 i r _ j x _ hr (List.getElem?_eq_getElem hi2) hx (List.getElem?_eq_getElem hj)).one]
    rw [List.getElem?_drop] at c4
    exact hone x (List.mem_of_getElem? c4)) (fun i r' j y hr' hy => by
    obtain ⟨x, u, _, k1, k2, _⟩ := key i r' j y hr' hy
    exact ⟨by simp only [f, k1, Option.getD_some], .inr ⟨id, cs, E, hd, ho, hi, k2⟩⟩) (fun i r' j y hr' hy => by
    obtain ⟨x, u, _, k1, _, k3⟩ := key i r' j y hr' hy
    simp only [f, k1, Option.getD_some]
    exact k3) trivial
   rw [hl] at this
   exact this
 | sl t rows rows' hl h1 h2 ih =>
  cases h with
  | sl tok _ A c sz b o f hc hm hA hsz hcell hv ht =>
   have := VR.sl (g := g.frz H D) (w := w) .no rows' A c sz b o f (by rw [← hl]; exact hc) hm (fun hne => hA fun e => hne (by rw [e] at hl; exact List.length_eq_zero_iff.1 hl.symm)) (fun r' hr' => by
    obtain ⟨i, hi, rfl⟩ := List.getElem_of_mem hr'
    obtain ⟨r, hr⟩ := get_of_len hl (List.getElem?_eq_getElem hi)
    have hrm := List.mem_of_getElem? hr
    have e := h1 i r _ hr (List.getElem?_eq_getElem hi)
    refine ⟨by rw [← e]; exact (hsz r hrm).1, fun y hy => ?_⟩
    obtain ⟨j, hj, rfl⟩ := List.getElem_of_mem hy
    obtain ⟨x, hx⟩ := get_of_len e (List.getElem?_eq_getElem hj)
    rw [← (h2 i r _ j x _ hr (List.getElem?_eq_getElem hi) hx (List.getElem?_eq_getElem hj)).one]
    exact (hsz r hrm).2 x (List.mem_of_getElem? hx)) (fun i r' j y hr' hy => by
    obtain ⟨r, hr⟩ := get_of_len hl hr'
    obtain ⟨x, hx⟩ := get_of_len (h1 i r r' hr hr') hy
    exact ⟨(hcell i r j x hr hx).1, .inl (hcell i r j x hr hx).2⟩) (fun i r' j y hr' hy => by
    obtain ⟨r, hr⟩ := get_of_len hl hr'
    obtain ⟨x, hx⟩ := get_of_len (h1 i r r' hr hr') hy
    exact ih i r r' j x y hr hr' hx hy (hv i r j x hr hx)) trivial
   rw [hl]
   exact this
 | agg cs cs' hl hh ih =>
  cases h with
  | agg _ vs hl2 hone hv => exact .agg cs' vs (by rw [← hl]; exact hl2) (fun y hy => by
    obtain ⟨j, hj, rfl⟩ := List.getElem_of_mem hy
    obtain ⟨x, hx⟩ := get_of_len hl (List.getElem?_eq_getElem hj)
    rw [← (hh j x _ hx (List.getElem?_eq_getElem hj)).one]
    exact hone x (List.mem_of_getElem? hx)) (fun i y u hy hu => by
    obtain ⟨x, hx⟩ := get_of_len hl hy
    exact ih i x y hx hy (hv i x u hx hu))
 | tup cs cs' hl hh ih =>
  cases h with
  | tup _ vs hl2 hv => exact .tup cs' vs (by rw [← hl]; exact hl2) (fun i y u hy hu => by
    obtain ⟨x, hx⟩ := get_of_len hl hy
    exact ih i x y hx hy (hv i x u hx hu))
theorem frz_ok (hW : WR g H w) : WR (g.frz H D) (H.dels D) w ∧ Stp g H w (g.frz H D) (H.dels D) w := by
 have hin : ∀ id o, (H.dels D).get id = some o → D id = false ∧ H.get id = some o := fun id o h => by
  unfold AHeap.dels at h
  cases hd : D id with
  | true => simp [hd] at h
  | false => exact ⟨rfl, by simpa [hd] using h⟩
 have own : ∀ id cs E b, D id = true → H.get id = some (.cells cs E) → g.ι id = some b → Own g H b := fun id cs E b _ h2 h3 => ⟨id, _, h2, h3⟩
 have ne : ∀ i o b, D i = false → H.get i = some o → Owns g i o b → ∀ j, ¬ (∃ id cs E, D id = true ∧ H.get id = some (.cells cs E) ∧ g.ι id = some b ∧ j < cs.length) := fun i o b hd ho hb j ⟨id, cs, E, k1, k2, k3, _⟩ => by
  have := hW.inj i id o _ b ho k2 hb k3
  subst this
  rw [hd] at k1; cases k1
 refine ⟨⟨fun id o h => ?_, fun i i' o o' b a1 a2 b1 b2 => hW.inj i i' o o' b (hin _ _ a1).2 (hin _ _ a2).2 ?_ ?_, hW.dom, fun id o b h1 h2 => hW.bd id o b (hin _ _ h1).2 ?_, fun b j h => ?_⟩, ⟨frz_le, Nat.le_refl _, rfl, rfl, rfl, Nat.le_refl _, fun _ _ _ => rfl, fun b _ ⟨i, o, a1, a2⟩ => ⟨i, o, (hin _ _ a1).2, ?_⟩, fun b j _ h => ?_⟩⟩
 ·obtain ⟨hd, ho⟩ := hin _ _ h
  have hR := hW.obj id o ho
  cases o with
  | cells cs E =>
   obtain ⟨b, carr, k1, k2, k3, k4, k5⟩ := hR
   exact ⟨b, carr, k1, k2, k3.mono frz_le, k4, fun j hj => hj.elim (k5 j) (ne id _ b hd ho k1 j)⟩
  | tok n E sz =>
   obtain ⟨cap, b, k1, k2, k3, k4⟩ := hR
   refine ⟨cap, b, k1, k2, k3, fun hc => ?_⟩
   obtain ⟨carr, m1, m2, m3⟩ := k4 hc
   exact ⟨carr, m1, m2, fun j hj hj2 => hj2.elim (m3 j hj) (ne id _ b hd ho ⟨n, cap, k1, hc⟩ j)⟩
  | map kk es del =>
   obtain ⟨b, entries, clock, k1, k2, k3, k4, k5, k6, k7⟩ := hR
   refine ⟨b, entries, clock, k1, k2, k3, fun i k x e h1 h2 => ?_, k5, k6, fun j hj => hj.elim (k7 j) (ne id _ b hd ho k1 j)⟩
   obtain ⟨p1, p2, p3, p4⟩ := k4 i k x e h1 h2
   exact ⟨p1, p2, p3.mono frz_le, p4⟩
 ·cases o <;> exact b1
 ·cases o' <;> exact b2
 ·cases o <;> exact h2
 ·rcases h with h | ⟨id, cs, E, _, k2, k3, _⟩
  ·exact hW.ro b j h
  ·exact hW.bd id _ b k2 k3
 ·cases o <;> exact a2
 ·rcases h with h | ⟨id, cs, E, k1, k2, k3, _⟩
  ·exact .inl h
  ·exact .inr (own id cs E b k1 k2 k3)
end
theorem RStep.frz {r v : AV} {H H2 : AHeap} {D : Nat → Bool} (hf : Frz H D r v) (h1 : ∀ i o, H2.get i = some o → D i = false ∧ H.get i = some o) (h2 : H.next ≤ H2.next) : RStep r H v H2 := fun g w u hv hW => by
 obtain ⟨k1, k2⟩ := frz_ok (D := D) hW
 obtain ⟨k3, k4⟩ := drop_ok k1 (H2 := H2) (fun i o ho => by obtain ⟨a, b⟩ := h1 i o ho; rw [dels_get a]; exact b) h2
 exact ⟨g.frz H D, hv.frz hf hW, k3, k2.trans k4⟩
theorem GStep.frz {F F' : Fr} {H : AHeap} (D : Nat → Bool) (hf : ∀ t, Frz H D (Fr.get F t) (Fr.get F' t)) : GStep F H F' (H.dels D) := fun N g w a hF hW => by
 obtain ⟨k1, k2⟩ := frz_ok (D := D) hW
 exact ⟨_, ⟨hF.size, hF.df, fun t => (hF.get t).frz (hf t) hW⟩, k1, k2⟩
theorem Sound.res {P : Program} {f : FuncId} {args : List AV} {H : AHeap} {R R' : AV → AHeap → Prop} (h : Sound P f args H R) (k : ∀ r H', R r H' → ∃ r2 H2, RStep r H' r2 H2 ∧ R' r2 H2) : Sound P f args H R' :=
 ⟨h.1, fun g w vs hW hV => (h.2 g w vs hW hV).mono fun e w' ⟨v, r, H', g', h1, h2, h3, h4, h5⟩ => by
  obtain ⟨r2, H2, k1, k2⟩ := k r H' h2
  obtain ⟨g2, k3, k4, k5⟩ := k1 g' w' v h3 h4
  exact ⟨v, r2, H2, g2, h1, k2, k3, k4, h5.trans k5⟩⟩
theorem clone_sound (tok : Tok) (l : List Tx) (H : AHeap) (hl : l.length ≤ 1000000) : Sound Try.prog 24 [.sl tok (rS l)] H (Pure H (.sl .no (rS l))) := by
 cases l with
 | nil =>
  refine fn_soundQ hE cf24 (Nat.le_of_ble_eq_true rfl) fun Q hQr hQn => ?_
  have a0 : allLen 1 ([] : List (List AV)) = true := rfl
  ((have hd := trivial; repeat' (first | ((first | apply GdK_st | apply GdK_sf | apply CondK_s) <;> intro hd <;> (try simp only [hd])) | simp (disch := first | assumption | omega | (simp only [nx] <;> omega) | fail) only [hd, hQr, hQn, c24_0, ↓YA, YB, YC, YE, YF, YZ, ↓reduceIte, Nat.reduceEqDiff, Nat.reduceAdd, Nat.reduceMul, Nat.reduceLeDiff, Int.reduceToNat, Int.reduceLE, Int.reduceLT, Int.reduceGT, Int.reduceGE, Int.reduceAdd, Int.reduceSub, Int.reduceNeg, Int.reduceBEq, Int.reduceBNe, List.map_nil, rowsIn, rowsOf, a0, List.length_nil, List.append_nil, Nat.zero_mul, Nat.zero_le])) <;> (try (have hd_ : True := hd; clear hd_ hd)))
  all_goals exact fin_pure (by exact AXT) rfl
 | cons a r =>
  have a0 : allLen 1 ([] : List (List AV)) = true := rfl
  have ms : maxLen = 9223372036854775807 := rfl
  simp only [List.length_cons] at hl
  have a1 : allLen 1 ([eS a] :: List.map (fun s => [eS s]) r) = true := allLen_rS (a :: r)
  have m1 : r.length + 1 ≤ maxLen := by omega
  have m2 : (r.length + 1) * 16 ≤ 140737488355328 := by omega
  refine fn_soundQ hE cf24 (Nat.le_of_ble_eq_true rfl) fun Q hQr hQn => ?_
  ((have hd := trivial; repeat' (first | ((first | apply GdK_st | apply GdK_sf | apply CondK_s) <;> intro hd <;> (try simp only [hd])) | simp (disch := first | assumption | omega | (simp only [nx] <;> omega) | fail) only [hd, hQr, hQn, c24_0, ↓YA, YB, YC, YE, YF, YZ, ↓reduceIte, Nat.reduceEqDiff, Nat.reduceAdd, Nat.reduceMul, Nat.reduceLeDiff, Int.reduceToNat, Int.reduceLE, Int.reduceLT, Int.reduceGT, Int.reduceGE, Int.reduceAdd, Int.reduceSub, Int.reduceNeg, Int.reduceBEq, Int.reduceBNe, List.map_cons, List.length_map, rowsIn, rowsOf, a0, a1, m1, m2, List.length_nil, List.append_nil, List.length_cons])) <;> (try (have hd_ : True := hd; clear hd_ hd)))
  exact fin_pure (by exact AXT) rfl
theorem apv_new {H : AHeap} {E sz bytes : Nat} {zero : List AV} {x : AV} {K : AV → AHeap → Prop} {xs : List (List AV)} (hx : rowsIn H sz x = some xs) (hne : xs ≠ []) (ha : allLen sz xs = true) (h1 : xs.length ≤ maxLen) (h2 : xs.length * bytes ≤ 140737488355328)
  (k : ∀ cap tail, xs.length ≤ cap → K (.arr H.next 0 xs.length cap) (H.alloc (.cells (xs.flatten ++ tail) E))) : ApvK H E sz bytes zero (.sl .full []) x K := by
 unfold ApvK
 rw [hx]
 exact ⟨⟨hne, ha, h1, h2⟩, fun cap hc _ => k cap _ hc⟩
theorem rS_flat (l : List Tx) : (rS l).flatten = l.map eS := by
 induction l with
 | nil => rfl
 | cons a r ih =>
  show eS a :: (rS r).flatten = eS a :: r.map eS
  rw [ih]
theorem cloneV_sound (tok : Tok) (l : List Tx) (H : AHeap) (hl : l.length ≤ 1000000) (hne : l ≠ []) : Sound Try.prog 24 [.sl tok (rS l)] H fun r H' => ∃ cap tail, r = .arr H.next 0 l.length cap ∧ l.length ≤ cap ∧ H' = H.alloc (.cells (l.map eS ++ tail) 9) := by
 refine fn_soundQ hEs vf24 (Nat.le_of_ble_eq_true rfl) fun Q hQr hQn => ?_
 obtain ⟨c, m, rfl⟩ : ∃ c m, l = c :: m := by
  cases l with
  | nil => exact absurd rfl hne
  | cons c m => exact ⟨c, m, rfl⟩
 ((have hd := trivial; repeat' (first | ((first | apply GdK_st | apply GdK_sf | apply CondK_s) <;> intro hd <;> (try simp only [hd])) | simp (disch := first | assumption | omega | (simp only [nx] <;> omega) | fail) only [hd, hQr, hQn, v24_0, ↓YA, YB, YC, YE, YF, YZ, ↓reduceIte, Nat.reduceEqDiff, Nat.reduceAdd, Nat.reduceMul, Nat.reduceLeDiff, Int.reduceToNat, Int.reduceLE, Int.reduceLT, Int.reduceGT, Int.reduceGE, Int.reduceAdd, Int.reduceSub, Int.reduceNeg, Int.reduceBEq, Int.reduceBNe])) <;> (try (have hd_ : True := hd; clear hd_ hd)))
 have ha := allLen_rS (c :: m)
 have ms : maxLen = 9223372036854775807 := rfl
 have hm : (c :: m).length ≤ maxLen := by omega
 have hm2 : (c :: m).length * 16 ≤ 140737488355328 := by omega
 refine apv_new (xs := rS (c :: m)) rfl (by simp) ha (by simpa using hm) (by simpa using hm2) fun cap tail hcap => ?_
 rw [List.length_map] at hcap ⊢
 ((have hd := trivial; repeat' (first | ((first | apply GdK_st | apply GdK_sf | apply CondK_s) <;> intro hd <;> (try simp only [hd])) | simp (disch := first | assumption | omega | (simp only [nx] <;> omega) | fail) only [hd, hQr, hQn, v24_0, ↓YA, YB, YC, YE, YF, YZ, ↓reduceIte, Nat.reduceEqDiff, Nat.reduceAdd, Nat.reduceMul, Nat.reduceLeDiff, Int.reduceToNat, Int.reduceLE, Int.reduceLT, Int.reduceGT, Int.reduceGE, Int.reduceAdd, Int.reduceSub, Int.reduceNeg, Int.reduceBEq, Int.reduceBNe])) <;> (try (have hd_ : True := hd; clear hd_ hd)))
 refine fin_keep ⟨cap, tail, rfl, hcap, ?_⟩
 have hf := rS_flat (c :: m)
 simp only [rS, List.map_cons] at hf
 rw [hf]
 rfl
theorem ok25 : callOk Try.prog (lays190_ren.f 190) := ⟨_, Try.func25, by kernel_rfl, by kernel_rfl⟩
theorem ok26 : callOk Try.prog (lays194_ren.f 194) := ⟨_, Try.func26, by kernel_rfl, by kernel_rfl⟩
theorem sortS_sound {H : AHeap} {id cap : Nat} {d : List Tx} {tl : List AV} (hget : H.get id = some (.cells (d.map eS ++ tl) 9)) (hn : d.length ≤ 1000000) :
  Sound Try.prog 25 [.arr id 0 d.length cap] H fun r H' => r = .tup [] ∧ ∃ k, H' = (H.set id (.cells ((d.mergeSort fun x y => decide (x ≤ y)).map eS ++ tl) 9)).bump k := sort_sound lays190 ok25 hget (by omega)
theorem chunk_one (cs : List AV) : ∀ (n : Nat), n ≤ cs.length → chunk 1 n cs = (cs.take n).map fun x => [x] := by
 induction cs with
 | nil =>
  intro n h
  obtain rfl : n = 0 := by simpa using h
  rfl
 | cons c cs ih =>
  intro n h
  cases n with
  | zero => rfl
  | succ n =>
   have := ih n (by simpa using h)
   simp only [chunk, List.take_succ_cons, List.map_cons, List.take_zero, List.drop_succ_cons, List.drop_zero]
   rw [this]
theorem compactF_sound {H G : AHeap} {id cap : Nat} {d : List Tx} {tl : List AV} (hget : H.get id = some (.cells (d.map eS ++ tl) 9)) (hn : d.length ≤ 1000000) (hx : AHeap.Ext G H) (hid : G.next ≤ id) :
  Sound Try.prog 26 [.arr id 0 d.length cap] H (Pure G (.sl .no (rS (Lib.compact d)))) := by
 refine Sound.res (compact_sound lays194 ok26 hget (by omega)) fun r H' ⟨hr, hH⟩ => ?_
 subst hr hH
 have hlt := AHeap.lt hget
 have hle := Lib.compact_length_le d
 generalize hc : Lib.compact d = c at *
 refine ⟨_, G.bump (H.next - G.next), RStep.frz (D := fun i => i == id) ?_ (fun i o h => ?_) ?_, rfl, _, rfl⟩
 ·refine .arr id 0 1 c.length cap 9 _ (rS c) (by simp) (AHeap.get_set_self hlt) (by simp) (by simp) (fun i r r' h1 h2 => ?_) (fun i r r' j x y h1 h2 h3 h4 => ?_)
  all_goals
   rw [List.drop_zero, chunk_one _ _ (by simp), List.take_left' (by simp), List.map_map] at h1
  ·have e : r = r' := Option.some.inj (h1.symm.trans h2)
   rw [e]
  ·have e : r = r' := Option.some.inj (h1.symm.trans h2)
   subst e
   obtain rfl : x = y := Option.some.inj (h3.symm.trans h4)
   exact .refl _
 ·have h' : G.get i = some o := h
  have := AHeap.lt h'
  have hne : i ≠ id := by omega
  refine ⟨by simpa using hne, ?_⟩
  rw [AHeap.get_set_ne hne]
  exact hx.get _ _ h'
 ·have := hx.next
  simp only [AHeap.next_set, AHeap.next_bump]
  omega
def wrongT (l : List Tx) : Int := if l.all isT = true then (if (sortT l).length > 200 then 5 else 0) else 2
abbrev Rising (l : List Tx) : Prop := l.Pairwise (· < ·)
theorem lt_of_le_ne {a b : Tx} (h : a ≤ b) (hn : a ≠ b) : a < b := Classical.byContradiction fun h2 => hn (List.le_antisymm h (List.not_lt.1 h2))
theorem rise_uniq : ∀ {l m : List Tx}, Rising l → Rising m → (∀ x, x ∈ l ↔ x ∈ m) → l = m
 | [], [], _, _, _ => rfl
 | [], b :: m, _, _, h => by have := (h b).2 List.mem_cons_self; cases this
 | a :: l, [], _, _, h => by have := (h a).1 List.mem_cons_self; cases this
 | a :: l, b :: m, hl, hm, h => by
  rw [Rising, List.pairwise_cons] at hl hm
  have hab : a = b := by
   rcases List.mem_cons.1 ((h a).1 List.mem_cons_self) with e | h1
   ·exact e
   ·rcases List.mem_cons.1 ((h b).2 List.mem_cons_self) with e | h2
    ·exact e.symm
    ·exact absurd (List.lt_trans (hm.1 a h1) (hl.1 b h2)) (List.lt_irrefl b)
  subst hab
  congr 1
  refine rise_uniq hl.2 hm.2 fun x => ⟨fun hx => ?_, fun hx => ?_⟩
  ·rcases List.mem_cons.1 ((h x).1 (List.mem_cons_of_mem _ hx)) with e | h1
   ·exact absurd (e ▸ hl.1 x hx) (List.lt_irrefl _)
   ·exact h1
  ·rcases List.mem_cons.1 ((h x).2 (List.mem_cons_of_mem _ hx)) with e | h1
   ·exact absurd (e ▸ hm.1 x hx) (List.lt_irrefl _)
   ·exact h1
theorem below_cons {a : Tx} {r : List Tx} {s : Tx} (h : Rising (a :: r)) : belowT (a :: r) s = if a < s then belowT r s + 1 else 0 := by
 unfold belowT
 rw [Rising, List.pairwise_cons] at h
 by_cases hs : a < s
 ·rw [if_pos hs, List.filter_cons_of_pos (by simpa using hs), List.length_cons]
 ·rw [if_neg hs, List.filter_cons_of_neg (by simpa using hs), List.length_eq_zero_iff, List.filter_eq_nil_iff]
  intro x hx hlt
  exact hs (List.lt_trans (h.1 x hx) (by simpa using hlt))
theorem ins_rise : ∀ {out : List Tx} {s : Tx}, Rising out → s ∉ out → Rising (out.take (belowT out s) ++ s :: out.drop (belowT out s))
 | [], s, _, _ => by simp [Rising]
 | a :: r, s, h, hn => by
  rw [below_cons h]
  have h' := h
  rw [Rising, List.pairwise_cons] at h'
  by_cases hs : a < s
  ·rw [if_pos hs, List.take_succ_cons, List.drop_succ_cons, List.cons_append, Rising, List.pairwise_cons]
   refine ⟨fun x hx => ?_, ins_rise h'.2 fun hm => hn (List.mem_cons_of_mem _ hm)⟩
   rw [List.mem_append, List.mem_cons] at hx
   rcases hx with hx | rfl | hx
   ·exact h'.1 x (List.mem_of_mem_take hx)
   ·exact hs
   ·exact h'.1 x (List.mem_of_mem_drop hx)
  ·rw [if_neg hs, List.take_zero, List.drop_zero, List.nil_append, Rising, List.pairwise_cons]
   have hsa : s < a := lt_of_le_ne (List.not_lt.1 hs) fun e => hn (e ▸ List.mem_cons_self)
   refine ⟨fun x hx => ?_, h⟩
   rcases List.mem_cons.1 hx with rfl | hx
   ·exact hsa
   ·exact List.lt_trans hsa (h'.1 x hx)
theorem insT_rise {out : List Tx} {s : Tx} (h : Rising out) : Rising (insT out s) := by
 unfold insT
 split
 ·exact h
 ·rename_i hn; exact ins_rise h hn
theorem insT_mem {out : List Tx} {s x : Tx} : x ∈ insT out s ↔ x = s ∨ x ∈ out := by
 unfold insT
 split
 ·rename_i hm
  exact ⟨.inr, fun h => h.elim (fun e => e ▸ hm) id⟩
 ·have e : x ∈ out ↔ x ∈ out.take (belowT out s) ∨ x ∈ out.drop (belowT out s) := by rw [← List.mem_append, List.take_append_drop]
  rw [List.mem_append, List.mem_cons, e]
  exact ⟨fun h => by rcases h with h | h | h; exact .inr (.inl h); exact .inl h; exact .inr (.inr h), fun h => by rcases h with h | h | h; exact .inr (.inl h); exact .inl h; exact .inr (.inr h)⟩
theorem fold_ins : ∀ {l out : List Tx}, Rising out → Rising (l.foldl insT out) ∧ ∀ x, x ∈ l.foldl insT out ↔ x ∈ l ∨ x ∈ out
 | [], out, h => ⟨h, fun x => by simp⟩
 | a :: l, out, h => by
  rw [List.foldl_cons]
  obtain ⟨h1, h2⟩ := fold_ins (l := l) (insT_rise (s := a) h)
  refine ⟨h1, fun x => ?_⟩
  rw [h2, insT_mem, List.mem_cons]
  exact ⟨fun h => by rcases h with h | h | h; exact .inl (.inr h); exact .inl (.inl h); exact .inr h, fun h => by rcases h with (h | h) | h; exact .inr (.inl h); exact .inl h; exact .inr (.inr h)⟩
theorem sortT_rise (l : List Tx) : Rising (sortT l) := (fold_ins (l := l) List.Pairwise.nil).1
theorem sortT_mem (l : List Tx) (x : Tx) : x ∈ sortT l ↔ x ∈ l := by
 have := (fold_ins (l := l) List.Pairwise.nil).2 x
 unfold sortT
 rw [this]
 simp
theorem compact_up {zs : List Tx} (h : zs.Pairwise (· ≤ ·)) : ∀ m, m ≤ zs.length → Rising (Lib.compactUpTo zs.toArray m) ∧ ∀ x, x ∈ Lib.compactUpTo zs.toArray m ↔ ∃ j, ∃ (hj : j < zs.length), j < m ∧ zs[j] = x
 | 0, _ => ⟨by simp [Lib.compactUpTo], fun x => by simp [Lib.compactUpTo]⟩
 | m + 1, hm => by
  obtain ⟨h1, h2⟩ := compact_up h m (by omega)
  have hml : m < zs.length := hm
  have em : zs.toArray[m]! = zs[m] := by simp [hml]
  rw [Lib.compactUpTo_succ]
  have mono : ∀ i j (hi : i < zs.length) (hj : j < zs.length), i < j → zs[i] ≤ zs[j] := fun i j hi hj hij => List.pairwise_iff_getElem.1 h i j hi hj hij
  by_cases hk : Lib.keeps zs.toArray m = true
  ·rw [if_pos hk, em]
   refine ⟨?_, fun x => ?_⟩
   ·rw [Rising, List.pairwise_append]
    refine ⟨h1, by simp, fun x hx y hy => ?_⟩
    rw [List.mem_singleton] at hy
    subst hy
    obtain ⟨j, hj, hjm, rfl⟩ := (h2 x).1 hx
    unfold Lib.keeps at hk
    rw [decide_eq_true_eq, em] at hk
    rcases hk with rfl | hk
    ·omega
    ·have e1 : zs.toArray[m - 1]! = zs[m - 1] := by simp [show m - 1 < zs.length by omega]
     rw [e1] at hk
     have hlt : zs[m - 1] < zs[m] := lt_of_le_ne (mono (m - 1) m (by omega) hml (by omega)) (fun e => hk e.symm)
     by_cases hjm1 : j = m - 1
     ·subst hjm1; exact hlt
     ·exact List.lt_of_le_of_lt (mono j (m - 1) hj (by omega) (by omega)) hlt
   ·rw [List.mem_append, List.mem_singleton, h2]
    constructor
    ·rintro (⟨j, hj, hjm, e⟩ | rfl)
     ·exact ⟨j, hj, by omega, e⟩
     ·exact ⟨m, hml, by omega, rfl⟩
    ·rintro ⟨j, hj, hjm, e⟩
     by_cases hjm1 : j = m
     ·subst hjm1; exact .inr e.symm
     ·exact .inl ⟨j, hj, by omega, e⟩
  ·rw [if_neg hk, List.append_nil]
   refine ⟨h1, fun x => ?_⟩
   rw [h2]
   unfold Lib.keeps at hk
   rw [decide_eq_true_eq, em] at hk
   have hm0 : m ≠ 0 := fun e => hk (.inl e)
   have e1 : zs.toArray[m - 1]! = zs[m - 1] := by simp [show m - 1 < zs.length by omega]
   rw [e1] at hk
   have he : zs[m] = zs[m - 1] := Classical.byContradiction fun e => hk (.inr e)
   constructor
   ·rintro ⟨j, hj, hjm, e⟩
    exact ⟨j, hj, by omega, e⟩
   ·rintro ⟨j, hj, hjm, e⟩
    by_cases hjm1 : j = m
    ·subst hjm1; exact ⟨j - 1, by omega, by omega, by rw [← he]; exact e⟩
    ·exact ⟨j, hj, by omega, e⟩
theorem compact_sort (l : List Tx) : Lib.compact (l.mergeSort fun x y => decide (x ≤ y)) = sortT l := by
 have hs : (l.mergeSort fun x y => decide (x ≤ y)).Pairwise (· ≤ ·) := by
  have := List.pairwise_mergeSort (le := fun x y : Tx => decide (x ≤ y)) (fun a b c h1 h2 => by simp only [decide_eq_true_eq] at *; exact List.le_trans h1 h2) (fun a b => by simp only [Bool.or_eq_true, decide_eq_true_eq]; exact List.le_total a b) l
  exact this.imp fun h => by simpa using h
 obtain ⟨h1, h2⟩ := compact_up hs _ (Nat.le_refl _)
 have e : Lib.compact (l.mergeSort fun x y => decide (x ≤ y)) = Lib.compactUpTo (l.mergeSort fun x y => decide (x ≤ y)).toArray (l.mergeSort fun x y => decide (x ≤ y)).length := rfl
 rw [e]
 refine rise_uniq h1 (sortT_rise l) fun x => ?_
 rw [h2, sortT_mem, ← List.mem_mergeSort (le := fun x y : Tx => decide (x ≤ y)) (a := x) (l := l)]
 constructor
 ·rintro ⟨j, hj, _, rfl⟩; exact List.getElem_mem hj
 ·intro hx
  obtain ⟨j, hj, rfl⟩ := List.getElem_of_mem hx
  exact ⟨j, hj, hj, rfl⟩
theorem below_eq {T : List Tx} {s : Tx} {i : Nat} (hi : i ≤ T.length) (h1 : ∀ k (hk : k < T.length), k < i → T[k] < s) (h2 : ∀ k (hk : k < T.length), i ≤ k → ¬ T[k] < s) : belowT T s = i := by
 unfold belowT
 have e : T = T.take i ++ T.drop i := (List.take_append_drop i T).symm
 rw [e, List.filter_append, List.length_append]
 have e1 : (T.take i).filter (fun x => decide (x < s)) = T.take i := List.filter_eq_self.2 fun x hx => by
  obtain ⟨k, hk, rfl⟩ := List.getElem_of_mem hx
  rw [List.length_take] at hk
  rw [List.getElem_take]
  simpa using h1 k (by omega) (by omega)
 have e2 : (T.drop i).filter (fun x => decide (x < s)) = [] := List.filter_eq_nil_iff.2 fun x hx => by
  obtain ⟨k, hk, rfl⟩ := List.getElem_of_mem hx
  rw [List.length_drop] at hk
  rw [List.getElem_drop]
  simpa using h2 (i + k) (by omega) (by omega)
 rw [e1, e2, List.length_take, List.length_nil]
 omega
theorem mem_at {T : List Tx} (hT : Rising T) {s : Tx} {i : Nat} (h2 : ∀ k (hk : k < T.length), i ≤ k → ¬ T[k] < s) (h1 : ∀ k (hk : k < T.length), k < i → T[k] < s) : s ∈ T ↔ ∃ h : i < T.length, T[i] = s := by
 constructor
 ·intro hs
  obtain ⟨k, hk, e⟩ := List.getElem_of_mem hs
  have hik : i ≤ k := by
   rcases Nat.lt_or_ge k i with h | h
   ·exact absurd (e ▸ h1 k hk h) (List.lt_irrefl _)
   ·exact h
  by_cases he : i = k
  ·subst he; exact ⟨hk, e⟩
  ·have := List.pairwise_iff_getElem.1 hT i k (by omega) hk (by omega)
   rw [e] at this
   exact absurd this (h2 i (by omega) (Nat.le_refl _))
 ·rintro ⟨h, rfl⟩
  exact List.getElem_mem h
abbrev DictA (T : List Tx) (id : Nat) (H : AHeap) : Prop := ∃ t, H.get id = some (.cells [.sl t (rS T), .b true] 45)
def NewQ (l : List Tx) (H : AHeap) (r : AV) (H' : AHeap) : Prop :=
 AHeap.Ext H H' ∧ ((wrongT l ≠ 0 ∧ r = .tup [.sc (.pointer none), .i (wrongT l)]) ∨ (wrongT l = 0 ∧ ∃ id, r = .tup [.ptr id 0, .i 0] ∧ DictA (sortT l) id H'))
theorem sort_compact {H G : AHeap} {l : List Tx} {cap : Nat} {tl : List AV} {k : Nat} (hl : l.length ≤ 1000000) (hG : H = (G.alloc (.cells ((l.mergeSort fun x y => decide (x ≤ y)).map eS ++ tl) 9)).bump k) :
  Sound Try.prog 26 [.arr G.next 0 l.length cap] H (Pure G (.sl .no (rS (sortT l)))) := by
 have h := compactF_sound (H := H) (G := G) (id := G.next) (cap := cap) (d := l.mergeSort fun x y => decide (x ≤ y)) (tl := tl) (by
  rw [hG, AHeap.get_bump]
  exact AHeap.get_alloc_self) (by rw [List.length_mergeSort]; exact hl) (by rw [hG]; exact (AHeap.Ext.refl G).alloc.bump) (Nat.le_refl _)
 rw [List.length_mergeSort, compact_sort] at h
 exact h
set_option maxHeartbeats 1000000 in
theorem new_sound (t : Tok) (l : List Tx) (H : AHeap) (hl : l.length ≤ 100000) : Sound Try.prog 8 [.sl t (rS l)] H (NewQ l H) := by
 have hR2 : ∀ r H', AHeap.Ext H H' → wrongT l = 2 → r = .tup [.sc (.pointer none), .i 2] → NewQ l H r H' := fun r H' h e hr => ⟨h, .inl ⟨by rw [e]; decide, by rw [hr, e]⟩⟩
 have hR5 : ∀ r H', AHeap.Ext H H' → wrongT l = 5 → r = .tup [.sc (.pointer none), .i 5] → NewQ l H r H' := fun r H' h e hr => ⟨h, .inl ⟨by rw [e]; decide, by rw [hr, e]⟩⟩
 have hR0 : ∀ r H' id, AHeap.Ext H H' → wrongT l = 0 → r = .tup [.ptr id 0, .i 0] → DictA (sortT l) id H' → NewQ l H r H' := fun r H' id h e hr hd => ⟨h, .inr ⟨e, id, hr, hd⟩⟩
 refine fn_soundQ hE cf8 (Nat.le_of_ble_eq_true rfl) fun Q hQr hQn => ?_
 ((have hd := trivial; repeat' (first | ((first | apply GdK_st | apply GdK_sf | apply CondK_s) <;> intro hd <;> (try simp only [hd])) | simp (disch := first | assumption | omega | (simp only [nx] <;> omega) | fail) only [hd, hQr, hQn, c8_0, ↓YA, YB, YC, YE, YF, YZ, ↓reduceIte, Nat.reduceEqDiff, Nat.reduceAdd, Nat.reduceMul, Nat.reduceLeDiff, Int.reduceToNat, Int.reduceLE, Int.reduceLT, Int.reduceGT, Int.reduceGE, Int.reduceAdd, Int.reduceSub, Int.reduceNeg, Int.reduceBEq, Int.reduceBNe, List.length_map])) <;> (try (have hd_ : True := hd; clear hd_ hd)))
 refine AW_for [0, 8, 9] (σ := Unit) (fun (k : Nat) s => ∀ i (hi : i < l.length), i < k → isT l[i] = true) (fun k s => []) (fun k s => []) () (GStep.refl _ _) (by simp only [keep_nil, keep_cons, Fr.put, Fr.get, ↓reduceIte, Nat.reduceEqDiff]; rfl) (by intro k s; rfl) (by intro k s; rfl) (by rfl) (by unfold maxLen; omega) ?_ (by simp only [FrL_nil]) (by simp only [ObjL_nil]) ?_ ?_
 ·intro i _ h; omega
 ·(rintro k s G hk ht hG hn; try simp only [nx] at hn)
  by_cases hi : isT l[k] = true
  ·have hc : Sound Try.prog 23 [eS l[k]] G (Pure G (.i 0)) := by
    have := check_sound l[k] G
    rw [if_pos hi] at this
    exact this
   ((have hd := trivial; repeat' (first | ((first | apply GdK_st | apply GdK_sf | apply CondK_s) <;> intro hd <;> (try simp only [hd])) | simp (disch := first | assumption | omega | (simp only [nx] <;> omega) | fail) only [hd, hQr, hQn, c8_0, ↓YA, YB, YC, YE, YF, YZ, ↓reduceIte, Nat.reduceEqDiff, Nat.reduceAdd, Nat.reduceMul, Nat.reduceLeDiff, Int.reduceToNat, Int.reduceLE, Int.reduceLT, Int.reduceGT, Int.reduceGE, Int.reduceAdd, Int.reduceSub, Int.reduceNeg, Int.reduceBEq, Int.reduceBNe, List.length_map])) <;> (try (have hd_ : True := hd; clear hd_ hd)))
   (refine CallK.use (hc) ?_; rintro _ _ ⟨rfl, k1, rfl⟩)
   ((have hd := trivial; repeat' (first | ((first | apply GdK_st | apply GdK_sf | apply CondK_s) <;> intro hd <;> (try simp only [hd])) | simp (disch := first | assumption | omega | (simp only [nx] <;> omega) | fail) only [hd, hQr, hQn, c8_0, ↓YA, YB, YC, YE, YF, YZ, ↓reduceIte, Nat.reduceEqDiff, Nat.reduceAdd, Nat.reduceMul, Nat.reduceLeDiff, Int.reduceToNat, Int.reduceLE, Int.reduceLT, Int.reduceGT, Int.reduceGE, Int.reduceAdd, Int.reduceSub, Int.reduceNeg, Int.reduceBEq, Int.reduceBNe])) <;> (try (have hd_ : True := hd; clear hd_ hd)))
   refine ⟨(), by intro i h1 h2; rcases Nat.lt_succ_iff_lt_or_eq.1 h2 with h | rfl; exact ht i h1 h; exact hi, by exact HXT⟩
  ·have hc : Sound Try.prog 23 [eS l[k]] G (Pure G (.i 2)) := by
    have := check_sound l[k] G
    rw [if_neg hi] at this
    exact this
   have hw : wrongT l = 2 := by
    unfold wrongT
    rw [if_neg]
    intro h
    exact hi (List.all_eq_true.1 h _ (List.getElem_mem hk))
   ((have hd := trivial; repeat' (first | ((first | apply GdK_st | apply GdK_sf | apply CondK_s) <;> intro hd <;> (try simp only [hd])) | simp (disch := first | assumption | omega | (simp only [nx] <;> omega) | fail) only [hd, hQr, hQn, c8_0, ↓YA, YB, YC, YE, YF, YZ, ↓reduceIte, Nat.reduceEqDiff, Nat.reduceAdd, Nat.reduceMul, Nat.reduceLeDiff, Int.reduceToNat, Int.reduceLE, Int.reduceLT, Int.reduceGT, Int.reduceGE, Int.reduceAdd, Int.reduceSub, Int.reduceNeg, Int.reduceBEq, Int.reduceBNe, List.length_map])) <;> (try (have hd_ : True := hd; clear hd_ hd)))
   (refine CallK.use (hc) ?_; rintro _ _ ⟨rfl, k1, rfl⟩)
   ((have hd := trivial; repeat' (first | ((first | apply GdK_st | apply GdK_sf | apply CondK_s) <;> intro hd <;> (try simp only [hd])) | simp (disch := first | assumption | omega | (simp only [nx] <;> omega) | fail) only [hd, hQr, hQn, c8_0, ↓YA, YB, YC, YE, YF, YZ, ↓reduceIte, Nat.reduceEqDiff, Nat.reduceAdd, Nat.reduceMul, Nat.reduceLeDiff, Int.reduceToNat, Int.reduceLE, Int.reduceLT, Int.reduceGT, Int.reduceGE, Int.reduceAdd, Int.reduceSub, Int.reduceNeg, Int.reduceBEq, Int.reduceBNe])) <;> (try (have hd_ : True := hd; clear hd_ hd)))
   exact fin_keep (hR2 _ _ (by exact AXT) hw rfl)
 ·(rintro s G ht hG hn; try simp only [nx] at hn)
  have ha : l.all isT = true := List.all_eq_true.2 fun x hx => by
   obtain ⟨i, hi, rfl⟩ := List.getElem_of_mem hx
   exact ht i hi hi
  have hw : wrongT l = if (sortT l).length > 200 then 5 else 0 := by
   unfold wrongT
   rw [if_pos ha]
  have hGx := hG.ext
  by_cases hne : l = []
  ·subst hne
   have hw0 : wrongT [] = 0 := rfl
   have d0 : decide (((0 : Nat) : Int) > 200) = false := by decide
   ((have hd := trivial; repeat' (first | ((first | apply GdK_st | apply GdK_sf | apply CondK_s) <;> intro hd <;> (try simp only [hd])) | simp (disch := first | assumption | omega | (simp only [nx] <;> omega) | fail) only [hd, hQr, hQn, c8_0, ↓YA, YB, YC, YE, YF, YZ, ↓reduceIte, Nat.reduceEqDiff, Nat.reduceAdd, Nat.reduceMul, Nat.reduceLeDiff, Int.reduceToNat, Int.reduceLE, Int.reduceLT, Int.reduceGT, Int.reduceGE, Int.reduceAdd, Int.reduceSub, Int.reduceNeg, Int.reduceBEq, Int.reduceBNe, List.length_map])) <;> (try (have hd_ : True := hd; clear hd_ hd)))
   (refine CallK.use (clone_sound t [] _ (by simp)) ?_; rintro _ _ ⟨rfl, k1, rfl⟩)
   ((have hd := trivial; repeat' (first | ((first | apply GdK_st | apply GdK_sf | apply CondK_s) <;> intro hd <;> (try simp only [hd])) | simp (disch := first | assumption | omega | (simp only [nx] <;> omega) | fail) only [hd, hQr, hQn, c8_0, ↓YA, YB, YC, YE, YF, YZ, ↓reduceIte, Nat.reduceEqDiff, Nat.reduceAdd, Nat.reduceMul, Nat.reduceLeDiff, Int.reduceToNat, Int.reduceLE, Int.reduceLT, Int.reduceGT, Int.reduceGE, Int.reduceAdd, Int.reduceSub, Int.reduceNeg, Int.reduceBEq, Int.reduceBNe])) <;> (try (have hd_ : True := hd; clear hd_ hd)))
   refine CallK.use (sort_none lays190 ok25 .no) ?_
   rintro _ _ ⟨rfl, rfl⟩
   ((have hd := trivial; repeat' (first | ((first | apply GdK_st | apply GdK_sf | apply CondK_s) <;> intro hd <;> (try simp only [hd])) | simp (disch := first | assumption | omega | (simp only [nx] <;> omega) | fail) only [hd, hQr, hQn, c8_0, ↓YA, YB, YC, YE, YF, YZ, ↓reduceIte, Nat.reduceEqDiff, Nat.reduceAdd, Nat.reduceMul, Nat.reduceLeDiff, Int.reduceToNat, Int.reduceLE, Int.reduceLT, Int.reduceGT, Int.reduceGE, Int.reduceAdd, Int.reduceSub, Int.reduceNeg, Int.reduceBEq, Int.reduceBNe])) <;> (try (have hd_ : True := hd; clear hd_ hd)))
   refine CallK.use (compact_none lays194 ok26 .no) ?_
   rintro _ _ ⟨rfl, rfl⟩
   ((have hd := trivial; repeat' (first | ((first | apply GdK_st | apply GdK_sf | apply CondK_s) <;> intro hd <;> (try simp only [hd])) | simp (disch := first | assumption | omega | (simp only [nx] <;> omega) | fail) only [hd, hQr, hQn, c8_0, ↓YA, YB, YC, YE, YF, YZ, ↓reduceIte, Nat.reduceEqDiff, Nat.reduceAdd, Nat.reduceMul, Nat.reduceLeDiff, Int.reduceToNat, Int.reduceLE, Int.reduceLT, Int.reduceGT, Int.reduceGE, Int.reduceAdd, Int.reduceSub, Int.reduceNeg, Int.reduceBEq, Int.reduceBNe, List.map_nil, List.length_nil, d0])) <;> (try (have hd_ : True := hd; clear hd_ hd)))
   exact fin_keep (hR0 _ _ _ (by exact AXT) hw0 rfl ⟨.no, AHeap.get_alloc_self⟩)
  ·by_cases h2 : (sortT l).length > 200
   ·rw [if_pos h2] at hw
    have d1 : decide (((sortT l).length : Int) > 200) = true := decide_eq_true (by omega)
    ((have hd := trivial; repeat' (first | ((first | apply GdK_st | apply GdK_sf | apply CondK_s) <;> intro hd <;> (try simp only [hd])) | simp (disch := first | assumption | omega | (simp only [nx] <;> omega) | fail) only [hd, hQr, hQn, c8_0, ↓YA, YB, YC, YE, YF, YZ, ↓reduceIte, Nat.reduceEqDiff, Nat.reduceAdd, Nat.reduceMul, Nat.reduceLeDiff, Int.reduceToNat, Int.reduceLE, Int.reduceLT, Int.reduceGT, Int.reduceGE, Int.reduceAdd, Int.reduceSub, Int.reduceNeg, Int.reduceBEq, Int.reduceBNe, List.length_map])) <;> (try (have hd_ : True := hd; clear hd_ hd)))
    refine CallK.use (cloneV_sound t l _ (by omega) hne) ?_
    rintro _ _ ⟨cap, tl, rfl, hcap, rfl⟩
    ((have hd := trivial; repeat' (first | ((first | apply GdK_st | apply GdK_sf | apply CondK_s) <;> intro hd <;> (try simp only [hd])) | simp (disch := first | assumption | omega | (simp only [nx] <;> omega) | fail) only [hd, hQr, hQn, c8_0, ↓YA, YB, YC, YE, YF, YZ, ↓reduceIte, Nat.reduceEqDiff, Nat.reduceAdd, Nat.reduceMul, Nat.reduceLeDiff, Int.reduceToNat, Int.reduceLE, Int.reduceLT, Int.reduceGT, Int.reduceGE, Int.reduceAdd, Int.reduceSub, Int.reduceNeg, Int.reduceBEq, Int.reduceBNe])) <;> (try (have hd_ : True := hd; clear hd_ hd)))
    refine CallK.use (sortS_sound AHeap.get_alloc_self (by omega)) ?_
    rintro _ _ ⟨rfl, k2, rfl⟩
    ((have hd := trivial; repeat' (first | ((first | apply GdK_st | apply GdK_sf | apply CondK_s) <;> intro hd <;> (try simp only [hd])) | simp (disch := first | assumption | omega | (simp only [nx] <;> omega) | fail) only [hd, hQr, hQn, c8_0, ↓YA, YB, YC, YE, YF, YZ, ↓reduceIte, Nat.reduceEqDiff, Nat.reduceAdd, Nat.reduceMul, Nat.reduceLeDiff, Int.reduceToNat, Int.reduceLE, Int.reduceLT, Int.reduceGT, Int.reduceGE, Int.reduceAdd, Int.reduceSub, Int.reduceNeg, Int.reduceBEq, Int.reduceBNe])) <;> (try (have hd_ : True := hd; clear hd_ hd)))
    (refine CallK.use (sort_compact (by omega) rfl) ?_; rintro _ _ ⟨rfl, k3, rfl⟩)
    ((have hd := trivial; repeat' (first | ((first | apply GdK_st | apply GdK_sf | apply CondK_s) <;> intro hd <;> (try simp only [hd])) | simp (disch := first | assumption | omega | (simp only [nx] <;> omega) | fail) only [hd, hQr, hQn, c8_0, ↓YA, YB, YC, YE, YF, YZ, ↓reduceIte, Nat.reduceEqDiff, Nat.reduceAdd, Nat.reduceMul, Nat.reduceLeDiff, Int.reduceToNat, Int.reduceLE, Int.reduceLT, Int.reduceGT, Int.reduceGE, Int.reduceAdd, Int.reduceSub, Int.reduceNeg, Int.reduceBEq, Int.reduceBNe, List.length_map, d1])) <;> (try (have hd_ : True := hd; clear hd_ hd)))
    exact fin_keep (hR5 _ _ (by exact AXT) hw rfl)
   ·rw [if_neg h2] at hw
    have d1 : decide (((sortT l).length : Int) > 200) = false := decide_eq_false (by omega)
    ((have hd := trivial; repeat' (first | ((first | apply GdK_st | apply GdK_sf | apply CondK_s) <;> intro hd <;> (try simp only [hd])) | simp (disch := first | assumption | omega | (simp only [nx] <;> omega) | fail) only [hd, hQr, hQn, c8_0, ↓YA, YB, YC, YE, YF, YZ, ↓reduceIte, Nat.reduceEqDiff, Nat.reduceAdd, Nat.reduceMul, Nat.reduceLeDiff, Int.reduceToNat, Int.reduceLE, Int.reduceLT, Int.reduceGT, Int.reduceGE, Int.reduceAdd, Int.reduceSub, Int.reduceNeg, Int.reduceBEq, Int.reduceBNe, List.length_map])) <;> (try (have hd_ : True := hd; clear hd_ hd)))
    refine CallK.use (cloneV_sound t l _ (by omega) hne) ?_
    rintro _ _ ⟨cap, tl, rfl, hcap, rfl⟩
    ((have hd := trivial; repeat' (first | ((first | apply GdK_st | apply GdK_sf | apply CondK_s) <;> intro hd <;> (try simp only [hd])) | simp (disch := first | assumption | omega | (simp only [nx] <;> omega) | fail) only [hd, hQr, hQn, c8_0, ↓YA, YB, YC, YE, YF, YZ, ↓reduceIte, Nat.reduceEqDiff, Nat.reduceAdd, Nat.reduceMul, Nat.reduceLeDiff, Int.reduceToNat, Int.reduceLE, Int.reduceLT, Int.reduceGT, Int.reduceGE, Int.reduceAdd, Int.reduceSub, Int.reduceNeg, Int.reduceBEq, Int.reduceBNe])) <;> (try (have hd_ : True := hd; clear hd_ hd)))
    refine CallK.use (sortS_sound AHeap.get_alloc_self (by omega)) ?_
    rintro _ _ ⟨rfl, k2, rfl⟩
    ((have hd := trivial; repeat' (first | ((first | apply GdK_st | apply GdK_sf | apply CondK_s) <;> intro hd <;> (try simp only [hd])) | simp (disch := first | assumption | omega | (simp only [nx] <;> omega) | fail) only [hd, hQr, hQn, c8_0, ↓YA, YB, YC, YE, YF, YZ, ↓reduceIte, Nat.reduceEqDiff, Nat.reduceAdd, Nat.reduceMul, Nat.reduceLeDiff, Int.reduceToNat, Int.reduceLE, Int.reduceLT, Int.reduceGT, Int.reduceGE, Int.reduceAdd, Int.reduceSub, Int.reduceNeg, Int.reduceBEq, Int.reduceBNe])) <;> (try (have hd_ : True := hd; clear hd_ hd)))
    (refine CallK.use (sort_compact (by omega) rfl) ?_; rintro _ _ ⟨rfl, k3, rfl⟩)
    ((have hd := trivial; repeat' (first | ((first | apply GdK_st | apply GdK_sf | apply CondK_s) <;> intro hd <;> (try simp only [hd])) | simp (disch := first | assumption | omega | (simp only [nx] <;> omega) | fail) only [hd, hQr, hQn, c8_0, ↓YA, YB, YC, YE, YF, YZ, ↓reduceIte, Nat.reduceEqDiff, Nat.reduceAdd, Nat.reduceMul, Nat.reduceLeDiff, Int.reduceToNat, Int.reduceLE, Int.reduceLT, Int.reduceGT, Int.reduceGE, Int.reduceAdd, Int.reduceSub, Int.reduceNeg, Int.reduceBEq, Int.reduceBNe, List.length_map, d1])) <;> (try (have hd_ : True := hd; clear hd_ hd)))
    exact fin_keep (hR0 _ _ _ (by exact AXT) hw rfl ⟨.no, AHeap.get_alloc_self⟩)
theorem wrapu_of {n : Int} (h1 : 0 ≤ n) (h2 : n < 18446744073709551616) : IntKind.u64.wrap n = n := by
 obtain ⟨m, rfl⟩ : ∃ m : Nat, n = m := ⟨n.toNat, by omega⟩
 have hm : m < 18446744073709551616 := by omega
 simp only [IntKind.wrap, IntKind.signed, IntKind.bits]
 simp
 omega
theorem nan1_sound (s : Tx) (H : AHeap) : Sound Try.prog 47 [eS s] H (Pure H (.b false)) := by
 have d : (!decide (s = s)) = false := by simp
 refine fn_soundQ hE cf47 (Nat.le_of_ble_eq_true rfl) fun Q hQr hQn => ?_
 ((have hd := trivial; repeat' (first | ((first | apply GdK_st | apply GdK_sf | apply CondK_s) <;> intro hd <;> (try simp only [hd])) | simp (disch := first | assumption | omega | (simp only [nx] <;> omega) | fail) only [hd, hQr, hQn, c47_0, ↓YA, YB, YC, YE, YF, YZ, ↓reduceIte, Nat.reduceEqDiff, Nat.reduceAdd, Nat.reduceMul, Nat.reduceLeDiff, Int.reduceToNat, Int.reduceLE, Int.reduceLT, Int.reduceGT, Int.reduceGE, Int.reduceAdd, Int.reduceSub, Int.reduceNeg, Int.reduceBEq, Int.reduceBNe, d])) <;> (try (have hd_ : True := hd; clear hd_ hd)))
 refine fin_bA (by simp)
theorem nan2_sound (s : Tx) (H : AHeap) : Sound Try.prog 53 [eS s] H (Pure H (.b false)) := by
 have d : (!decide (s = s)) = false := by simp
 refine fn_soundQ hE cf53 (Nat.le_of_ble_eq_true rfl) fun Q hQr hQn => ?_
 ((have hd := trivial; repeat' (first | ((first | apply GdK_st | apply GdK_sf | apply CondK_s) <;> intro hd <;> (try simp only [hd])) | simp (disch := first | assumption | omega | (simp only [nx] <;> omega) | fail) only [hd, hQr, hQn, c53_0, ↓YA, YB, YC, YE, YF, YZ, ↓reduceIte, Nat.reduceEqDiff, Nat.reduceAdd, Nat.reduceMul, Nat.reduceLeDiff, Int.reduceToNat, Int.reduceLE, Int.reduceLT, Int.reduceGT, Int.reduceGE, Int.reduceAdd, Int.reduceSub, Int.reduceNeg, Int.reduceBEq, Int.reduceBNe, d])) <;> (try (have hd_ : True := hd; clear hd_ hd)))
 refine fin_bA (by simp)
theorem less_sound (a b : Tx) (H : AHeap) : Sound Try.prog 42 [eS a, eS b] H (Pure H (.b (decide (a < b)))) := by
 refine fn_soundQ hE cf42 (Nat.le_of_ble_eq_true rfl) fun Q hQr hQn => ?_
 ((have hd := trivial; repeat' (first | ((first | apply GdK_st | apply GdK_sf | apply CondK_s) <;> intro hd <;> (try simp only [hd])) | simp (disch := first | assumption | omega | (simp only [nx] <;> omega) | fail) only [hd, hQr, hQn, c42_0, ↓YA, YB, YC, YE, YF, YZ, ↓reduceIte, Nat.reduceEqDiff, Nat.reduceAdd, Nat.reduceMul, Nat.reduceLeDiff, Int.reduceToNat, Int.reduceLE, Int.reduceLT, Int.reduceGT, Int.reduceGE, Int.reduceAdd, Int.reduceSub, Int.reduceNeg, Int.reduceBEq, Int.reduceBNe])) <;> (try (have hd_ : True := hd; clear hd_ hd)))
 (refine CallK.use (nan2_sound _ _) ?_; rintro _ _ ⟨rfl, k1, rfl⟩)
 ((have hd := trivial; repeat' (first | ((first | apply GdK_st | apply GdK_sf | apply CondK_s) <;> intro hd <;> (try simp only [hd])) | simp (disch := first | assumption | omega | (simp only [nx] <;> omega) | fail) only [hd, hQr, hQn, c42_0, ↓YA, YB, YC, YE, YF, YZ, ↓reduceIte, Nat.reduceEqDiff, Nat.reduceAdd, Nat.reduceMul, Nat.reduceLeDiff, Int.reduceToNat, Int.reduceLE, Int.reduceLT, Int.reduceGT, Int.reduceGE, Int.reduceAdd, Int.reduceSub, Int.reduceNeg, Int.reduceBEq, Int.reduceBNe])) <;> (try (have hd_ : True := hd; clear hd_ hd)))
 refine fin_bA (by rfl)
set_option maxHeartbeats 1000000 in
theorem bsearch_sound (t : Tok) (T : List Tx) (q : Tx) (H : AHeap) (hl : T.length ≤ 1000000) (hT : Rising T) : Sound Try.prog 34 [.sl t (rS T), eS q] H (Pure H (.tup [.i (belowT T q : Nat), .b (decide (q ∈ T))])) := by
 refine fn_soundQ hE cf34 (Nat.le_of_ble_eq_true rfl) fun Q hQr hQn => ?_
 ((have hd := trivial; repeat' (first | ((first | apply GdK_st | apply GdK_sf | apply CondK_s) <;> intro hd <;> (try simp only [hd])) | simp (disch := first | assumption | omega | (simp only [nx] <;> omega) | fail) only [hd, hQr, hQn, c34_0, ↓YA, YB, YC, YE, YF, YZ, ↓reduceIte, Nat.reduceEqDiff, Nat.reduceAdd, Nat.reduceMul, Nat.reduceLeDiff, Int.reduceToNat, Int.reduceLE, Int.reduceLT, Int.reduceGT, Int.reduceGE, Int.reduceAdd, Int.reduceSub, Int.reduceNeg, Int.reduceBEq, Int.reduceBNe, List.length_map])) <;> (try (have hd_ : True := hd; clear hd_ hd)))
 refine AW_lop [0, 1, 6] (σ := Nat × Nat) (fun s => s.1 ≤ s.2 ∧ s.2 ≤ T.length ∧ (∀ k (hk : k < T.length), k < s.1 → T[k] < q) ∧ (∀ k (hk : k < T.length), s.2 ≤ k → ¬ T[k] < q)) (fun s => s.2 - s.1) (fun s => [(7, .i (s.1 : Int)), (8, .i (s.2 : Int))]) (fun s => []) (0, T.length) (GStep.refl _ _) (by simp only [keep_nil, keep_cons, Fr.put, Fr.get, ↓reduceIte, Nat.reduceEqDiff]; rfl) ?_ (by simp only [FrL_nil, FrL_cons, Fr.put, Fr.get, ↓reduceIte, Nat.reduceEqDiff, and_self] <;> simp) (by simp only [ObjL_nil]) ?_
 ·exact ⟨Nat.zero_le _, Nat.le_refl _, fun k _ h => by omega, fun k hk h => by simp only at h; omega⟩
 ·(rintro ⟨i, j⟩ G ⟨h1, h2, h3, h4⟩ hG hn; try simp only [nx] at hn)
  simp only at h1 h2 h3 h4
  by_cases hij : i < j
  ·have d1 : decide ((i : Int) < (j : Int)) = true := decide_eq_true (by omega)
   obtain ⟨m, hm⟩ : ∃ m, m = (i + j) / 2 := ⟨_, rfl⟩
   have hmj : m < j := by omega
   have him : i ≤ m := by omega
   have hmT : m < T.length := by omega
   have hh : ((i : Int) + (j : Int)).fdiv (2 ^ min 1 IntKind.u64.bits) = (m : Int) := by
    rw [show (2 : Int) ^ min 1 IntKind.u64.bits = 2 from rfl, Int.fdiv_eq_ediv_of_nonneg _ (by omega)]
    omega
   have mono : ∀ a b (ha : a < T.length) (hb : b < T.length), a < b → T[a] < T[b] := fun a b ha hb hab => List.pairwise_iff_getElem.1 hT a b ha hb hab
   ((have hd := trivial; repeat' (first | ((first | apply GdK_st | apply GdK_sf | apply CondK_s) <;> intro hd <;> (try simp only [hd])) | simp (disch := first | assumption | omega | (simp only [nx] <;> omega) | fail) only [hd, hQr, hQn, c34_0, ↓YA, YB, YC, YE, YF, YZ, ↓reduceIte, Nat.reduceEqDiff, Nat.reduceAdd, Nat.reduceMul, Nat.reduceLeDiff, Int.reduceToNat, Int.reduceLE, Int.reduceLT, Int.reduceGT, Int.reduceGE, Int.reduceAdd, Int.reduceSub, Int.reduceNeg, Int.reduceBEq, Int.reduceBNe, d1, wrapu_of, hh, Option.map_some, List.length_singleton])) <;> (try (have hd_ : True := hd; clear hd_ hd)))
   (refine CallK.use (less_sound _ _ _) ?_; rintro _ _ ⟨rfl, k1, rfl⟩)
   by_cases hlt : T[m] < q
   ·have d2 : decide (T[m] < q) = true := decide_eq_true hlt
    ((have hd := trivial; repeat' (first | ((first | apply GdK_st | apply GdK_sf | apply CondK_s) <;> intro hd <;> (try simp only [hd])) | simp (disch := first | assumption | omega | (simp only [nx] <;> omega) | fail) only [hd, hQr, hQn, c34_0, ↓YA, YB, YC, YE, YF, YZ, ↓reduceIte, Nat.reduceEqDiff, Nat.reduceAdd, Nat.reduceMul, Nat.reduceLeDiff, Int.reduceToNat, Int.reduceLE, Int.reduceLT, Int.reduceGT, Int.reduceGE, Int.reduceAdd, Int.reduceSub, Int.reduceNeg, Int.reduceBEq, Int.reduceBNe, d2])) <;> (try (have hd_ : True := hd; clear hd_ hd)))
    refine ⟨(m + 1, j), ⟨hmj, h2, fun k hk h => ?_, h4⟩, by simp only; omega, ⟨AV_i (by push_cast; rfl), rfl⟩, by exact HXT⟩
    by_cases he : k = m
    ·subst he; exact hlt
    ·exact List.lt_trans (mono k m hk hmT (by simp only at h; omega)) hlt
   ·have d2 : decide (T[m] < q) = false := decide_eq_false hlt
    ((have hd := trivial; repeat' (first | ((first | apply GdK_st | apply GdK_sf | apply CondK_s) <;> intro hd <;> (try simp only [hd])) | simp (disch := first | assumption | omega | (simp only [nx] <;> omega) | fail) only [hd, hQr, hQn, c34_0, ↓YA, YB, YC, YE, YF, YZ, ↓reduceIte, Nat.reduceEqDiff, Nat.reduceAdd, Nat.reduceMul, Nat.reduceLeDiff, Int.reduceToNat, Int.reduceLE, Int.reduceLT, Int.reduceGT, Int.reduceGE, Int.reduceAdd, Int.reduceSub, Int.reduceNeg, Int.reduceBEq, Int.reduceBNe, d2])) <;> (try (have hd_ : True := hd; clear hd_ hd)))
    refine ⟨(i, m), ⟨him, by simp only; omega, h3, fun k hk h => ?_⟩, by simp only; omega, ⟨rfl, rfl⟩, by exact HXT⟩
    by_cases he : k = m
    ·subst he; exact hlt
    ·exact fun h5 => hlt (List.lt_trans (mono m k hmT hk (by simp only at h; omega)) h5)
  ·have d1 : decide ((i : Int) < (j : Int)) = false := decide_eq_false (by omega)
   obtain rfl : i = j := by omega
   have hb := below_eq h2 h3 h4
   have hme := mem_at hT h4 h3
   by_cases hi : i < T.length
   ·have d3 : decide ((i : Int) < (T.length : Int)) = true := decide_eq_true (by omega)
    by_cases he : T[i] = q
    ·have d2 : decide (T[i] = q) = true := decide_eq_true he
     have hmem : decide (q ∈ T) = true := decide_eq_true (hme.2 ⟨hi, he⟩)
     ((have hd := trivial; repeat' (first | ((first | apply GdK_st | apply GdK_sf | apply CondK_s) <;> intro hd <;> (try simp only [hd])) | simp (disch := first | assumption | omega | (simp only [nx] <;> omega) | fail) only [hd, hQr, hQn, c34_0, ↓YA, YB, YC, YE, YF, YZ, ↓reduceIte, Nat.reduceEqDiff, Nat.reduceAdd, Nat.reduceMul, Nat.reduceLeDiff, Int.reduceToNat, Int.reduceLE, Int.reduceLT, Int.reduceGT, Int.reduceGE, Int.reduceAdd, Int.reduceSub, Int.reduceNeg, Int.reduceBEq, Int.reduceBNe, d1, d2, d3, Option.map_some, List.length_singleton])) <;> (try (have hd_ : True := hd; clear hd_ hd)))
     refine fin_pA (by rw [hb, hmem]; rfl)
    ·have d2 : decide (T[i] = q) = false := decide_eq_false he
     have hmem : decide (q ∈ T) = false := decide_eq_false fun h => he (hme.1 h).2
     ((have hd := trivial; repeat' (first | ((first | apply GdK_st | apply GdK_sf | apply CondK_s) <;> intro hd <;> (try simp only [hd])) | simp (disch := first | assumption | omega | (simp only [nx] <;> omega) | fail) only [hd, hQr, hQn, c34_0, ↓YA, YB, YC, YE, YF, YZ, ↓reduceIte, Nat.reduceEqDiff, Nat.reduceAdd, Nat.reduceMul, Nat.reduceLeDiff, Int.reduceToNat, Int.reduceLE, Int.reduceLT, Int.reduceGT, Int.reduceGE, Int.reduceAdd, Int.reduceSub, Int.reduceNeg, Int.reduceBEq, Int.reduceBNe, d1, d2, d3, Option.map_some, List.length_singleton])) <;> (try (have hd_ : True := hd; clear hd_ hd)))
     (refine CallK.use (nan1_sound _ _) ?_; rintro _ _ ⟨rfl, k1, rfl⟩)
     ((have hd := trivial; repeat' (first | ((first | apply GdK_st | apply GdK_sf | apply CondK_s) <;> intro hd <;> (try simp only [hd])) | simp (disch := first | assumption | omega | (simp only [nx] <;> omega) | fail) only [hd, hQr, hQn, c34_0, ↓YA, YB, YC, YE, YF, YZ, ↓reduceIte, Nat.reduceEqDiff, Nat.reduceAdd, Nat.reduceMul, Nat.reduceLeDiff, Int.reduceToNat, Int.reduceLE, Int.reduceLT, Int.reduceGT, Int.reduceGE, Int.reduceAdd, Int.reduceSub, Int.reduceNeg, Int.reduceBEq, Int.reduceBNe, d2])) <;> (try (have hd_ : True := hd; clear hd_ hd)))
     refine fin_pA (by rw [hb, hmem]; rfl)
   ·have d3 : decide ((i : Int) < (T.length : Int)) = false := decide_eq_false (by omega)
    have hmem : decide (q ∈ T) = false := decide_eq_false fun h => hi (hme.1 h).1
    ((have hd := trivial; repeat' (first | ((first | apply GdK_st | apply GdK_sf | apply CondK_s) <;> intro hd <;> (try simp only [hd])) | simp (disch := first | assumption | omega | (simp only [nx] <;> omega) | fail) only [hd, hQr, hQn, c34_0, ↓YA, YB, YC, YE, YF, YZ, ↓reduceIte, Nat.reduceEqDiff, Nat.reduceAdd, Nat.reduceMul, Nat.reduceLeDiff, Int.reduceToNat, Int.reduceLE, Int.reduceLT, Int.reduceGT, Int.reduceGE, Int.reduceAdd, Int.reduceSub, Int.reduceNeg, Int.reduceBEq, Int.reduceBNe, d1, d3])) <;> (try (have hd_ : True := hd; clear hd_ hd)))
    refine fin_pA (by rw [hb, hmem]; rfl)
theorem find_sound (t : Tok) (T : List Tx) (q : Tx) (H : AHeap) (hl : T.length ≤ 1000000) (hT : Rising T) : Sound Try.prog 29 [.sl t (rS T), eS q] H (Pure H (.tup [.i (belowT T q : Nat), .b (decide (q ∈ T))])) := by
 refine fn_soundQ hE cf29 (Nat.le_of_ble_eq_true rfl) fun Q hQr hQn => ?_
 ((have hd := trivial; repeat' (first | ((first | apply GdK_st | apply GdK_sf | apply CondK_s) <;> intro hd <;> (try simp only [hd])) | simp (disch := first | assumption | omega | (simp only [nx] <;> omega) | fail) only [hd, hQr, hQn, c29_0, ↓YA, YB, YC, YE, YF, YZ, ↓reduceIte, Nat.reduceEqDiff, Nat.reduceAdd, Nat.reduceMul, Nat.reduceLeDiff, Int.reduceToNat, Int.reduceLE, Int.reduceLT, Int.reduceGT, Int.reduceGE, Int.reduceAdd, Int.reduceSub, Int.reduceNeg, Int.reduceBEq, Int.reduceBNe])) <;> (try (have hd_ : True := hd; clear hd_ hd)))
 (refine CallK.use (bsearch_sound t T q _ hl hT) ?_; rintro _ _ ⟨rfl, k1, rfl⟩)
 ((have hd := trivial; repeat' (first | ((first | apply GdK_st | apply GdK_sf | apply CondK_s) <;> intro hd <;> (try simp only [hd])) | simp (disch := first | assumption | omega | (simp only [nx] <;> omega) | fail) only [hd, hQr, hQn, c29_0, ↓YA, YB, YC, YE, YF, YZ, ↓reduceIte, Nat.reduceEqDiff, Nat.reduceAdd, Nat.reduceMul, Nat.reduceLeDiff, Int.reduceToNat, Int.reduceLE, Int.reduceLT, Int.reduceGT, Int.reduceGE, Int.reduceAdd, Int.reduceSub, Int.reduceNeg, Int.reduceBEq, Int.reduceBNe])) <;> (try (have hd_ : True := hd; clear hd_ hd)))
 refine fin_pA (by rfl)
theorem id_sound {T : List Tx} {id : Nat} (q : Tx) (H : AHeap) (hd : DictA T id H) (hl : T.length ≤ 1000000) (hT : Rising T) : Sound Try.prog 11 [.ptr id 0, eS q] H (Pure H (.tup [.i (if q ∈ T then (belowT T q : Int) else 0), .b (decide (q ∈ T))])) := by
 obtain ⟨t, hg⟩ := hd
 have hlt := AHeap.lt hg
 by_cases hm : q ∈ T
 ·have d1 : decide (q ∈ T) = true := decide_eq_true hm
  rw [if_pos hm, d1]
  refine fn_soundQ hE cf11 (Nat.le_of_ble_eq_true rfl) fun Q hQr hQn => ?_
  ((have hd := trivial; repeat' (first | ((first | apply GdK_st | apply GdK_sf | apply CondK_s) <;> intro hd <;> (try simp only [hd])) | simp (disch := first | assumption | omega | (simp only [nx] <;> omega) | fail) only [hd, hQr, hQn, c11_0, ↓YA, YB, YC, YE, YF, YZ, ↓reduceIte, Nat.reduceEqDiff, Nat.reduceAdd, Nat.reduceMul, Nat.reduceLeDiff, Int.reduceToNat, Int.reduceLE, Int.reduceLT, Int.reduceGT, Int.reduceGE, Int.reduceAdd, Int.reduceSub, Int.reduceNeg, Int.reduceBEq, Int.reduceBNe, hg])) <;> (try (have hd_ : True := hd; clear hd_ hd)))
  (refine CallK.use (find_sound t T q _ hl hT) ?_; rintro _ _ ⟨rfl, k1, rfl⟩)
  ((have hd := trivial; repeat' (first | ((first | apply GdK_st | apply GdK_sf | apply CondK_s) <;> intro hd <;> (try simp only [hd])) | simp (disch := first | assumption | omega | (simp only [nx] <;> omega) | fail) only [hd, hQr, hQn, c11_0, ↓YA, YB, YC, YE, YF, YZ, ↓reduceIte, Nat.reduceEqDiff, Nat.reduceAdd, Nat.reduceMul, Nat.reduceLeDiff, Int.reduceToNat, Int.reduceLE, Int.reduceLT, Int.reduceGT, Int.reduceGE, Int.reduceAdd, Int.reduceSub, Int.reduceNeg, Int.reduceBEq, Int.reduceBNe, d1])) <;> (try (have hd_ : True := hd; clear hd_ hd)))
  refine fin_pA (by rfl)
 ·have d1 : decide (q ∈ T) = false := decide_eq_false hm
  rw [if_neg hm, d1]
  refine fn_soundQ hE cf11 (Nat.le_of_ble_eq_true rfl) fun Q hQr hQn => ?_
  ((have hd := trivial; repeat' (first | ((first | apply GdK_st | apply GdK_sf | apply CondK_s) <;> intro hd <;> (try simp only [hd])) | simp (disch := first | assumption | omega | (simp only [nx] <;> omega) | fail) only [hd, hQr, hQn, c11_0, ↓YA, YB, YC, YE, YF, YZ, ↓reduceIte, Nat.reduceEqDiff, Nat.reduceAdd, Nat.reduceMul, Nat.reduceLeDiff, Int.reduceToNat, Int.reduceLE, Int.reduceLT, Int.reduceGT, Int.reduceGE, Int.reduceAdd, Int.reduceSub, Int.reduceNeg, Int.reduceBEq, Int.reduceBNe, hg])) <;> (try (have hd_ : True := hd; clear hd_ hd)))
  (refine CallK.use (find_sound t T q _ hl hT) ?_; rintro _ _ ⟨rfl, k1, rfl⟩)
  ((have hd := trivial; repeat' (first | ((first | apply GdK_st | apply GdK_sf | apply CondK_s) <;> intro hd <;> (try simp only [hd])) | simp (disch := first | assumption | omega | (simp only [nx] <;> omega) | fail) only [hd, hQr, hQn, c11_0, ↓YA, YB, YC, YE, YF, YZ, ↓reduceIte, Nat.reduceEqDiff, Nat.reduceAdd, Nat.reduceMul, Nat.reduceLeDiff, Int.reduceToNat, Int.reduceLE, Int.reduceLT, Int.reduceGT, Int.reduceGE, Int.reduceAdd, Int.reduceSub, Int.reduceNeg, Int.reduceBEq, Int.reduceBNe, d1])) <;> (try (have hd_ : True := hd; clear hd_ hd)))
  refine fin_pA (by rfl)
theorem terms_sound {T : List Tx} {id : Nat} (H : AHeap) (hd : DictA T id H) (hl : T.length ≤ 1000000) : Sound Try.prog 14 [.ptr id 0] H (Pure H (.sl .no (rS T))) := by
 obtain ⟨t, hg⟩ := hd
 have hlt := AHeap.lt hg
 refine fn_soundQ hE cf14 (Nat.le_of_ble_eq_true rfl) fun Q hQr hQn => ?_
 ((have hd := trivial; repeat' (first | ((first | apply GdK_st | apply GdK_sf | apply CondK_s) <;> intro hd <;> (try simp only [hd])) | simp (disch := first | assumption | omega | (simp only [nx] <;> omega) | fail) only [hd, hQr, hQn, c14_0, ↓YA, YB, YC, YE, YF, YZ, ↓reduceIte, Nat.reduceEqDiff, Nat.reduceAdd, Nat.reduceMul, Nat.reduceLeDiff, Int.reduceToNat, Int.reduceLE, Int.reduceLT, Int.reduceGT, Int.reduceGE, Int.reduceAdd, Int.reduceSub, Int.reduceNeg, Int.reduceBEq, Int.reduceBNe, hg])) <;> (try (have hd_ : True := hd; clear hd_ hd)))
 (refine CallK.use (clone_sound t T _ hl) ?_; rintro _ _ ⟨rfl, k1, rfl⟩)
 ((have hd := trivial; repeat' (first | ((first | apply GdK_st | apply GdK_sf | apply CondK_s) <;> intro hd <;> (try simp only [hd])) | simp (disch := first | assumption | omega | (simp only [nx] <;> omega) | fail) only [hd, hQr, hQn, c14_0, ↓YA, YB, YC, YE, YF, YZ, ↓reduceIte, Nat.reduceEqDiff, Nat.reduceAdd, Nat.reduceMul, Nat.reduceLeDiff, Int.reduceToNat, Int.reduceLE, Int.reduceLT, Int.reduceGT, Int.reduceGE, Int.reduceAdd, Int.reduceSub, Int.reduceNeg, Int.reduceBEq, Int.reduceBNe])) <;> (try (have hd_ : True := hd; clear hd_ hd)))
 refine fin_pA (by rfl)
abbrev l0 : List Tx := [[98], [97], [98]]
theorem wrong_l0 : wrongT l0 = 0 := by decide +kernel
theorem sort_l0 : sortT l0 = [[97], [98]] := by decide +kernel
theorem below_l0 : belowT [[97], [98]] [98] = 1 := by decide +kernel
set_option maxHeartbeats 1000000 in
theorem awake_sound (H : AHeap) : Sound Try.prog 7 [] H (Pure H (.b true)) := by
 have hN : ∀ t G, Sound Try.prog 8 [.sl t [[eS [98]], [eS [97]], [eS [98]]]] G (fun r G' => AHeap.Ext G G' ∧ ∃ id, r = .tup [.ptr id 0, .i 0] ∧ DictA [[97], [98]] id G') := fun t G => (new_sound t l0 G (by decide)).mono fun r G' h => by
  obtain ⟨h1, h2⟩ := h
  rcases h2 with ⟨h2, _⟩ | ⟨_, h2⟩
  ·exact absurd wrong_l0 h2
  ·rw [sort_l0] at h2
   exact ⟨h1, h2⟩
 have hr : Rising [[97], [98]] := by rw [← sort_l0]; exact sortT_rise _
 have hI : ∀ id G, DictA [[97], [98]] id G → Sound Try.prog 11 [.ptr id 0, eS [98]] G (Pure G (.tup [.i 1, .b true])) := fun id G h => by
  have := id_sound [98] G h (by decide) hr
  rw [if_pos (by decide), below_l0, decide_eq_true (by decide)] at this
  exact this
 have hTx : ∀ G, Sound Try.prog 13 [.sl .no (rS [[97], [98]]), .sl .full [[eS [97]], [eS [98]]]] G (Pure G (.b true)) := fun G => by
  have := texts_sound .no .full [[97], [98]] [[97], [98]] G (by decide)
  rw [decide_eq_true rfl] at this
  exact this
 refine fn_soundQ hE cf7 (Nat.le_of_ble_eq_true rfl) fun Q hQr hQn => ?_
 ((have hd := trivial; repeat' (first | ((first | apply GdK_st | apply GdK_sf | apply CondK_s) <;> intro hd <;> (try simp only [hd])) | simp (disch := first | assumption | omega | (simp only [nx] <;> omega) | fail) only [hd, hQr, hQn, c7_0, ↓YA, YB, YC, YE, YF, YZ, ↓reduceIte, Nat.reduceEqDiff, Nat.reduceAdd, Nat.reduceMul, Nat.reduceLeDiff, Int.reduceToNat, Int.reduceLE, Int.reduceLT, Int.reduceGT, Int.reduceGE, Int.reduceAdd, Int.reduceSub, Int.reduceNeg, Int.reduceBEq, Int.reduceBNe, rowsOf])) <;> (try (have hd_ : True := hd; clear hd_ hd)))
 refine CallK.use (hN _ _) ?_
 rintro _ H1 ⟨hx1, id, rfl, hd⟩
 ((have hd := trivial; repeat' (first | ((first | apply GdK_st | apply GdK_sf | apply CondK_s) <;> intro hd <;> (try simp only [hd])) | simp (disch := first | assumption | omega | (simp only [nx] <;> omega) | fail) only [hd, hQr, hQn, c7_0, ↓YA, YB, YC, YE, YF, YZ, ↓reduceIte, Nat.reduceEqDiff, Nat.reduceAdd, Nat.reduceMul, Nat.reduceLeDiff, Int.reduceToNat, Int.reduceLE, Int.reduceLT, Int.reduceGT, Int.reduceGE, Int.reduceAdd, Int.reduceSub, Int.reduceNeg, Int.reduceBEq, Int.reduceBNe])) <;> (try (have hd_ : True := hd; clear hd_ hd)))
 (refine CallK.use (hI id _ hd) ?_; rintro _ _ ⟨rfl, k1, rfl⟩)
 ((have hd := trivial; repeat' (first | ((first | apply GdK_st | apply GdK_sf | apply CondK_s) <;> intro hd <;> (try simp only [hd])) | simp (disch := first | assumption | omega | (simp only [nx] <;> omega) | fail) only [hd, hQr, hQn, c7_0, ↓YA, YB, YC, YE, YF, YZ, ↓reduceIte, Nat.reduceEqDiff, Nat.reduceAdd, Nat.reduceMul, Nat.reduceLeDiff, Int.reduceToNat, Int.reduceLE, Int.reduceLT, Int.reduceGT, Int.reduceGE, Int.reduceAdd, Int.reduceSub, Int.reduceNeg, Int.reduceBEq, Int.reduceBNe])) <;> (try (have hd_ : True := hd; clear hd_ hd)))
 (refine CallK.use (terms_sound (T := [[97], [98]]) (H1.bump k1) hd (by decide)) ?_; rintro _ _ ⟨rfl, k2, rfl⟩)
 ((have hd := trivial; repeat' (first | ((first | apply GdK_st | apply GdK_sf | apply CondK_s) <;> intro hd <;> (try simp only [hd])) | simp (disch := first | assumption | omega | (simp only [nx] <;> omega) | fail) only [hd, hQr, hQn, c7_0, ↓YA, YB, YC, YE, YF, YZ, ↓reduceIte, Nat.reduceEqDiff, Nat.reduceAdd, Nat.reduceMul, Nat.reduceLeDiff, Int.reduceToNat, Int.reduceLE, Int.reduceLT, Int.reduceGT, Int.reduceGE, Int.reduceAdd, Int.reduceSub, Int.reduceNeg, Int.reduceBEq, Int.reduceBNe, rowsOf])) <;> (try (have hd_ : True := hd; clear hd_ hd)))
 (refine CallK.use (hTx _) ?_; rintro _ _ ⟨rfl, k3, rfl⟩)
 ((have hd := trivial; repeat' (first | ((first | apply GdK_st | apply GdK_sf | apply CondK_s) <;> intro hd <;> (try simp only [hd])) | simp (disch := first | assumption | omega | (simp only [nx] <;> omega) | fail) only [hd, hQr, hQn, c7_0, ↓YA, YB, YC, YE, YF, YZ, ↓reduceIte, Nat.reduceEqDiff, Nat.reduceAdd, Nat.reduceMul, Nat.reduceLeDiff, Int.reduceToNat, Int.reduceLE, Int.reduceLT, Int.reduceGT, Int.reduceGE, Int.reduceAdd, Int.reduceSub, Int.reduceNeg, Int.reduceBEq, Int.reduceBNe])) <;> (try (have hd_ : True := hd; clear hd_ hd)))
 exact fin_bA rfl
theorem eS_of (s : ByteArray) : eS s.data.toList = .sc (.string s) := by cases s; rfl
section
variable {W : World}
theorem arg_str (s : ByteArray) : VR (Gh.ro (allRO W)) W (eS s.data.toList) (.string s) := by rw [eS_of]; exact .sc _
end
end Go.Proofs.Ytabcgofihdklbaa
