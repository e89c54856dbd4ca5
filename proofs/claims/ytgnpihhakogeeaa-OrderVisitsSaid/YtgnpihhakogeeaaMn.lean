/- Texts of the walk, joined: Vc Vd Ve Vf Vg. -/
import Derived.Test.YtgnpihhakogeeaaMd
import Derived.Test.YtgnpihhakogeeaaMq
import Derived.Test.YtgnpihhakogeeaaMm
namespace Go.Proofs.Ytgnpihhakogeeaa
set_option linter.unusedSimpArgs false
set_option linter.unusedVariables false
open Go.RowKit

theorem flat_lenA {sz : Nat} : ∀ {rows : List (List AV)}, (∀ q ∈ rows, q.length = sz) → rows.flatten.length = rows.length * sz
  | [], _ => by simp
  | q :: rows, h => by
    simp only [List.flatten_cons, List.length_append, List.length_cons]
    rw [flat_lenA fun q hq => h q (List.mem_cons_of_mem _ hq), h q (List.mem_cons_self ..), Nat.add_mul]
    omega
/-- what is appended to an object of rows: in place, or a new object -/
theorem apv_push {H : AHeap} {E sz bytes id cap : Nat} {zero : List AV} {rows : List (List AV)} {tail r : List AV} {x : AV} {K : AV → AHeap → Prop}
    (ho : H.get id = some (.cells (rows.flatten ++ tail) E)) (hl : ∀ q ∈ rows, q.length = sz) (hx : rowsIn H sz x = some [r]) (hr : r.length = sz)
    (hcl : (rows.flatten ++ tail).length = cap * sz) (hn : rows.length ≤ cap) (h63 : rows.length + 1 ≤ maxLen) (hby : (rows.length + 1) * bytes ≤ 140737488355328) (hz : zero.length = sz)
    (k : ∀ id' cap' tail' H', (id' = id ∧ H' = H.set id (.cells ((rows ++ [r]).flatten ++ tail') E)) ∨ (id' = H.next ∧ H' = H.alloc (.cells ((rows ++ [r]).flatten ++ tail') E)) → ((rows ++ [r]).flatten ++ tail').length = cap' * sz → rows.length + 1 ≤ cap' → cap' ≤ maxLen ∨ cap' = cap → K (.arr id' 0 (rows.length + 1) cap') H') :
    ApvK H E sz bytes zero (.arr id 0 rows.length cap) x K := by
  have hfl := flat_lenA hl
  unfold ApvK
  rw [hx]
  simp only [ho]
  refine ⟨⟨trivial, trivial, by simp, by simp [allLen, hr], hcl, hn, h63, hby⟩, fun h1 => ?_, fun h1 c h2 h3 => ?_⟩
  · have htl : sz ≤ tail.length := by
      rw [List.length_append, hfl] at hcl
      have : (rows.length + 1) * sz ≤ cap * sz := Nat.mul_le_mul_right _ h1
      rw [Nat.add_mul] at this
      omega
    have e : splice (rows.flatten ++ tail) (rows.length * sz) [r].flatten = (rows ++ [r]).flatten ++ tail.drop sz := by
      unfold splice
      rw [← hfl, List.take_left]
      simp only [List.flatten_append, List.flatten_cons, List.flatten_nil, List.append_nil, hr]
      rw [List.drop_length_add_append]
    rw [e]
    refine k id cap (tail.drop sz) _ (.inl ⟨rfl, rfl⟩) ?_ h1 (.inr rfl)
    rw [← hcl]
    simp only [List.flatten_append, List.flatten_cons, List.flatten_nil, List.append_nil, List.length_append, List.length_drop, hr]
    omega
  · have e : (rows.flatten ++ tail).take (rows.length * sz) ++ ([r].flatten ++ (List.replicate (c - (rows.length + 1)) zero).flatten) = (rows ++ [r]).flatten ++ (List.replicate (c - (rows.length + 1)) zero).flatten := by
      rw [← hfl, List.take_left]
      simp
    have hlen1 : [r].length = 1 := rfl
    simp only [hlen1] at h1 h2 ⊢
    rw [e]
    refine k H.next c _ _ (.inr ⟨rfl, rfl⟩) ?_ h2 (.inl h3)
    have hrep := flat_lenA (sz := sz) (rows := List.replicate (c - (rows.length + 1)) zero) (fun q hq => by rw [(List.mem_replicate.1 hq).2]; exact hz)
    rw [List.length_append, hrep, List.length_replicate]
    simp only [List.flatten_append, List.flatten_cons, List.flatten_nil, List.append_nil, List.length_append, hfl, hr]
    have : c * sz = (rows.length + 1) * sz + (c - (rows.length + 1)) * sz := by rw [← Nat.add_mul]; congr 1; omega
    rw [this, Nat.add_mul]
    omega
end Go.Proofs.Ytgnpihhakogeeaa

namespace Go.Proofs.Ytgnpihhakogeeaa
set_option linter.unusedSimpArgs false
set_option linter.unusedVariables false
open Go.RowKit

def v31_1 : ACode := .blk 0 (.loop (.seq (.seq (.reg [im 27 7, io 28 (.len false (.t 27)), io 29 (.bin .gtr (.t 28) (ik 0))]) (.cond (.t 29) .skip (.exit 0))) (.blk 1 (.seq (.reg [im 30 7, im 31 7, io 32 (.len false (.t 31)), io 33 (.bin .sub (.t 32) (ik 1)), io 34 (.ixa 2 (.t 30) (.t 33)), im 8 34]) (.seq (.seq (.reg [im 35 8, io 36 (.nck (.t 35)), io 37 (.fla 1 (.t 36)), io 38 (.ld 1 false (.t 37)), io 39 (.len false (.t 38)), io 40 (.bin .eql (.t 39) (ik 0))]) (.cond (.t 40) (.seq (.reg [im 41 6, im 42 8, io 43 (.nck (.t 42)), io 44 (.fla 0 (.t 43)), io 45 (.ld 1 false (.t 44)), io 46 (.bsl 1 [.t 45]), io 47 (.app 3 1 8 (.t 41) (.t 46)), im 6 47]) (.seq (.reg [im 48 7, im 49 7, io 50 (.len false (.t 49)), io 51 (.bin .sub (.t 50) (ik 1)), io 52 (.slc 2 (.t 48) none (some (.t 51)) none), im 7 52]) (.exit 1))) .skip)) (.seq (.reg [im 53 8, io 54 (.nck (.t 53)), io 55 (.fla 1 (.t 54)), io 56 (.ld 1 false (.t 55)), io 57 (.ixa 1 (.t 56) (ik 0)), io 58 (.ld 1 false (.t 57)), im 9 58]) (.seq (.reg [im 59 8, im 60 8, io 61 (.nck (.t 60)), io 62 (.fla 1 (.t 61)), io 63 (.ld 1 false (.t 62)), io 64 (.slc 1 (.t 63) (some (ik 1)) none none), io 65 (.nck (.t 59)), io 66 (.fla 1 (.t 65)), iz (.st 1 (.t 66) (.t 64))]) (.seq (.reg [im 67 5, im 68 9, io 69 (.lkp (.one (.int .i64)) (.sc (.int .i64 0)) false (.t 67) (.t 68)), io 70 (.bin .add (.t 69) (ik 1)), iz (.mup (.one (.int .i64)) (.t 67) (.t 68) (.t 70))]) (.seq (.reg [im 71 5, im 72 9, io 73 (.lkp (.one (.int .i64)) (.sc (.int .i64 0)) false (.t 71) (.t 72)), io 74 (.bin .eql (.t 73) (ik 1))]) (.cond (.t 74) (.reg [im 75 7, im 76 9, im 77 0, im 78 9, io 79 (.call (jf 63) [.t 77, .t 78]), io 80 (.bld [.sc (.int .i64 0), .sl .full []] [(0, (1, .t 76)), (1, (1, .t 79))]), io 81 (.bsv 107 2 [.t 80]), io 82 (.apv 107 2 32 [.sc (.int .i64 0), .sl .full []] (.t 75) (.t 81)), im 7 82]) .skip))))))))))
def v31_0 : ACode := .seq (.reg [io 4 (.mv jn)]) (.seq (.seq (.reg [im 10 1, io 11 (.bin .lss (.t 10) (ik 0)), im 12 11, ih 12 13 (.mv (.t 1)), ih 12 14 (.mv (.t 0)), ih 12 15 (.call (jf 56) [.t 14]), ih 12 16 (.bin .geq (.t 13) (.t 15)), io 17 (.pick (.t 12) (ib true) (.t 16))]) (.cond (.t 17) (.seq (.reg [io 4 (.mv jn)]) .ret) .skip)) (.seq (.reg [io 18 (.mkm (.one (.int .i64))), im 19 1, iz (.mup (.one (.int .i64)) (.t 18) (.t 19) (ik 1)), im 20 18, im 5 20]) (.seq (.reg [io 6 (.mv jn)]) (.seq (.reg [im 21 1, im 22 0, im 23 1, io 24 (.call (jf 63) [.t 22, .t 23]), io 25 (.bld [.sc (.int .i64 0), .sl .full []] [(0, (1, .t 21)), (1, (1, .t 24))]), io 26 (.bsv 107 2 [.t 25]), im 7 26]) (.seq v31_1 (.seq (.reg [im 83 6, im 4 83]) .ret))))))
theorem vf31 : cFn Try.prog eqTf 31 = some (v31_0, [(.tmp 4)], 84) := by kernel_rfl
def zvl0 : List AV := [.sc (.pointer none), .sc (.int .i64 0), .sl .full [], .sc (.int .i64 0), .sl .full [], .sc (.int .i64 0)]
def zva1 : AV := .agg [.sc (.int .i64 0), .sl .full [], .sc (.int .i64 0), .sc (.int .i64 0), .sc (.int .i64 0), .sc (.int .i64 0), .sc (.int .i64 0), .sc (.int .i64 0), .sc (.int .i64 0), .sc (.int .i64 0), .sc (.int .i64 0), .sc (.int .i64 0), .sc (.int .i64 0), .sc (.int .i64 0)]
def zva2 : AV := .agg [.sc (.int .i64 0), .sc (.int .i64 0), .sc (.int .i64 0), .sc (.int .i64 0), .sc (.int .i64 0), .sc (.int .i64 0), .sc (.int .i64 0), .sc (.int .i64 0), .sc (.int .i64 0), .sc (.int .i64 0), .sc (.int .i64 0), .sc (.int .i64 0)]
def zvl3 : List AV := [.sl .full [], .sc (.int .i64 0), .sc (.int .i64 0), .sc (.int .i64 0), .sc (.int .i64 0), .sc (.int .i64 0), .sc (.int .i64 0), .sc (.int .i64 0), .sc (.int .i64 0), .sc (.int .i64 0), .sc (.int .i64 0)]
theorem YZv : True ∧ zvl0 = [.sc (.pointer none), .sc (.int .i64 0), .sl .full [], .sc (.int .i64 0), .sl .full [], .sc (.int .i64 0)] ∧ zva1 = .agg [.sc (.int .i64 0), .sl .full [], .sc (.int .i64 0), .sc (.int .i64 0), .sc (.int .i64 0), .sc (.int .i64 0), .sc (.int .i64 0), .sc (.int .i64 0), .sc (.int .i64 0), .sc (.int .i64 0), .sc (.int .i64 0), .sc (.int .i64 0), .sc (.int .i64 0), .sc (.int .i64 0)] ∧ zva2 = .agg [.sc (.int .i64 0), .sc (.int .i64 0), .sc (.int .i64 0), .sc (.int .i64 0), .sc (.int .i64 0), .sc (.int .i64 0), .sc (.int .i64 0), .sc (.int .i64 0), .sc (.int .i64 0), .sc (.int .i64 0), .sc (.int .i64 0), .sc (.int .i64 0)] ∧ zvl3 = [.sl .full [], .sc (.int .i64 0), .sc (.int .i64 0), .sc (.int .i64 0), .sc (.int .i64 0), .sc (.int .i64 0), .sc (.int .i64 0), .sc (.int .i64 0), .sc (.int .i64 0), .sc (.int .i64 0), .sc (.int .i64 0)] := ⟨trivial, rfl, rfl, rfl, rfl⟩
end Go.Proofs.Ytgnpihhakogeeaa

namespace Go.Proofs.Ytgnpihhakogeeaa
set_option linter.unusedSimpArgs false
set_option linter.unusedVariables false
open Go.RowKit

set_option maxHeartbeats 4000000 in
theorem below_sound {H : AHeap} {id : Nat} {x : Shp} {l : List Nod} (ha : ArA H id x l) (hw : ArW x l) (i : Int) : Sound Try.prog 63 [.ptr id 0, .i i] H (Pure H (.sl .no (rI (chs x l i)))) := by
  obtain ⟨b1, b2, b3⟩ := hw.bounds
  refine fn_soundQ hE cf63 (Nat.le_of_ble_eq_true rfl) fun Q hQr hQn => ?_
  ((have hd := trivial; repeat' (first | ((first | refine GdK_st (fun hd => ?_) (fun hd => ?_) | refine GdK_sf (fun hd => ?_) (fun hd => ?_) | refine CondK_s (fun hd => ?_) (fun hd => ?_)) <;> (try simp only [hd])) | simp (disch := first | assumption | omega | (simp only [nx] <;> omega) | fail) only [hd, hQr, hQn, c63_0, ↓YA, YB, YC, YE, YF, YZ, ↓reduceIte, Nat.reduceEqDiff, Nat.reduceAdd, Nat.reduceMul, Nat.reduceLeDiff, Int.reduceToNat, Int.reduceLE, Int.reduceLT, Int.reduceGT, Int.reduceGE, Int.reduceAdd, Int.reduceSub, Int.reduceNeg, Int.reduceBEq, Int.reduceBNe])) <;> (try (have hd_ : True := hd; clear hd_ hd)))
  refine CallK.use (anode_sound i ha b1 hw.small) ?_
  rintro r G1 ⟨hx1, t1, rfl⟩
  ((have hd := trivial; repeat' (first | ((first | refine GdK_st (fun hd => ?_) (fun hd => ?_) | refine GdK_sf (fun hd => ?_) (fun hd => ?_) | refine CondK_s (fun hd => ?_) (fun hd => ?_)) <;> (try simp only [hd])) | simp (disch := first | assumption | omega | (simp only [nx] <;> omega) | fail) only [hd, hQr, hQn, c63_0, ↓YA, YB, YC, YE, YF, YZ, ↓reduceIte, Nat.reduceEqDiff, Nat.reduceAdd, Nat.reduceMul, Nat.reduceLeDiff, Int.reduceToNat, Int.reduceLE, Int.reduceLT, Int.reduceGT, Int.reduceGE, Int.reduceAdd, Int.reduceSub, Int.reduceNeg, Int.reduceBEq, Int.reduceBNe])) <;> (try (have hd_ : True := hd; clear hd_ hd)))
  have hX := nodAt_small i hw.small
  have hg0 : (G1.alloc (.cells (eNod t1 (nodAt l i)) 45)).get G1.next = some (.cells (eNod t1 (nodAt l i)) 45) := AHeap.get_alloc_self
  obtain ⟨_, _, _, g1⟩ := ((ha.ext hx1).ext (AHeap.Ext.alloc (AHeap.Ext.refl G1) (o := .cells (eNod t1 (nodAt l i)) 45))).eAr
  have hxG : AHeap.Ext H (G1.alloc (.cells (eNod t1 (nodAt l i)) 45)) := by exact AXT
  generalize hid : G1.next = n0 at *
  generalize G1.alloc (.cells (eNod t1 (nodAt l i)) 45) = G2 at *
  refine CallK.use (shape_yes g1 hw.may) ?_
  rintro r G3 ⟨hx3, t3, rfl⟩
  have c1 := hx3.get _ _ hg0
  have e1 := AHeap.lt c1
  have hxG3 := hxG.trans hx3
  have hchs : chs x l i = if lastB x (nodAt l i).dim = true then [] else (each (nodAt l i)).map Cel.child := rfl
  generalize nodAt l i = X at *
  ((have hd := trivial; repeat' (first | ((first | refine GdK_st (fun hd => ?_) (fun hd => ?_) | refine GdK_sf (fun hd => ?_) (fun hd => ?_) | refine CondK_s (fun hd => ?_) (fun hd => ?_)) <;> (try simp only [hd])) | simp (disch := first | assumption | omega | (simp only [nx] <;> omega) | fail) only [hd, hQr, hQn, c63_0, ↓YA, YB, YC, YE, YF, YZ, ↓reduceIte, Nat.reduceEqDiff, Nat.reduceAdd, Nat.reduceMul, Nat.reduceLeDiff, Int.reduceToNat, Int.reduceLE, Int.reduceLT, Int.reduceGT, Int.reduceGE, Int.reduceAdd, Int.reduceSub, Int.reduceNeg, Int.reduceBEq, Int.reduceBNe, c1, hg0])) <;> (try (have hd_ : True := hd; clear hd_ hd)))
  (refine CallK.use (last_sound t3 x X.dim _ (by omega)) ?_; rintro _ _ ⟨rfl, k1, rfl⟩)
  have hb := bfd (lastB x X.dim)
  rcases hb with hb | hb
  · rw [hb] at hchs
    simp only [Bool.false_eq_true, if_false] at hchs
    rw [hchs] at hQr hQn
    have hel := each_len hX
    ((have hd := trivial; repeat' (first | ((first | refine GdK_st (fun hd => ?_) (fun hd => ?_) | refine GdK_sf (fun hd => ?_) (fun hd => ?_) | refine CondK_s (fun hd => ?_) (fun hd => ?_)) <;> (try simp only [hd])) | simp (disch := first | assumption | omega | (simp only [nx] <;> omega) | fail) only [hd, hQr, hQn, c63_0, ↓YA, YB, YC, YE, YF, YZ, ↓reduceIte, Nat.reduceEqDiff, Nat.reduceAdd, Nat.reduceMul, Nat.reduceLeDiff, Int.reduceToNat, Int.reduceLE, Int.reduceLT, Int.reduceGT, Int.reduceGE, Int.reduceAdd, Int.reduceSub, Int.reduceNeg, Int.reduceBEq, Int.reduceBNe, hb, c1])) <;> (try (have hd_ : True := hd; clear hd_ hd)))
    (refine CallK.use (each_sound t1 X _ hX.1 (by have := hX.2.1; omega)) ?_; rintro _ _ ⟨rfl, k2, rfl⟩)
    ((have hd := trivial; repeat' (first | ((first | refine GdK_st (fun hd => ?_) (fun hd => ?_) | refine GdK_sf (fun hd => ?_) (fun hd => ?_) | refine CondK_s (fun hd => ?_) (fun hd => ?_)) <;> (try simp only [hd])) | simp (disch := first | assumption | omega | (simp only [nx] <;> omega) | fail) only [hd, hQr, hQn, c63_0, ↓YA, YB, YC, YE, YF, YZ, ↓reduceIte, Nat.reduceEqDiff, Nat.reduceAdd, Nat.reduceMul, Nat.reduceLeDiff, Int.reduceToNat, Int.reduceLE, Int.reduceLT, Int.reduceGT, Int.reduceGE, Int.reduceAdd, Int.reduceSub, Int.reduceNeg, Int.reduceBEq, Int.reduceBNe])) <;> (try (have hd_ : True := hd; clear hd_ hd)))
    generalize hcc : each X = es at *
    have hxG4 : AHeap.Ext H ((G3.bump k1).bump k2) := by exact AXT
    generalize (G3.bump k1).bump k2 = G4 at *
    refine AW_for [22, 23] (σ := Unit) (fun (k : Nat) s => True) (fun k s => [(7, .sl (.own G4.next) (rI ((es.take k).map Cel.child)))]) (fun k s => [(G4.next, .tok k 3 1)]) () (GStep.tok 7 3 1 rfl) (by simp only [keep_nil, keep_cons, Fr.put, Fr.get, ↓reduceIte, Nat.reduceEqDiff]; rfl) (by intro k s; rfl) (by intro k s; rfl) (by rfl) (by unfold maxLen; omega) ?_ (by simp only [FrL_nil, FrL_cons, Fr.put, Fr.get, ↓reduceIte, Nat.reduceEqDiff, and_self] <;> simp) ?_ ?_ ?_
    · trivial
    · rw [ObjL_cons]
      exact ⟨AHeap.get_alloc_self (H := G4), by simp [ObjL]⟩
    · (rintro k s G hk ht hG hn; try simp only [nx] at hn)
      have hg := hG.o (_, _) (List.mem_singleton.2 rfl)
      have hlg := AHeap.lt hg
      have hlen : ((es.take k).map Cel.child).length = k := by simp; omega
      have la1 := allLen_rI ((es.take k).map Cel.child)
      have la2 : allLen 1 [[AV.i es[k].child]] = true := rfl
      have lm1 : k + 1 ≤ maxLen := by unfold maxLen; omega
      have lm2 : (k + 1) * 8 ≤ 140737488355328 := by omega
      have hsn : rI ((es.take k).map Cel.child) ++ [[AV.i es[k].child]] = rI ((es.take (k + 1)).map Cel.child) := by rw [take_map_snoc hk]; simp
      generalize ((es.take k).map Cel.child) = D at *
      ((have hd := trivial; repeat' (first | ((first | refine GdK_st (fun hd => ?_) (fun hd => ?_) | refine GdK_sf (fun hd => ?_) (fun hd => ?_) | refine CondK_s (fun hd => ?_) (fun hd => ?_)) <;> (try simp only [hd])) | simp (disch := first | assumption | omega | (simp only [nx] <;> omega) | fail) only [hd, hQr, hQn, c63_0, ↓YA, YB, YC, YE, YF, YZ, ↓reduceIte, Nat.reduceEqDiff, Nat.reduceAdd, Nat.reduceMul, Nat.reduceLeDiff, Int.reduceToNat, Int.reduceLE, Int.reduceLT, Int.reduceGT, Int.reduceGE, Int.reduceAdd, Int.reduceSub, Int.reduceNeg, Int.reduceBEq, Int.reduceBNe, hg, la1, la2, lm1, lm2, hlen])) <;> (try (have hd_ : True := hd; clear hd_ hd)))
      exact ⟨(), congrArg (AV.sl _) hsn, hG.alloc.put⟩
    · (rintro s G ht hG hn; try simp only [nx] at hn)
      ((have hd := trivial; repeat' (first | ((first | refine GdK_st (fun hd => ?_) (fun hd => ?_) | refine GdK_sf (fun hd => ?_) (fun hd => ?_) | refine CondK_s (fun hd => ?_) (fun hd => ?_)) <;> (try simp only [hd])) | simp (disch := first | assumption | omega | (simp only [nx] <;> omega) | fail) only [hd, hQr, hQn, c63_0, ↓YA, YB, YC, YE, YF, YZ, ↓reduceIte, Nat.reduceEqDiff, Nat.reduceAdd, Nat.reduceMul, Nat.reduceLeDiff, Int.reduceToNat, Int.reduceLE, Int.reduceLT, Int.reduceGT, Int.reduceGE, Int.reduceAdd, Int.reduceSub, Int.reduceNeg, Int.reduceBEq, Int.reduceBNe])) <;> (try (have hd_ : True := hd; clear hd_ hd)))
      rw [List.take_length]
      exact fin_pure (hxG4.trans (hG.extO (AHeap.Ext.refl G4).alloc (by simp))) rfl
  · rw [hb] at hchs
    simp only [if_true] at hchs
    rw [hchs] at hQr hQn
    ((have hd := trivial; repeat' (first | ((first | refine GdK_st (fun hd => ?_) (fun hd => ?_) | refine GdK_sf (fun hd => ?_) (fun hd => ?_) | refine CondK_s (fun hd => ?_) (fun hd => ?_)) <;> (try simp only [hd])) | simp (disch := first | assumption | omega | (simp only [nx] <;> omega) | fail) only [hd, hQr, hQn, c63_0, ↓YA, YB, YC, YE, YF, YZ, ↓reduceIte, Nat.reduceEqDiff, Nat.reduceAdd, Nat.reduceMul, Nat.reduceLeDiff, Int.reduceToNat, Int.reduceLE, Int.reduceLT, Int.reduceGT, Int.reduceGE, Int.reduceAdd, Int.reduceSub, Int.reduceNeg, Int.reduceBEq, Int.reduceBNe, hb])) <;> (try (have hd_ : True := hd; clear hd_ hd)))
    exact fin_pure (by exact AXT) rfl
end Go.Proofs.Ytgnpihhakogeeaa

namespace Go.Proofs.Ytgnpihhakogeeaa
set_option linter.unusedSimpArgs false
set_option linter.unusedVariables false
open Go.RowKit

theorem foldl_mem {α β : Type} {f g : β → α → β} : ∀ (l : List α) (b : β), (∀ b, ∀ a ∈ l, f b a = g b a) → l.foldl f b = l.foldl g b
  | [], b, _ => rfl
  | a :: l, b, h => by
    rw [List.foldl_cons, List.foldl_cons, h b a List.mem_cons_self]
    exact foldl_mem l _ fun b c hc => h b c (List.mem_cons_of_mem _ hc)
theorem visF_any {x : Shp} {l : List Nod} (hd : Down x l) : ∀ (n m : Nat) (came : List Int) (a : Int), 0 ≤ a → a < l.length → a < n → a < m → visF x l n came a = visF x l m came a
  | 0, _, _, a, h0, _, h2, _ => by omega
  | _, 0, _, a, h0, _, _, h3 => by omega
  | n + 1, m + 1, came, a, h0, h1, h2, h3 => by
    simp only [visF]
    split
    · rfl
    · congr 1
      refine foldl_mem _ _ fun b c hc => ?_
      have := chs_down hd h0 h1 hc
      exact visF_any hd n m b c (by omega) (by omega) (by omega) (by omega)
def visV (x : Shp) (l : List Nod) (came : List Int) (a : Int) : List Int := visF x l (a.toNat + 1) came a
theorem visV_in {x : Shp} {l : List Nod} {came : List Int} {a : Int} (h : a ∈ came) : visV x l came a = came := by
  have : came.contains a = true := by simpa using h
  simp [visV, visF, h]
theorem visV_new {x : Shp} {l : List Nod} (hd : Down x l) {came : List Int} {a : Int} (h0 : 0 ≤ a) (h1 : a < l.length) (h : a ∉ came) : visV x l came a = (chs x l a).foldl (visV x l) came ++ [a] := by
  have hc : ¬ came.contains a = true := by simpa using h
  unfold visV
  rw [visF, if_neg hc]
  congr 1
  refine foldl_mem _ _ fun b c hc => ?_
  have := chs_down hd h0 h1 hc
  exact visF_any hd _ _ b c (by omega) (by omega) (by omega) (by omega)
def finV (x : Shp) (l : List Nod) : List Int → List (Int × List Int) → List Int
  | out, [] => out
  | out, (a, left) :: st => finV x l (left.foldl (visV x l) out ++ [a]) st
theorem finV_skip {x : Shp} {l : List Nod} {out left : List Int} {a c : Int} {st : List (Int × List Int)} (h : c ∈ out) : finV x l out ((a, c :: left) :: st) = finV x l out ((a, left) :: st) := by
  simp only [finV, List.foldl_cons, visV_in h]
theorem finV_push {x : Shp} {l : List Nod} (hd : Down x l) {out left : List Int} {a c : Int} {st : List (Int × List Int)} (h0 : 0 ≤ c) (h1 : c < l.length) (h : c ∉ out) : finV x l out ((a, c :: left) :: st) = finV x l out ((c, chs x l c) :: (a, left) :: st) := by
  simp only [finV, List.foldl_cons, visV_new hd h0 h1 h]
theorem finV_one {x : Shp} {l : List Nod} (hd : Down x l) {a : Int} (h0 : 0 ≤ a) (h1 : a < l.length) : finV x l [] [(a, chs x l a)] = visF x l l.length [] a := by
  have e : visF x l l.length [] a = visV x l [] a := visF_any hd _ _ _ _ h0 h1 h1 (by omega)
  rw [e, visV_new hd h0 h1 (by simp)]
  rfl
/-- the stack: each one's own that are left, each below the one beneath -/
def Stk (x : Shp) (l : List Nod) : List (Int × List Int) → Prop
  | [] => True
  | (a, left) :: st => 0 ≤ a ∧ a < l.length ∧ (∀ c ∈ left, c ∈ chs x l a) ∧ (∀ p ∈ st, a < p.1) ∧ Stk x l st
theorem Stk.tail {x : Shp} {l : List Nod} {a c : Int} {left : List Int} {st : List (Int × List Int)} (h : Stk x l ((a, c :: left) :: st)) : Stk x l ((a, left) :: st) := ⟨h.1, h.2.1, fun d hd => h.2.2.1 d (List.mem_cons_of_mem _ hd), h.2.2.2⟩
theorem Stk.head {x : Shp} {l : List Nod} (hd : Down x l) {a c : Int} {left : List Int} {st : List (Int × List Int)} (h : Stk x l ((a, c :: left) :: st)) : 0 ≤ c ∧ c < a ∧ ∀ p ∈ (a, left) :: st, c < p.1 := by
  obtain ⟨h0, h1, h2, h3, h4⟩ := h
  have hc := chs_down hd h0 h1 (h2 c List.mem_cons_self)
  refine ⟨hc.1, hc.2, fun p hp => ?_⟩
  rcases List.mem_cons.1 hp with rfl | hp
  · exact hc.2
  · have := h3 p hp; omega
theorem Stk.push {x : Shp} {l : List Nod} (hd : Down x l) {a c : Int} {left : List Int} {st : List (Int × List Int)} (h : Stk x l ((a, c :: left) :: st)) : Stk x l ((c, chs x l c) :: (a, left) :: st) := by
  obtain ⟨h0, h1, h2⟩ := h.head hd
  exact ⟨h0, by have := h.2.1; omega, fun _ h => h, h2, h.tail⟩
/-- how much there is to do -/
def undone (x : Shp) (l : List Nod) (met : Int → Bool) : Nat := ((List.range l.length).map fun i : Nat => bif met (i : Int) then 0 else 2 + (chs x l (i : Int)).length).sum
def left_ : List (Int × List Int) → Nat
  | [] => 0
  | p :: st => 1 + p.2.length + left_ st
theorem sum_le {α : Type} {f g : α → Nat} : ∀ (l : List α), (∀ a ∈ l, f a ≤ g a) → (l.map f).sum ≤ (l.map g).sum
  | [], _ => by simp
  | a :: l, h => by
    simp only [List.map_cons, List.sum_cons]
    have := h a List.mem_cons_self
    have := sum_le l fun b hb => h b (List.mem_cons_of_mem _ hb)
    omega
theorem sum_drop {α : Type} {f g : α → Nat} {d : Nat} : ∀ (l : List α), (∀ a ∈ l, f a ≤ g a) → (∃ a ∈ l, f a + d ≤ g a) → (l.map f).sum + d ≤ (l.map g).sum
  | [], _, ⟨_, h, _⟩ => by cases h
  | a :: l, h, ⟨b, hb, hd⟩ => by
    simp only [List.map_cons, List.sum_cons]
    have h1 := h a List.mem_cons_self
    rcases List.mem_cons.1 hb with rfl | hb
    · have := sum_le l fun b hb => h b (List.mem_cons_of_mem _ hb)
      omega
    · have := sum_drop l (fun b hb => h b (List.mem_cons_of_mem _ hb)) ⟨b, hb, hd⟩
      omega
theorem undone_new {x : Shp} {l : List Nod} {met met' : Int → Bool} {c : Int} (h0 : 0 ≤ c) (h1 : c < l.length) (hc : met c = false) (hc' : met' c = true) (hm : ∀ v, met v = true → met' v = true) : undone x l met' + (2 + (chs x l c).length) ≤ undone x l met := by
  refine sum_drop _ (fun i _ => ?_) ⟨c.toNat, List.mem_range.2 (by omega), ?_⟩
  · have := hm i
    cases h : met i
    · cases h' : met' i <;> simp
    · rw [this h]; simp
  · have e : ((c.toNat : Nat) : Int) = c := by omega
    rw [e, hc, hc']
    simp
end Go.Proofs.Ytgnpihhakogeeaa

namespace Go.Proofs.Ytgnpihhakogeeaa
set_option linter.unusedSimpArgs false
set_option linter.unusedVariables false
open Go.RowKit

def fF (p : Int × List Int) : List AV := [.i p.1, .sl .no (rI p.2)]
/-- a stack's cells, the lowest first, and what lies behind it -/
def stC : List (Int × List Int) → List AV → List AV
  | [], t => t
  | p :: st, t => stC st (.i p.1 :: .sl .no (rI p.2) :: t)
theorem stC_eq : ∀ (st : List (Int × List Int)) (t : List AV), stC st t = (st.reverse.map fF).flatten ++ t
  | [], t => by simp [stC]
  | p :: st, t => by simp [stC, stC_eq st, fF]
theorem stC_len (st : List (Int × List Int)) (t : List AV) : (stC st t).length = st.length * 2 + t.length := by
  rw [stC_eq, List.length_append, flat_lenA (sz := 2) (fun q hq => by obtain ⟨p, _, rfl⟩ := List.mem_map.1 hq; rfl)]
  simp
theorem stC_app (st : List (Int × List Int)) (t : List AV) : stC st t = stC st [] ++ t := by simp [stC_eq]
theorem stC_get (st : List (Int × List Int)) (t : List AV) (j : Nat) : (stC st t)[st.length * 2 + j]? = t[j]? := by
  have h := stC_len st []
  rw [stC_app, List.getElem?_append_right (by simp at h; omega), h]
  simp
theorem stC_top (st : List (Int × List Int)) (a u v : AV) (t : List AV) : (stC st (a :: u :: t)).take (st.length * 2 + 1) ++ [v] ++ (stC st (a :: u :: t)).drop (st.length * 2 + 1 + 1) = stC st (a :: v :: t) := by
  have h := stC_len st []
  simp only [List.length_nil, Nat.add_zero] at h
  rw [stC_app st (a :: u :: t), stC_app st (a :: v :: t), List.take_append, List.drop_append, h]
  rw [List.take_of_length_le (by omega), List.drop_of_length_le (by omega)]
  rw [show st.length * 2 + 1 - st.length * 2 = 1 by omega, show st.length * 2 + 1 + 1 - st.length * 2 = 2 by omega]
  simp
/-- what is met: just what is out or under way; how often, it is bounded -/
structure Met (M : List (Int × Int)) (out : List Int) (st : List (Int × List Int)) (B : Nat) : Prop where
  iff : ∀ c, (aGet c M).isSome = true ↔ c ∈ out ∨ ∃ p ∈ st, p.1 = c
  lo : ∀ c v, aGet c M = some v → 1 ≤ v ∧ v + B ≤ 1000000000000000
def mB (M : List (Int × Int)) (v : Int) : Bool := (aGet v M).isSome
structure VSt (H : AHeap) (x : Shp) (l : List Nod) (R : List Int) (mid tid id cap n : Nat) (M : List (Int × Int)) (out : List Int) (st : List (Int × List Int)) (tail : List AV) (G : AHeap) : Prop where
  ext : AHeap.Ext H G
  gm : G.get mid = some (.map (.one (.int .i64)) (eMap kI AV.i M) false)
  gt : G.get tid = some (.tok out.length 3 1)
  gs : G.get id = some (.cells (stC st tail) 107)
  i1 : H.next ≤ mid
  i2 : H.next ≤ tid
  i3 : H.next ≤ id
  n1 : tid ≠ mid
  n2 : id ≠ mid
  n3 : id ≠ tid
  len : (stC st tail).length = cap * 2
  le : st.length ≤ cap
  stk : Stk x l st
  met : Met M out st n
  mu : undone x l (mB M) + left_ st ≤ n
  fin : finV x l out st = R
  b1 : out.length + n ≤ 1000000000000
  b2 : st.length + n ≤ 1000000000000
theorem undone_le {x : Shp} {l : List Nod} (hn : ∀ n ∈ l, smallN n) (met : Int → Bool) : undone x l met ≤ l.length * 1000002 := by
  have h : undone x l met ≤ ((List.range l.length).map fun _ => 1000002).sum := by
    refine sum_le _ fun i _ => ?_
    have hc : (chs x l (i : Int)).length ≤ 1000000 := by
      unfold chs
      split
      · simp
      · rw [List.length_map]; exact each_len (nodAt_small _ hn)
    cases met (i : Int) <;> simp <;> omega
  rw [List.map_const', List.sum_replicate_nat] at h
  simpa using h
theorem stack_push {H : AHeap} {id cap : Nat} {st : List (Int × List Int)} {tail : List AV} {x : AV} {K : AV → AHeap → Prop} (p : Int × List Int)
    (ho : H.get id = some (.cells (stC st tail) 107)) (hc : (stC st tail).length = cap * 2) (hn : st.length ≤ cap) (hb : st.length ≤ 1000000000000) (hx : rowsIn H 2 x = some [fF p])
    (k : ∀ id' cap' tail' H', (id' = id ∧ H' = H.set id (.cells (stC (p :: st) tail') 107)) ∨ (id' = H.next ∧ H' = H.alloc (.cells (stC (p :: st) tail') 107)) → (stC (p :: st) tail').length = cap' * 2 → st.length + 1 ≤ cap' → K (.arr id' 0 (st.length + 1) cap') H') :
    ApvK H 107 2 32 [.i 0, .sl .full []] (.arr id 0 st.length cap) x K := by
  have hrl : (st.reverse.map fF).length = st.length := by simp
  have hl : ∀ q ∈ st.reverse.map fF, q.length = 2 := fun q hq => by obtain ⟨p, _, rfl⟩ := List.mem_map.1 hq; rfl
  have he : ∀ tail', (st.reverse.map fF ++ [fF p]).flatten ++ tail' = stC (p :: st) tail' := fun tail' => by rw [stC_eq]; simp
  have h := apv_push (H := H) (E := 107) (sz := 2) (bytes := 32) (id := id) (cap := cap) (zero := [.i 0, .sl .full []]) (rows := st.reverse.map fF) (tail := tail) (r := fF p) (x := x) (K := K)
    (by rw [← stC_eq]; exact ho) hl hx rfl (by rw [← stC_eq]; exact hc) (by omega) (by unfold maxLen; omega) (by omega) rfl (fun id' cap' tail' H' h1 h2 h3 _ => by
      rw [he] at h1 h2
      rw [hrl] at h3 ⊢
      exact k id' cap' tail' H' h1 h2 h3)
  rw [hrl] at h
  exact h
theorem met_pop {c a : Int} {out left : List Int} {st : List (Int × List Int)} : (c ∈ out ∨ ∃ p ∈ (a, left) :: st, p.1 = c) ↔ (c ∈ out ++ [a] ∨ ∃ p ∈ st, p.1 = c) := by
  simp only [List.mem_append, List.mem_cons, List.not_mem_nil, or_false]
  constructor
  · rintro (h | ⟨p, rfl | h, rfl⟩)
    · exact .inl (.inl h)
    · exact .inl (.inr rfl)
    · exact .inr ⟨p, h, rfl⟩
  · rintro ((h | rfl) | ⟨p, h, rfl⟩)
    · exact .inl h
    · exact .inr ⟨_, .inl rfl, rfl⟩
    · exact .inr ⟨p, .inr h, rfl⟩
set_option maxHeartbeats 16000000 in
theorem ovisit_sound {H : AHeap} {aid : Nat} {x : Shp} {l : List Nod} (ha : ArA H aid x l) (hw : ArW x l) (top : Int) : Sound Try.prog 31 [.ptr aid 0, .i top] H (Pure H (.sl .no (rI (ordR x l top)))) := by
  have hlen := hw.len
  have hdn := hw.down
  refine fn_soundQ hEf vf31 (Nat.le_of_ble_eq_true rfl) fun Q hQr hQn => ?_
  by_cases c1 : top < 0
  · have d1 : decide (top < 0) = true := by simpa using c1
    have hO : ordR x l top = [] := by unfold ordR; rw [if_neg (by omega)]
    rw [hO] at hQr hQn
    ((have hd := trivial; repeat' (first | ((first | refine GdK_st (fun hd => ?_) (fun hd => ?_) | refine GdK_sf (fun hd => ?_) (fun hd => ?_) | refine CondK_s (fun hd => ?_) (fun hd => ?_)) <;> (try simp only [hd])) | simp (disch := first | assumption | omega | (simp only [nx] <;> omega) | fail) only [hd, hQr, hQn, v31_0, ↓YA, YB, YC, YE, YF, YZ, ↓reduceIte, Nat.reduceEqDiff, Nat.reduceAdd, Nat.reduceMul, Nat.reduceLeDiff, Int.reduceToNat, Int.reduceLE, Int.reduceLT, Int.reduceGT, Int.reduceGE, Int.reduceAdd, Int.reduceSub, Int.reduceNeg, Int.reduceBEq, Int.reduceBNe, d1, YZv])) <;> (try (have hd_ : True := hd; clear hd_ hd)))
    exact fin_pure (by exact AXT) rfl
  have d1 : decide (top < 0) = false := by simpa using c1
  ((have hd := trivial; repeat' (first | ((first | refine GdK_st (fun hd => ?_) (fun hd => ?_) | refine GdK_sf (fun hd => ?_) (fun hd => ?_) | refine CondK_s (fun hd => ?_) (fun hd => ?_)) <;> (try simp only [hd])) | simp (disch := first | assumption | omega | (simp only [nx] <;> omega) | fail) only [hd, hQr, hQn, v31_0, ↓YA, YB, YC, YE, YF, YZ, ↓reduceIte, Nat.reduceEqDiff, Nat.reduceAdd, Nat.reduceMul, Nat.reduceLeDiff, Int.reduceToNat, Int.reduceLE, Int.reduceLT, Int.reduceGT, Int.reduceGE, Int.reduceAdd, Int.reduceSub, Int.reduceNeg, Int.reduceBEq, Int.reduceBNe, d1, YZv])) <;> (try (have hd_ : True := hd; clear hd_ hd)))
  (refine CallK.use (alen_sound ha hw) ?_; rintro _ H1 ⟨rfl, hx1⟩)
  by_cases c2 : top < (l.length : Int)
  case neg =>
    have d2 : decide (top ≥ (l.length : Int)) = true := by simp; omega
    have hO : ordR x l top = [] := by unfold ordR; rw [if_neg (by omega)]
    rw [hO] at hQr hQn
    ((have hd := trivial; repeat' (first | ((first | refine GdK_st (fun hd => ?_) (fun hd => ?_) | refine GdK_sf (fun hd => ?_) (fun hd => ?_) | refine CondK_s (fun hd => ?_) (fun hd => ?_)) <;> (try simp only [hd])) | simp (disch := first | assumption | omega | (simp only [nx] <;> omega) | fail) only [hd, hQr, hQn, v31_0, ↓YA, YB, YC, YE, YF, YZ, ↓reduceIte, Nat.reduceEqDiff, Nat.reduceAdd, Nat.reduceMul, Nat.reduceLeDiff, Int.reduceToNat, Int.reduceLE, Int.reduceLT, Int.reduceGT, Int.reduceGE, Int.reduceAdd, Int.reduceSub, Int.reduceNeg, Int.reduceBEq, Int.reduceBNe, d2, YZv])) <;> (try (have hd_ : True := hd; clear hd_ hd)))
    exact fin_pure (by exact AXT) rfl
  have d2 : decide (top ≥ (l.length : Int)) = false := by simp; omega
  have hr : 0 ≤ top ∧ top < l.length := by omega
  have hO : ordR x l top = finV x l [] [(top, chs x l top)] := by unfold ordR; rw [if_pos hr, finV_one hdn hr.1 hr.2]
  rw [hO] at hQr hQn
  generalize hR : finV x l [] [(top, chs x l top)] = R at *
  have ms0 : ∀ (k : Value) (a : AV), mSet k a [] = [(k, a)] := fun _ _ => rfl
  ((have hd := trivial; repeat' (first | ((first | refine GdK_st (fun hd => ?_) (fun hd => ?_) | refine GdK_sf (fun hd => ?_) (fun hd => ?_) | refine CondK_s (fun hd => ?_) (fun hd => ?_)) <;> (try simp only [hd])) | simp (disch := first | assumption | omega | (simp only [nx] <;> omega) | fail) only [hd, hQr, hQn, v31_0, ↓YA, YB, YC, YE, YF, YZ, ↓reduceIte, Nat.reduceEqDiff, Nat.reduceAdd, Nat.reduceMul, Nat.reduceLeDiff, Int.reduceToNat, Int.reduceLE, Int.reduceLT, Int.reduceGT, Int.reduceGE, Int.reduceAdd, Int.reduceSub, Int.reduceNeg, Int.reduceBEq, Int.reduceBNe, d2, YZv, kI_of, ms0])) <;> (try (have hd_ : True := hd; clear hd_ hd)))
  have hm0 : [(kI top, AV.i 1)] = eMap kI AV.i [(top, 1)] := rfl
  rw [hm0]
  have hx2 : AHeap.Ext H (H1.alloc (.map (.one (.int .i64)) (eMap kI AV.i [(top, 1)]) false)) := by exact AXT
  have hg2 : (H1.alloc (.map (.one (.int .i64)) (eMap kI AV.i [(top, 1)]) false)).get H1.next = some (.map (.one (.int .i64)) (eMap kI AV.i [(top, 1)]) false) := AHeap.get_alloc_self
  have hmn := hx1.next
  generalize hmid : H1.next = mid at *
  generalize H1.alloc (.map (.one (.int .i64)) (eMap kI AV.i [(top, 1)]) false) = G2 at *
  have lm := AHeap.lt hg2
  (refine CallK.use (below_sound (ha.ext hx2) hw top) ?_; rintro _ _ ⟨rfl, k1, rfl⟩)
  ((have hd := trivial; repeat' (first | ((first | refine GdK_st (fun hd => ?_) (fun hd => ?_) | refine GdK_sf (fun hd => ?_) (fun hd => ?_) | refine CondK_s (fun hd => ?_) (fun hd => ?_)) <;> (try simp only [hd])) | simp (disch := first | assumption | omega | (simp only [nx] <;> omega) | fail) only [hd, hQr, hQn, v31_0, ↓YA, YB, YC, YE, YF, YZ, ↓reduceIte, Nat.reduceEqDiff, Nat.reduceAdd, Nat.reduceMul, Nat.reduceLeDiff, Int.reduceToNat, Int.reduceLE, Int.reduceLT, Int.reduceGT, Int.reduceGE, Int.reduceAdd, Int.reduceSub, Int.reduceNeg, Int.reduceBEq, Int.reduceBNe, YZv])) <;> (try (have hd_ : True := hd; clear hd_ hd)))
  unfold v31_1
  rw [AW_blk]
  have hun := undone_le (x := x) hw.small (mB [(top, 1)])
  have hcl : (chs x l top).length ≤ 1000000 := by
    unfold chs
    split
    · simp
    · rw [List.length_map]; exact each_len (nodAt_small _ hw.small)
  have hl1 : left_ [(top, chs x l top)] = 1 + (chs x l top).length + 0 := rfl
  refine AW_loopI (fun n F G => ∃ id cap M out st tail, VSt H x l R mid (G2.next + k1 + 1) id cap n M out st tail G ∧ Fr.get F 0 = .ptr aid 0 ∧ Fr.get F 5 = .mp mid ∧ Fr.get F 6 = .sl (.own (G2.next + k1 + 1)) (rI out) ∧ Fr.get F 7 = .arr id 0 st.length cap) (undone x l (mB [(top, 1)]) + left_ [(top, chs x l top)]) (GStep.tok 6 3 1 rfl) ⟨G2.next + k1, 1, [(top, 1)], [], [(top, chs x l top)], [], ?_, rfl, rfl, rfl, rfl⟩ ?_
  · refine ⟨by exact AXT, ?_, AHeap.get_alloc_self (H := (G2.bump k1).alloc _), ?_, by omega, by omega, by omega, by omega, by omega, by omega, rfl, Nat.le_refl _, ⟨hr.1, hr.2, fun _ h => h, (fun p h => by cases h), trivial⟩, ⟨fun c => ?_, fun c v h => ?_⟩, Nat.le_refl _, hR, by simp only [List.length_nil]; omega, by simp only [List.length_cons, List.length_nil]; omega⟩
    · rw [AHeap.get_alloc_ne (by simp only [nx]; omega), AHeap.get_alloc_ne (by simp only [nx]; omega)]; exact hg2
    · rw [AHeap.get_alloc_ne (by simp only [nx]; omega)]; exact AHeap.get_alloc_self (H := G2.bump k1)
    · simp only [aGet]
      by_cases e : c = top
      · simp [e]
      · simp [e, Ne.symm e]
    · simp only [aGet] at h
      split at h
      · simp only [Option.some.injEq] at h; omega
      · cases h
  generalize hT : G2.next + k1 + 1 = tid at *
  clear hun hcl hl1 hg2 lm hmid hm0 ms0 hx2 hR
  rintro n F G ⟨id, cap, M, out, st, tail, hS, f0, f5, f6, f7⟩
  have gm := hS.gm
  have gt := hS.gt
  have gs := hS.gs
  have lm := AHeap.lt gm
  have lt := AHeap.lt gt
  have ls := AHeap.lt gs
  have n1 := hS.n1
  have n2 := hS.n2
  have n3 := hS.n3
  have i1 := hS.i1
  have i2 := hS.i2
  have i3 := hS.i3
  have hxS := hS.ext
  cases st with
  | nil =>
    have e : out = R := hS.fin
    subst e
    have d1 : decide (((0 : Nat) : Int) > 0) = false := by decide
    simp only [List.length_nil] at f7
    ((have hd := trivial; repeat' (first | ((first | refine GdK_st (fun hd => ?_) (fun hd => ?_) | refine GdK_sf (fun hd => ?_) (fun hd => ?_) | refine CondK_s (fun hd => ?_) (fun hd => ?_)) <;> (try simp only [hd])) | simp (disch := first | assumption | omega | (simp only [nx] <;> omega) | fail) only [hd, hQr, hQn, v31_0, ↓YA, YB, YC, YE, YF, YZ, ↓reduceIte, Nat.reduceEqDiff, Nat.reduceAdd, Nat.reduceMul, Nat.reduceLeDiff, Int.reduceToNat, Int.reduceLE, Int.reduceLT, Int.reduceGT, Int.reduceGE, Int.reduceAdd, Int.reduceSub, Int.reduceNeg, Int.reduceBEq, Int.reduceBNe, f0, f5, f6, f7, d1])) <;> (try (have hd_ : True := hd; clear hd_ hd)))
    exact fin_pure (by exact AXT) rfl
  | cons p st =>
    obtain ⟨a, left⟩ := p
    have hb2 := hS.b2
    have hb1 := hS.b1
    have hle := hS.le
    have hlen2 := hS.len
    simp only [List.length_cons] at f7 hb2 hle
    have d1 : decide (((st.length + 1 : Nat) : Int) > 0) = true := by simp
    have hsub : ((st.length + 1 : Nat) : Int) - 1 = (st.length : Int) := by omega
    have hlt : (st.length : Int) < ((st.length + 1 : Nat) : Int) := by omega
    have hstl := stC_len st (.i a :: .sl .no (rI left) :: tail)
    have hcs : stC ((a, left) :: st) tail = stC st (.i a :: .sl .no (rI left) :: tail) := rfl
    rw [hcs] at gs hlen2
    have g0 := stC_get st (.i a :: .sl .no (rI left) :: tail) 0
    have g1 := stC_get st (.i a :: .sl .no (rI left) :: tail) 1
    simp only [Nat.add_zero, List.getElem?_cons_zero, List.getElem?_cons_succ] at g0 g1
    have htop := fun v => stC_top st (.i a) (.sl .no (rI left)) v tail
    generalize hC : stC st (.i a :: .sl .no (rI left) :: tail) = C at gs hlen2 hstl hcs g0 g1 htop
    have hst := hS.stk
    have hmu := hS.mu
    cases left with
    | nil =>
      have d2 : (((0 : Nat) : Int) == 0) = true := by decide
      have la1 := allLen_rI out
      have la2 : allLen 1 [[AV.i a]] = true := rfl
      have lm1 : out.length + 1 ≤ maxLen := by unfold maxLen; omega
      have lm2 : (out.length + 1) * 8 ≤ 140737488355328 := by omega
      have hl3 : ¬ (cap = 0) := by omega
      have hb0 : (0 : Int) ≤ (st.length : Int) := by omega
      have hb3 : st.length ≤ cap := by omega
      have hb4 : cap ≤ cap := Nat.le_refl _
      have hsn : rI out ++ [[AV.i a]] = rI (out ++ [a]) := by simp
      have hmu : undone x l (mB M) + (1 + 0 + left_ st) ≤ n := hmu
      ((have hd := trivial; repeat' (first | ((first | refine GdK_st (fun hd => ?_) (fun hd => ?_) | refine GdK_sf (fun hd => ?_) (fun hd => ?_) | refine CondK_s (fun hd => ?_) (fun hd => ?_)) <;> (try simp only [hd])) | simp (disch := first | assumption | omega | (simp only [nx] <;> omega) | fail) only [hd, hQr, hQn, v31_0, ↓YA, YB, YC, YE, YF, YZ, ↓reduceIte, Nat.reduceEqDiff, Nat.reduceAdd, Nat.reduceMul, Nat.reduceLeDiff, Int.reduceToNat, Int.reduceLE, Int.reduceLT, Int.reduceGT, Int.reduceGE, Int.reduceAdd, Int.reduceSub, Int.reduceNeg, Int.reduceBEq, Int.reduceBNe, f0, f5, f6, f7, d1, d2, hsub, hlt, gs, g0, g1, la1, la2, lm1, lm2, gt, List.length_nil, bndA, AX.ev, Fr.get, hb0, hb3, hb4, hl3, Int.toNat_natCast, Nat.sub_zero, Nat.zero_mul, Nat.zero_le, and_true, true_and])) <;> (try (have hd_ : True := hd; clear hd_ hd)))
      have hlo := hS.met.lo
      refine ⟨n - 1, by omega, id, cap, M, out ++ [a], st, .i a :: .sl .no (rI []) :: tail, ⟨hxS.set i2, by rw [AHeap.get_set_ne (Ne.symm n1)]; exact gm, by rw [AHeap.get_set_self lt]; simp, by rw [AHeap.get_set_ne n3, gs, ← hcs]; rfl, i1, i2, i3, n1, n2, n3, by rw [show stC st (.i a :: .sl .no (rI []) :: tail) = C from hcs]; exact hlen2, by omega, hst.2.2.2.2, ⟨fun c => ?_, fun c v h => ?_⟩, by omega, hS.fin, by simp; omega, by omega⟩, congrArg (AV.sl _) hsn, rfl⟩
      · rw [hS.met.iff]; exact met_pop
      · have := hlo c v h; omega
    | cons c left =>
      have d2 : (((left.length + 1 : Nat) : Int) == 0) = false := by rw [beq_eq_false_iff_ne]; omega
      have hoff : st.length * 2 + 1 + 1 ≤ C.length := by rw [hstl]; simp only [List.length_cons]; omega
      have la1 : allLen 1 ([AV.i c] :: rI left) = true := allLen_rI (c :: left)
      have htk : (rI left).take left.length = rI left := by rw [List.take_of_length_le (by simp)]
      have nid : mid ≠ id := Ne.symm n2
      have hhd := hst.head hdn
      have ha0 := hst.1
      have hal := hst.2.1
      have hnst : ¬ ∃ p ∈ (a, c :: left) :: st, p.1 = c := by
        rintro ⟨p, hp, e⟩
        rcases List.mem_cons.1 hp with rfl | hp
        · simp only at e; omega
        · have := hhd.2.2 p (List.mem_cons_of_mem _ hp); omega
      have hl0 : left_ ((a, c :: left) :: st) = 1 + (left.length + 1) + left_ st := rfl
      have hl1 : left_ ((a, left) :: st) = 1 + left.length + left_ st := rfl
      have hlo := hS.met.lo
      have hiff := hS.met.iff
      have hC' : (stC st (.i a :: .sl .no (rI left) :: tail)).length = cap * 2 := by rw [stC_len, ← hlen2, hstl]; rfl
      obtain hcm | ⟨v, hcm⟩ : aGet c M = none ∨ ∃ v, aGet c M = some v := by cases aGet c M with
        | none => exact .inl rfl
        | some v => exact .inr ⟨v, rfl⟩
      · have hco : c ∉ out := fun h => by have := (hiff c).2 (.inl h); rw [hcm] at this; cases this
        have ms1 := mSet_map (kf := kI) (vf := AV.i) kI_eq c 1 M
        have mf1 := aGet_same c 1 M
        ((have hd := trivial; repeat' (first | ((first | refine GdK_st (fun hd => ?_) (fun hd => ?_) | refine GdK_sf (fun hd => ?_) (fun hd => ?_) | refine CondK_s (fun hd => ?_) (fun hd => ?_)) <;> (try simp only [hd])) | simp (disch := first | assumption | omega | (simp only [nx] <;> omega) | fail) only [hd, hQr, hQn, v31_0, ↓YA, YB, YC, YE, YF, YZ, ↓reduceIte, Nat.reduceEqDiff, Nat.reduceAdd, Nat.reduceMul, Nat.reduceLeDiff, Int.reduceToNat, Int.reduceLE, Int.reduceLT, Int.reduceGT, Int.reduceGE, Int.reduceAdd, Int.reduceSub, Int.reduceNeg, Int.reduceBEq, Int.reduceBNe, f0, f5, f6, f7, d1, d2, hsub, hlt, gs, g0, g1, la1, List.length_nil, List.length_map, hoff, bndA, AX.ev, Fr.get, sliceTok, or_true, htk, htop, gm, kI_of, mFind_map kI_eq, hcm, Option.map_none, ms1, mf1])) <;> (try (have hd_ : True := hd; clear hd_ hd)))
        have gm1 : ((G.set id (.cells (stC st (.i a :: .sl .no (rI left) :: tail)) 107)).set mid (.map (.one (.int .i64)) (eMap kI AV.i (aSet c 1 M)) false)).get mid = some (.map (.one (.int .i64)) (eMap kI AV.i (aSet c 1 M)) false) := by rw [AHeap.get_set_self (by simp only [nx]; omega)]
        have gt1 : ((G.set id (.cells (stC st (.i a :: .sl .no (rI left) :: tail)) 107)).set mid (.map (.one (.int .i64)) (eMap kI AV.i (aSet c 1 M)) false)).get tid = some (.tok out.length 3 1) := by rw [AHeap.get_set_ne n1, AHeap.get_set_ne (Ne.symm n3)]; exact gt
        have gs1 : ((G.set id (.cells (stC st (.i a :: .sl .no (rI left) :: tail)) 107)).set mid (.map (.one (.int .i64)) (eMap kI AV.i (aSet c 1 M)) false)).get id = some (.cells (stC ((a, left) :: st) tail) 107) := by rw [AHeap.get_set_ne n2, AHeap.get_set_self ls]; rfl
        have hx1 : AHeap.Ext H ((G.set id (.cells (stC st (.i a :: .sl .no (rI left) :: tail)) 107)).set mid (.map (.one (.int .i64)) (eMap kI AV.i (aSet c 1 M)) false)) := (hxS.set i3).set i1
        generalize (G.set id (.cells (stC st (.i a :: .sl .no (rI left) :: tail)) 107)).set mid (.map (.one (.int .i64)) (eMap kI AV.i (aSet c 1 M)) false) = G1 at *
        (refine CallK.use (below_sound (ha.ext hx1) hw c) ?_; rintro _ _ ⟨rfl, k2, rfl⟩)
        ((have hd := trivial; repeat' (first | ((first | refine GdK_st (fun hd => ?_) (fun hd => ?_) | refine GdK_sf (fun hd => ?_) (fun hd => ?_) | refine CondK_s (fun hd => ?_) (fun hd => ?_)) <;> (try simp only [hd])) | simp (disch := first | assumption | omega | (simp only [nx] <;> omega) | fail) only [hd, hQr, hQn, v31_0, ↓YA, YB, YC, YE, YF, YZ, ↓reduceIte, Nat.reduceEqDiff, Nat.reduceAdd, Nat.reduceMul, Nat.reduceLeDiff, Int.reduceToNat, Int.reduceLE, Int.reduceLT, Int.reduceGT, Int.reduceGE, Int.reduceAdd, Int.reduceSub, Int.reduceNeg, Int.reduceBEq, Int.reduceBNe, f0, f5, f6, f7])) <;> (try (have hd_ : True := hd; clear hd_ hd)))
        have hmn1 := AHeap.lt gm1
        have htn1 := AHeap.lt gt1
        have hsn1 := AHeap.lt gs1
        have hxa := hx1.next
        have hsk := hst.push hdn
        have hun := undone_new (x := x) (l := l) (c := c) (met := mB M) (met' := mB (aSet c 1 M)) hhd.1 (by omega) (by unfold mB; rw [hcm]; rfl) (by unfold mB; rw [mf1]; rfl) (fun v hv => by unfold mB at hv ⊢; rw [aGet_set]; split; rfl; exact hv)
        have hl2 : left_ ((c, chs x l c) :: (a, left) :: st) = 1 + (chs x l c).length + left_ ((a, left) :: st) := rfl
        refine stack_push (st := (a, left) :: st) (tail := tail) (c, chs x l c) ?_ hC' hle (by simp only [List.length_cons]; omega) ?_ ?_
        · rw [AHeap.get_alloc_ne (by simp only [nx]; omega)]; exact gs1
        · simp only [rowsIn]
          rw [show ((G1.bump k2).alloc (.cells [[AV.sc (Value.int IntKind.i64 c), AV.sl Tok.no (rI (chs x l c))]].flatten 107)).get (G1.next + k2) = some (.cells [[AV.sc (Value.int IntKind.i64 c), AV.sl Tok.no (rI (chs x l c))]].flatten 107) from AHeap.get_alloc_self (H := G1.bump k2)]
          rfl
        · rintro id' cap' tail' H' hor hc2 hc3
          have hmt : Met (aSet c 1 M) out ((c, chs x l c) :: (a, left) :: st) (n - 1) := by
            refine ⟨fun u => ?_, fun u w h => ?_⟩
            · rw [aGet_set]
              split
              · rename_i e
                subst e
                exact ⟨fun _ => .inr ⟨_, List.mem_cons_self, rfl⟩, fun _ => rfl⟩
              · rename_i e
                rw [hiff]
                simp only [List.mem_cons, exists_eq_or_imp]
                simp only [Ne.symm e, false_or]
            · rw [aGet_set] at h
              split at h
              · simp only [Option.some.injEq] at h; omega
              · have := hlo u w h; omega
          have hV : VSt H x l R mid tid id' cap' (n - 1) (aSet c 1 M) out ((c, chs x l c) :: (a, left) :: st) tail' H' := by
            rcases hor with ⟨rfl, rfl⟩ | ⟨rfl, rfl⟩
            · refine ⟨((hx1.bump).alloc).set i3, ?_, ?_, ?_, i1, i2, i3, n1, n2, n3, hc2, by simp only [List.length_cons] at *; omega, hsk, hmt, by omega, by rw [← hS.fin, finV_push hdn hhd.1 (by omega) hco], by omega, by simp only [List.length_cons]; omega⟩
              · rw [AHeap.get_set_ne (Ne.symm n2), AHeap.get_alloc_ne (by simp only [nx]; omega)]; exact gm1
              · rw [AHeap.get_set_ne (Ne.symm n3), AHeap.get_alloc_ne (by simp only [nx]; omega)]; exact gt1
              · rw [AHeap.get_set_self (by simp only [nx]; omega)]
            · refine ⟨((hx1.bump).alloc).alloc, ?_, ?_, ?_, i1, i2, by simp only [nx]; omega, n1, by simp only [nx]; omega, by simp only [nx]; omega, hc2, by simp only [List.length_cons] at *; omega, hsk, hmt, by omega, by rw [← hS.fin, finV_push hdn hhd.1 (by omega) hco], by omega, by simp only [List.length_cons]; omega⟩
              · rw [AHeap.get_alloc_ne (by simp only [nx]; omega), AHeap.get_alloc_ne (by simp only [nx]; omega)]; exact gm1
              · rw [AHeap.get_alloc_ne (by simp only [nx]; omega), AHeap.get_alloc_ne (by simp only [nx]; omega)]; exact gt1
              · exact AHeap.get_alloc_self (H := (G1.bump k2).alloc _)
          ((have hd := trivial; repeat' (first | ((first | refine GdK_st (fun hd => ?_) (fun hd => ?_) | refine GdK_sf (fun hd => ?_) (fun hd => ?_) | refine CondK_s (fun hd => ?_) (fun hd => ?_)) <;> (try simp only [hd])) | simp (disch := first | assumption | omega | (simp only [nx] <;> omega) | fail) only [hd, hQr, hQn, v31_0, ↓YA, YB, YC, YE, YF, YZ, ↓reduceIte, Nat.reduceEqDiff, Nat.reduceAdd, Nat.reduceMul, Nat.reduceLeDiff, Int.reduceToNat, Int.reduceLE, Int.reduceLT, Int.reduceGT, Int.reduceGE, Int.reduceAdd, Int.reduceSub, Int.reduceNeg, Int.reduceBEq, Int.reduceBNe, f0, f5, f6])) <;> (try (have hd_ : True := hd; clear hd_ hd)))
          exact ⟨n - 1, by omega, id', cap', aSet c 1 M, out, (c, chs x l c) :: (a, left) :: st, tail', hV, rfl, rfl⟩
      · obtain ⟨v1, v2⟩ := hlo c v hcm
        have hci : c ∈ out := ((hiff c).1 (by rw [hcm]; rfl)).resolve_right hnst
        have ms1 := mSet_map (kf := kI) (vf := AV.i) kI_eq c (v + 1) M
        have mf1 := aGet_same c (v + 1) M
        have d3 : (v + 1 == 1) = false := by rw [beq_eq_false_iff_ne]; omega
        have hmb : mB (aSet c (v + 1) M) = mB M := by
          funext u
          unfold mB
          rw [aGet_set]
          split
          · rename_i e; subst e; rw [hcm]; rfl
          · rfl
        ((have hd := trivial; repeat' (first | ((first | refine GdK_st (fun hd => ?_) (fun hd => ?_) | refine GdK_sf (fun hd => ?_) (fun hd => ?_) | refine CondK_s (fun hd => ?_) (fun hd => ?_)) <;> (try simp only [hd])) | simp (disch := first | assumption | omega | (simp only [nx] <;> omega) | fail) only [hd, hQr, hQn, v31_0, ↓YA, YB, YC, YE, YF, YZ, ↓reduceIte, Nat.reduceEqDiff, Nat.reduceAdd, Nat.reduceMul, Nat.reduceLeDiff, Int.reduceToNat, Int.reduceLE, Int.reduceLT, Int.reduceGT, Int.reduceGE, Int.reduceAdd, Int.reduceSub, Int.reduceNeg, Int.reduceBEq, Int.reduceBNe, f0, f5, f6, f7, d1, d2, d3, hsub, hlt, gs, g0, g1, la1, List.length_nil, List.length_map, hoff, bndA, AX.ev, Fr.get, sliceTok, or_true, htk, htop, gm, kI_of, mFind_map kI_eq, hcm, ms1, mf1])) <;> (try (have hd_ : True := hd; clear hd_ hd)))
        refine ⟨n - 1, by omega, id, cap, aSet c (v + 1) M, out, (a, left) :: st, tail, ⟨(hxS.set i3).set i1, by rw [AHeap.get_set_self (by simp only [nx]; omega)], by rw [AHeap.get_set_ne n1, AHeap.get_set_ne (Ne.symm n3)]; exact gt, by rw [AHeap.get_set_ne n2, AHeap.get_set_self ls]; rfl, i1, i2, i3, n1, n2, n3, hC', hle, hst.tail, ⟨fun u => ?_, fun u w h => ?_⟩, by rw [hmb]; omega, by rw [← hS.fin, finV_skip hci], by omega, by simp only [List.length_cons]; omega⟩, rfl, rfl⟩
        · rw [aGet_set]
          split
          · rename_i e
            subst e
            exact ⟨fun _ => .inl hci, fun _ => rfl⟩
          · rw [hiff]
            simp
        · rw [aGet_set] at h
          split at h
          · simp only [Option.some.injEq] at h; omega
          · have := hlo u w h; omega
end Go.Proofs.Ytgnpihhakogeeaa
