/- Texts of the walk, joined: Na Nb Nc. -/
import Derived.Test.YtaapiigfmdhobaaMp
namespace Go.Proofs.Ytaapiigfmdhobaa
set_option linter.unusedSimpArgs false
set_option linter.unusedVariables false
open Go.RowKit
structure Ard (x : Shp) (l : List Nod) : Prop where
 may : shpMay x = true
 sm : ∀ n ∈ l, smallN n
 len : l.length ≤ 200000
 dim : ∀ n ∈ l, 0 ≤ n.dim ∧ n.dim < x.sizes.length
 led : ∀ (k : Nat) (h : k < l.length), l[k].dim < (x.sizes.length : Int) - 1 → ∀ c ∈ each l[k], 0 ≤ c.child ∧ c.child < k
theorem HX.quiet {O : List (Nat × AObj)} {H G G1 : AHeap} (h : HX O H G) (k : HX [] G G1) : HX O H G1 :=
 ⟨Nat.le_trans h.n k.n, fun p hp => (k.g _ (AHeap.lt (h.o p hp)) (by simp)).trans (h.o p hp), fun j hj hne => (k.g _ (Nat.lt_of_lt_of_le hj h.n) (by simp)).trans (h.g j hj hne)⟩
def cntN (n : Nod) : Nat := n.lists.flatten.length + 1
theorem cnt_each (n : Nod) : (each n).length = cntN n := by unfold each cntN; simp
theorem eNod_facts (t : Tok) (n : Nod) : (eNod t n).length = 14 ∧ (eNod t n)[0]? = some (.i n.dim) ∧ (eNod t n)[1]? = some (.sl t (rL n.lists)) ∧ (eNod t n).take 14 = eNod t n ∧ (eNod t n).drop 14 = [] := ⟨rfl, rfl, rfl, rfl, rfl⟩
theorem eCel_facts (c : Cel) : (eCel c).length = 12 ∧ (eCel c)[0]? = some (.i c.key) ∧ (eCel c)[1]? = some (.i c.child) ∧ (eCel c).take 12 = eCel c ∧ (eCel c).drop 12 = [] := ⟨rfl, rfl, rfl, rfl, rfl⟩
set_option maxHeartbeats 1000000 in
theorem count_sound (t : Tok) (n : Nod) (H : AHeap) (h1 : n.lists.length ≤ 1000000) (h2 : n.lists.flatten.length ≤ 1000000) : Sound Try.prog 34 [.agg (eNod t n)] H (Pure H (.i (cntN n : Int))) := by
 obtain ⟨f0, f1, f2, f3, f4⟩ := eNod_facts t n
 refine fn_soundQ hE cf34 (Nat.le_of_ble_eq_true rfl) fun Q hQr hQn => ?_
 ((have hd := trivial; repeat' (first | ((first | apply GdK_st | apply GdK_sf | apply CondK_s) <;> intro hd <;> (try simp only [hd])) | simp (disch := first | assumption | omega | (simp only [nx] <;> omega) | fail) only [hd, hQr, hQn, c34_0, ↓YA, YB, YC, YE, YF, YZ, ↓reduceIte, Nat.reduceEqDiff, Nat.reduceAdd, Nat.reduceMul, Nat.reduceLeDiff, Int.reduceToNat, Int.reduceLE, Int.reduceLT, Int.reduceGT, Int.reduceGE, Int.reduceAdd, Int.reduceSub, Int.reduceNeg, Int.reduceBEq, Int.reduceBNe, f0, f2, f3, List.length_map])) <;> (try (have hd_ : True := hd; clear hd_ hd)))
 refine AW_for [7, 8] (σ := Unit) (fun (k : Nat) s => True) (fun k s => [(3, .i (((n.lists.take k).flatten.length + 1 : Nat) : Int))]) (fun k s => []) () (GStep.refl _ _) (by simp only [keep_nil, keep_cons, Fr.put, Fr.get, ↓reduceIte, Nat.reduceEqDiff]; rfl) (by intro k s; rfl) (by intro k s; rfl) (by rfl) (by unfold maxLen; omega) ?_ (by simp only [FrL_nil, FrL_cons, Fr.put, Fr.get, ↓reduceIte, Nat.reduceEqDiff, and_self] <;> simp) (by simp only [ObjL_nil]) ?_ ?_
 ·trivial
 ·(rintro k u G hk ht hG hn; try simp only [nx] at hn)
  have hr : (rL n.lists)[k]? = some [.sl .no (rC n.lists[k])] := by simp [hk]
  have hf := flat_le n.lists (k + 1)
  rw [take_flat hk, List.length_append] at hf
  have hw : IntKind.i64.wrap ((((n.lists.take k).flatten.length + 1 : Nat) : Int) + (n.lists[k].length : Int)) = (((n.lists.take (k + 1)).flatten.length + 1 : Nat) : Int) := by
   rw [take_flat hk, List.length_append, wrap_of (by omega) (by omega)]; omega
  generalize n.lists[k] = l at *
  ((have hd := trivial; repeat' (first | ((first | apply GdK_st | apply GdK_sf | apply CondK_s) <;> intro hd <;> (try simp only [hd])) | simp (disch := first | assumption | omega | (simp only [nx] <;> omega) | fail) only [hd, hQr, hQn, c34_0, ↓YA, YB, YC, YE, YF, YZ, ↓reduceIte, Nat.reduceEqDiff, Nat.reduceAdd, Nat.reduceMul, Nat.reduceLeDiff, Int.reduceToNat, Int.reduceLE, Int.reduceLT, Int.reduceGT, Int.reduceGE, Int.reduceAdd, Int.reduceSub, Int.reduceNeg, Int.reduceBEq, Int.reduceBNe, hr, hw, List.length_map])) <;> (try (have hd_ : True := hd; clear hd_ hd)))
  exact ⟨(), by exact HXT⟩
 ·(rintro u G ht hG hn; try simp only [nx] at hn)
  rw [List.take_length]
  ((have hd := trivial; repeat' (first | ((first | apply GdK_st | apply GdK_sf | apply CondK_s) <;> intro hd <;> (try simp only [hd])) | simp (disch := first | assumption | omega | (simp only [nx] <;> omega) | fail) only [hd, hQr, hQn, c34_0, ↓YA, YB, YC, YE, YF, YZ, ↓reduceIte, Nat.reduceEqDiff, Nat.reduceAdd, Nat.reduceMul, Nat.reduceLeDiff, Int.reduceToNat, Int.reduceLE, Int.reduceLT, Int.reduceGT, Int.reduceGE, Int.reduceAdd, Int.reduceSub, Int.reduceNeg, Int.reduceBEq, Int.reduceBNe])) <;> (try (have hd_ : True := hd; clear hd_ hd)))
  refine fin_iA (by rfl)
def capT (n : Int) : Int := if 1125899906842624 < n then 1125899906842624 else n
theorem cadd_sound (a b : Int) (H : AHeap) (ha : 0 ≤ a ∧ a ≤ 2000000000000000) (hb : 0 ≤ b ∧ b ≤ 2000000000000000) : Sound Try.prog 41 [.i a, .i b] H (Pure H (.i (capT (a + b)))) := by
 have hw : IntKind.i64.wrap (a + b) = a + b := wrap_of (by omega) (by omega)
 refine fn_soundQ hE cf41 (Nat.le_of_ble_eq_true rfl) fun Q hQr hQn => ?_
 ((have hd := trivial; repeat' (first | ((first | apply GdK_st | apply GdK_sf | apply CondK_s) <;> intro hd <;> (try simp only [hd])) | simp (disch := first | assumption | omega | (simp only [nx] <;> omega) | fail) only [hd, hQr, hQn, c41_0, ↓YA, YB, YC, YE, YF, YZ, ↓reduceIte, Nat.reduceEqDiff, Nat.reduceAdd, Nat.reduceMul, Nat.reduceLeDiff, Int.reduceToNat, Int.reduceLE, Int.reduceLT, Int.reduceGT, Int.reduceGE, Int.reduceAdd, Int.reduceSub, Int.reduceNeg, Int.reduceBEq, Int.reduceBNe, hw])) <;> (try (have hd_ : True := hd; clear hd_ hd)))
 refine fin_iA (by rfl)
def treeF (out : List Int) (n : Nod) (inner : Bool) : Int := if inner = true then (each n).foldl (fun s c => capT (s + out.getD c.child.toNat 0)) (cntN n) else cntN n
def treesL (x : Shp) (l : List Nod) : List Int := l.foldl (fun out n => out ++ [treeF out n (decide (n.dim < (x.sizes.length : Int) - 1))]) []
theorem capT_le (n : Int) : capT n ≤ 1125899906842624 := by unfold capT; split <;> omega
theorem capT_nn {n : Int} (h : 0 ≤ n) : 0 ≤ capT n := by unfold capT; split <;> omega
@[simp] theorem treesL_nil (x : Shp) : treesL x [] = [] := rfl
theorem treesL_snoc {x : Shp} {l : List Nod} {k : Nat} (h : k < l.length) : treesL x (l.take (k + 1)) = treesL x (l.take k) ++ [treeF (treesL x (l.take k)) l[k] (decide (l[k].dim < (x.sizes.length : Int) - 1))] := by
 rw [List.take_succ_eq_append_getElem h, treesL, List.foldl_append]; rfl
theorem treesL_len (x : Shp) (l : List Nod) : (treesL x l).length = l.length := by
 suffices ∀ (l : List Nod) (o : List Int), (l.foldl (fun out n => out ++ [treeF out n (decide (n.dim < (x.sizes.length : Int) - 1))]) o).length = o.length + l.length from by simpa [treesL] using this l []
 intro l
 induction l with
 | nil => intro o; simp
 | cons a r ih => intro o; rw [List.foldl_cons, ih]; simp; omega
theorem foldT_in {out : List Int} (ho : ∀ v ∈ out, 0 ≤ v) : ∀ (cs : List Cel) (s : Int), 0 ≤ s → s ≤ 1125899906842624 → 0 ≤ cs.foldl (fun s c => capT (s + out.getD c.child.toNat 0)) s ∧ cs.foldl (fun s c => capT (s + out.getD c.child.toNat 0)) s ≤ 1125899906842624
 | [], s, h1, h2 => ⟨h1, h2⟩
 | c :: cs, s, h1, h2 => by
  rw [List.foldl_cons]
  refine foldT_in ho cs _ (capT_nn ?_) (capT_le _)
  have : 0 ≤ out.getD c.child.toNat 0 := by
   rw [List.getD_eq_getElem?_getD]
   cases hg : out[c.child.toNat]? with
   | none => simp
   | some v => exact ho v (List.mem_of_getElem? hg)
  omega
theorem treeF_in {out : List Int} (ho : ∀ v ∈ out, 0 ≤ v) {n : Nod} (hn : n.lists.flatten.length ≤ 999999) (b : Bool) : 0 ≤ treeF out n b ∧ treeF out n b ≤ 1125899906842624 := by
 have h : (cntN n : Int) ≤ 1000000 := by unfold cntN; omega
 unfold treeF
 split
 ·exact foldT_in ho _ _ (by omega) (by omega)
 ·omega
theorem treesL_in {x : Shp} {l : List Nod} (hs : ∀ n ∈ l, smallN n) : ∀ k, k ≤ l.length → ∀ v ∈ treesL x (l.take k), 0 ≤ v ∧ v ≤ 1125899906842624
 | 0, _, v, hv => by simp [treesL] at hv
 | k + 1, hk, v, hv => by
  have ih := treesL_in (x := x) hs k (by omega)
  rw [treesL_snoc (by omega)] at hv
  rcases List.mem_append.1 hv with hv | hv
  ·exact ih v hv
  ·rw [List.mem_singleton.1 hv]
   exact treeF_in (fun v hv => (ih v hv).1) (hs _ (List.getElem_mem (by omega))).2.1 _
set_option maxHeartbeats 4000000 in
theorem trees_sound {H : AHeap} {id : Nat} {x : Shp} {l : List Nod} (ha : ArA H id x l) (hA : Ard x l) : Sound Try.prog 18 [.ptr id 0] H (Pure H (.sl .no (rI (treesL x l)))) := by
 obtain ⟨b1, b2, b3, b4, b5⟩ := shpMay_bounds hA.may
 obtain ⟨tok, nt, most, h⟩ := ha
 have hll := hA.len
 have hw0 : IntKind.i64.wrap ((x.sizes.length : Int) - 1) = (x.sizes.length : Int) - 1 := wrap_of (by omega) (by omega)
 refine fn_soundQ hE cf18 (Nat.le_of_ble_eq_true rfl) fun Q hQr hQn => ?_
 ((have hd := trivial; repeat' (first | ((first | apply GdK_st | apply GdK_sf | apply CondK_s) <;> intro hd <;> (try simp only [hd])) | simp (disch := first | assumption | omega | (simp only [nx] <;> omega) | fail) only [hd, hQr, hQn, c18_0, ↓YA, YB, YC, YE, YF, YZ, ↓reduceIte, Nat.reduceEqDiff, Nat.reduceAdd, Nat.reduceMul, Nat.reduceLeDiff, Int.reduceToNat, Int.reduceLE, Int.reduceLT, Int.reduceGT, Int.reduceGE, Int.reduceAdd, Int.reduceSub, Int.reduceNeg, Int.reduceBEq, Int.reduceBNe])) <;> (try (have hd_ : True := hd; clear hd_ hd)))
 refine CallK.use (shape_yes (nodes := .sl nt (rN l)) h hA.may) ?_
 rintro r G0 ⟨hx0, ts, rfl⟩
 ((have hd := trivial; repeat' (first | ((first | apply GdK_st | apply GdK_sf | apply CondK_s) <;> intro hd <;> (try simp only [hd])) | simp (disch := first | assumption | omega | (simp only [nx] <;> omega) | fail) only [hd, hQr, hQn, c18_0, ↓YA, YB, YC, YE, YF, YZ, ↓reduceIte, Nat.reduceEqDiff, Nat.reduceAdd, Nat.reduceMul, Nat.reduceLeDiff, Int.reduceToNat, Int.reduceLE, Int.reduceLT, Int.reduceGT, Int.reduceGE, Int.reduceAdd, Int.reduceSub, Int.reduceNeg, Int.reduceBEq, Int.reduceBNe, hw0, List.length_map])) <;> (try (have hd_ : True := hd; clear hd_ hd)))
 (refine CallK.use (nodes_sound ⟨tok, nt, most, hx0.get _ _ h⟩ (by omega) (by omega) hA.sm) ?_; rintro _ _ ⟨rfl, k1, rfl⟩)
 ((have hd := trivial; repeat' (first | ((first | apply GdK_st | apply GdK_sf | apply CondK_s) <;> intro hd <;> (try simp only [hd])) | simp (disch := first | assumption | omega | (simp only [nx] <;> omega) | fail) only [hd, hQr, hQn, c18_0, ↓YA, YB, YC, YE, YF, YZ, ↓reduceIte, Nat.reduceEqDiff, Nat.reduceAdd, Nat.reduceMul, Nat.reduceLeDiff, Int.reduceToNat, Int.reduceLE, Int.reduceLT, Int.reduceGT, Int.reduceGE, Int.reduceAdd, Int.reduceSub, Int.reduceNeg, Int.reduceBEq, Int.reduceBNe, List.length_map])) <;> (try (have hd_ : True := hd; clear hd_ hd)))
 have hxG : AHeap.Ext H (G0.bump k1) := by exact AXT
 have hn0 : (G0.bump k1).next = G0.next + k1 := rfl
 generalize G0.bump k1 = G1 at *
 refine AW_for [4, 16, 17] (σ := Unit) (fun (k : Nat) s => True) (fun k s => [(3, .sl (.own G1.next) (rI (treesL x (l.take k))))]) (fun k s => [(G1.next, .tok k 3 1)]) () (GStep.tok 3 3 1 rfl) (by simp only [keep_nil, keep_cons, Fr.put, Fr.get, ↓reduceIte, Nat.reduceEqDiff]; rfl) (by intro k s; rfl) (by intro k s; rfl) (by rfl) (by unfold maxLen; omega) ?_ (by simp only [FrL_nil, FrL_cons, Fr.put, Fr.get, ↓reduceIte, Nat.reduceEqDiff, and_self] <;> simp) ?_ ?_ ?_
 ·trivial
 ·rw [ObjL_cons]
  exact ⟨AHeap.get_alloc_self (H := G1), by simp [ObjL]⟩
 ·(rintro k u G hk ht hG hn; try simp only [nx] at hn)
  have ho := hG.o1
  have lo := AHeap.lt ho
  have hr := rN_get hk
  obtain ⟨s1, s2, s3⟩ := hA.sm _ (List.getElem_mem hk)
  have hled := hA.led k hk
  have hin := treesL_in (x := x) hA.sm k (by omega)
  have hlen := treesL_len x (l.take k)
  rw [List.length_take, Nat.min_eq_left (by omega)] at hlen
  have hsn := treesL_snoc (x := x) hk
  generalize l[k] = n at *
  generalize treesL x (l.take k) = out at *
  obtain ⟨f0, f1, f2, f3, f4⟩ := eNod_facts .no n
  have la1 : allLen 1 (rI out) = true := allLen_map (f := fun n : Int => [AV.i n]) (fun _ => rfl) out
  have la2 : ∀ v, allLen 1 [[AV.i v]] = true := fun _ => rfl
  have lm1 : k + 1 ≤ maxLen := by unfold maxLen; omega
  have lm2 : (k + 1) * 8 ≤ 140737488355328 := by omega
  have hrs : ∀ v, rI out ++ [[AV.i v]] = rI (out ++ [v]) := fun v => by simp
  have hb := bfb (decide (n.dim < (x.sizes.length : Int) - 1))
  rcases hb with d1 | d1
  ·have hT : treeF out n false = (cntN n : Int) := rfl
   rw [d1, hT] at hsn
   ((have hd := trivial; repeat' (first | ((first | apply GdK_st | apply GdK_sf | apply CondK_s) <;> intro hd <;> (try simp only [hd])) | simp (disch := first | assumption | omega | (simp only [nx] <;> omega) | fail) only [hd, hQr, hQn, c18_0, ↓YA, YB, YC, YE, YF, YZ, ↓reduceIte, Nat.reduceEqDiff, Nat.reduceAdd, Nat.reduceMul, Nat.reduceLeDiff, Int.reduceToNat, Int.reduceLE, Int.reduceLT, Int.reduceGT, Int.reduceGE, Int.reduceAdd, Int.reduceSub, Int.reduceNeg, Int.reduceBEq, Int.reduceBNe, hr, f0, f1, f3, f4, List.append_nil])) <;> (try (have hd_ : True := hd; clear hd_ hd)))
   (refine CallK.use (count_sound .no n _ s1 (by omega)) ?_; rintro _ _ ⟨rfl, k2, rfl⟩)
   ((have hd := trivial; repeat' (first | ((first | apply GdK_st | apply GdK_sf | apply CondK_s) <;> intro hd <;> (try simp only [hd])) | simp (disch := first | assumption | omega | (simp only [nx] <;> omega) | fail) only [hd, hQr, hQn, c18_0, ↓YA, YB, YC, YE, YF, YZ, ↓reduceIte, Nat.reduceEqDiff, Nat.reduceAdd, Nat.reduceMul, Nat.reduceLeDiff, Int.reduceToNat, Int.reduceLE, Int.reduceLT, Int.reduceGT, Int.reduceGE, Int.reduceAdd, Int.reduceSub, Int.reduceNeg, Int.reduceBEq, Int.reduceBNe, f0, f1, f3, f4, d1, ho, la1, la2, lm1, lm2, hrs, hlen, rowsIn, rowsOf, List.length_map, List.length_singleton])) <;> (try (have hd_ : True := hd; clear hd_ hd)))
   exact ⟨(), by rw [hsn], hG.alloc.bump.put⟩
  ·have hT : treeF out n true = (each n).foldl (fun s c => capT (s + out.getD c.child.toNat 0)) (cntN n) := rfl
   rw [d1, hT] at hsn
   have hle := hled (by simpa using d1)
   ((have hd := trivial; repeat' (first | ((first | apply GdK_st | apply GdK_sf | apply CondK_s) <;> intro hd <;> (try simp only [hd])) | simp (disch := first | assumption | omega | (simp only [nx] <;> omega) | fail) only [hd, hQr, hQn, c18_0, ↓YA, YB, YC, YE, YF, YZ, ↓reduceIte, Nat.reduceEqDiff, Nat.reduceAdd, Nat.reduceMul, Nat.reduceLeDiff, Int.reduceToNat, Int.reduceLE, Int.reduceLT, Int.reduceGT, Int.reduceGE, Int.reduceAdd, Int.reduceSub, Int.reduceNeg, Int.reduceBEq, Int.reduceBNe, hr, f0, f1, f3, f4, List.append_nil])) <;> (try (have hd_ : True := hd; clear hd_ hd)))
   (refine CallK.use (count_sound .no n _ s1 (by omega)) ?_; rintro _ _ ⟨rfl, k2, rfl⟩)
   ((have hd := trivial; repeat' (first | ((first | apply GdK_st | apply GdK_sf | apply CondK_s) <;> intro hd <;> (try simp only [hd])) | simp (disch := first | assumption | omega | (simp only [nx] <;> omega) | fail) only [hd, hQr, hQn, c18_0, ↓YA, YB, YC, YE, YF, YZ, ↓reduceIte, Nat.reduceEqDiff, Nat.reduceAdd, Nat.reduceMul, Nat.reduceLeDiff, Int.reduceToNat, Int.reduceLE, Int.reduceLT, Int.reduceGT, Int.reduceGE, Int.reduceAdd, Int.reduceSub, Int.reduceNeg, Int.reduceBEq, Int.reduceBNe, f0, f1, f3, f4, d1, List.append_nil])) <;> (try (have hd_ : True := hd; clear hd_ hd)))
   (refine CallK.use (each_sound .no n _ s1 (by omega)) ?_; rintro _ _ ⟨rfl, k3, rfl⟩)
   ((have hd := trivial; repeat' (first | ((first | apply GdK_st | apply GdK_sf | apply CondK_s) <;> intro hd <;> (try simp only [hd])) | simp (disch := first | assumption | omega | (simp only [nx] <;> omega) | fail) only [hd, hQr, hQn, c18_0, ↓YA, YB, YC, YE, YF, YZ, ↓reduceIte, Nat.reduceEqDiff, Nat.reduceAdd, Nat.reduceMul, Nat.reduceLeDiff, Int.reduceToNat, Int.reduceLE, Int.reduceLT, Int.reduceGT, Int.reduceGE, Int.reduceAdd, Int.reduceSub, Int.reduceNeg, Int.reduceBEq, Int.reduceBNe, List.length_map])) <;> (try (have hd_ : True := hd; clear hd_ hd)))
   have hG1 : HX [(G1.next, .tok k 3 1)] (G1.alloc (.tok 0 3 1)) (((G.alloc (.cells (eNod .no n) 60)).bump k2).bump k3) := hG.alloc.bump.bump
   generalize (((G.alloc (.cells (eNod .no n) 60)).bump k2).bump k3) = G2 at *
   have hel := cnt_each n
   have hc0 : (cntN n : Int) ≤ 1000000 := by unfold cntN; omega
   have hce : (each n).length ≤ 1000000 := by rw [hel]; omega
   generalize each n = cs at *
   refine AW_for [3, 4, 16, 17, 18, 29, 30] (σ := Unit) (fun (k : Nat) s => True) (fun k s => [(7, .i ((cs.take k).foldl (fun s c => capT (s + out.getD c.child.toNat 0)) (cntN n)))]) (fun k s => []) () (GStep.refl _ _) (by simp only [keep_nil, keep_cons, Fr.put, Fr.get, ↓reduceIte, Nat.reduceEqDiff]; rfl) (by intro k s; rfl) (by intro k s; rfl) (by rfl) (by unfold maxLen; omega) ?_ (by simp only [FrL_nil, FrL_cons, Fr.put, Fr.get, ↓reduceIte, Nat.reduceEqDiff, and_self] <;> simp) (by simp only [ObjL_nil]) ?_ ?_
   ·trivial
   ·(rintro j u G3 hj ht2 hG3 hn3; try simp only [nx] at hn3)
    have hrc : (rC cs)[j]? = some (eCel cs[j]) := by simp [hj]
    have hcl := hle _ (List.getElem_mem hj)
    have hfs : ∀ (f : Int → Cel → Int) (z : Int), (cs.take (j + 1)).foldl f z = f ((cs.take j).foldl f z) cs[j] := fun f z => by rw [List.take_succ_eq_append_getElem hj, List.foldl_append]; rfl
    have hfi := foldT_in (out := out) (fun v hv => (hin v hv).1) (cs.take j) (cntN n) (by omega) (by omega)
    replace hfs := hfs (fun s c => capT (s + out.getD c.child.toNat 0)) (cntN n)
    generalize (cs.take j).foldl (fun s c => capT (s + out.getD c.child.toNat 0)) (cntN n) = v at *
    generalize cs[j] = c at *
    obtain ⟨c0, c1, c2, c3, c4⟩ := eCel_facts c
    have hci : c.child.toNat < out.length := by omega
    obtain ⟨m, hm⟩ : ∃ m : Nat, c.child = (m : Int) := ⟨c.child.toNat, by omega⟩
    have hmo : (rI out)[m]? = some [.i (out.getD c.child.toNat 0)] := by
     have hmm : m < out.length := by omega
     simp [hm, hmm]
    have hvb := hin (out.getD c.child.toNat 0) (by rw [List.getD_eq_getElem?_getD, List.getElem?_eq_getElem hci]; exact List.getElem_mem hci)
    generalize out.getD c.child.toNat 0 = z at *
    have hadd := fun G => cadd_sound v z G (by omega) (by omega)
    ((have hd := trivial; repeat' (first | ((first | apply GdK_st | apply GdK_sf | apply CondK_s) <;> intro hd <;> (try simp only [hd])) | simp (disch := first | assumption | omega | (simp only [nx] <;> omega) | fail) only [hd, hQr, hQn, c18_0, ↓YA, YB, YC, YE, YF, YZ, ↓reduceIte, Nat.reduceEqDiff, Nat.reduceAdd, Nat.reduceMul, Nat.reduceLeDiff, Int.reduceToNat, Int.reduceLE, Int.reduceLT, Int.reduceGT, Int.reduceGE, Int.reduceAdd, Int.reduceSub, Int.reduceNeg, Int.reduceBEq, Int.reduceBNe, hrc, c0, c2, c3, c4, hm, hmo, List.append_nil])) <;> (try (have hd_ : True := hd; clear hd_ hd)))
    (refine CallK.use (hadd _) ?_; rintro _ _ ⟨rfl, k4, rfl⟩)
    ((have hd := trivial; repeat' (first | ((first | apply GdK_st | apply GdK_sf | apply CondK_s) <;> intro hd <;> (try simp only [hd])) | simp (disch := first | assumption | omega | (simp only [nx] <;> omega) | fail) only [hd, hQr, hQn, c18_0, ↓YA, YB, YC, YE, YF, YZ, ↓reduceIte, Nat.reduceEqDiff, Nat.reduceAdd, Nat.reduceMul, Nat.reduceLeDiff, Int.reduceToNat, Int.reduceLE, Int.reduceLT, Int.reduceGT, Int.reduceGE, Int.reduceAdd, Int.reduceSub, Int.reduceNeg, Int.reduceBEq, Int.reduceBNe])) <;> (try (have hd_ : True := hd; clear hd_ hd)))
    exact ⟨(), by rw [hfs], hG3.alloc.bump⟩
   ·(rintro u G3 ht2 hG3 hn3; try simp only [nx] at hn3)
    have ho3 : G3.get G1.next = some (.tok k 3 1) := (hG3.g _ (by have := hG1.n; simp only [nx] at this; omega) (by simp)).trans hG1.o1
    have lo3 := AHeap.lt ho3
    rw [List.take_length]
    ((have hd := trivial; repeat' (first | ((first | apply GdK_st | apply GdK_sf | apply CondK_s) <;> intro hd <;> (try simp only [hd])) | simp (disch := first | assumption | omega | (simp only [nx] <;> omega) | fail) only [hd, hQr, hQn, c18_0, ↓YA, YB, YC, YE, YF, YZ, ↓reduceIte, Nat.reduceEqDiff, Nat.reduceAdd, Nat.reduceMul, Nat.reduceLeDiff, Int.reduceToNat, Int.reduceLE, Int.reduceLT, Int.reduceGT, Int.reduceGE, Int.reduceAdd, Int.reduceSub, Int.reduceNeg, Int.reduceBEq, Int.reduceBNe, ho3, la1, la2, lm1, lm2, hrs, hlen, rowsIn, rowsOf, List.length_map, List.length_singleton])) <;> (try (have hd_ : True := hd; clear hd_ hd)))
    exact ⟨(), by rw [hsn], (hG1.quiet hG3).put⟩
 ·(rintro u G ht hG hn; try simp only [nx] at hn)
  rw [List.take_length]
  ((have hd := trivial; repeat' (first | ((first | apply GdK_st | apply GdK_sf | apply CondK_s) <;> intro hd <;> (try simp only [hd])) | simp (disch := first | assumption | omega | (simp only [nx] <;> omega) | fail) only [hd, hQr, hQn, c18_0, ↓YA, YB, YC, YE, YF, YZ, ↓reduceIte, Nat.reduceEqDiff, Nat.reduceAdd, Nat.reduceMul, Nat.reduceLeDiff, Int.reduceToNat, Int.reduceLE, Int.reduceLT, Int.reduceGT, Int.reduceGE, Int.reduceAdd, Int.reduceSub, Int.reduceNeg, Int.reduceBEq, Int.reduceBNe])) <;> (try (have hd_ : True := hd; clear hd_ hd)))
  exact fin_wkn (wkn_sl _ _) (hG.extO hxG.alloc (by simp; have := hxG.next; omega))
def cellsL (l : List Nod) : Nat := (l.map cntN).sum
theorem cellsL_snoc {l : List Nod} {k : Nat} (h : k < l.length) : cellsL (l.take (k + 1)) = cellsL (l.take k) + cntN l[k] := by
 rw [cellsL, cellsL, List.take_succ_eq_append_getElem h, List.map_append, List.sum_append]; simp
theorem cellsL_le {l : List Nod} (hs : ∀ n ∈ l, smallN n) : ∀ k, k ≤ l.length → cellsL (l.take k) ≤ k * 1000000
 | 0, _ => by simp [cellsL]
 | k + 1, h => by
  have ih := cellsL_le hs k (by omega)
  have := (hs _ (List.getElem_mem (show k < l.length by omega))).2.1
  rw [cellsL_snoc (by omega)]
  unfold cntN
  omega
def topT (x : Shp) (l : List Nod) : Int := (treesL x l).getLast?.getD 0
abbrev cenV (x : Shp) (l : List Nod) : List AV := [.i (l.length : Int), .i (cellsL l : Int), .i (topT x l)]
set_option maxHeartbeats 4000000 in
theorem of_sound {H : AHeap} {id : Nat} {x : Shp} {l : List Nod} (ha : ArA H id x l) (hA : Ard x l) : Sound Try.prog 10 [.ptr id 0] H (Pure H (.agg (cenV x l))) := by
 obtain ⟨b1, b2, b3, b4, b5⟩ := shpMay_bounds hA.may
 have hll := hA.len
 have hx1 : AHeap.Ext H ((H.alloc (.cells [.i 0, .i 0, .i 0] 35)).alloc (.cells [.i 0, .i 0, .i 0] 35)) := by exact AXT
 have hns := fun G (h : AHeap.Ext H G) => nodes_sound (ha.ext h) (by omega) (by omega) hA.sm
 have htr := fun G (h : AHeap.Ext H G) => trees_sound (ha.ext h) hA
 refine fn_soundQ hE cf10 (Nat.le_of_ble_eq_true rfl) fun Q hQr hQn => ?_
 ((have hd := trivial; repeat' (first | ((first | apply GdK_st | apply GdK_sf | apply CondK_s) <;> intro hd <;> (try simp only [hd])) | simp (disch := first | assumption | omega | (simp only [nx] <;> omega) | fail) only [hd, hQr, hQn, c10_0, ↓YA, YB, YC, YE, YF, YZ, ↓reduceIte, Nat.reduceEqDiff, Nat.reduceAdd, Nat.reduceMul, Nat.reduceLeDiff, Int.reduceToNat, Int.reduceLE, Int.reduceLT, Int.reduceGT, Int.reduceGE, Int.reduceAdd, Int.reduceSub, Int.reduceNeg, Int.reduceBEq, Int.reduceBNe])) <;> (try (have hd_ : True := hd; clear hd_ hd)))
 (refine CallK.use (hns _ hx1) ?_; rintro _ _ ⟨rfl, k1, rfl⟩)
 ((have hd := trivial; repeat' (first | ((first | apply GdK_st | apply GdK_sf | apply CondK_s) <;> intro hd <;> (try simp only [hd])) | simp (disch := first | assumption | omega | (simp only [nx] <;> omega) | fail) only [hd, hQr, hQn, c10_0, ↓YA, YB, YC, YE, YF, YZ, ↓reduceIte, Nat.reduceEqDiff, Nat.reduceAdd, Nat.reduceMul, Nat.reduceLeDiff, Int.reduceToNat, Int.reduceLE, Int.reduceLT, Int.reduceGT, Int.reduceGE, Int.reduceAdd, Int.reduceSub, Int.reduceNeg, Int.reduceBEq, Int.reduceBNe, List.length_map])) <;> (try (have hd_ : True := hd; clear hd_ hd)))
 have hx2 : AHeap.Ext H (((H.alloc (.cells [.i 0, .i 0, .i 0] 35)).alloc (.cells [.i 0, .i 0, .i 0] 35)).bump k1) := by exact AXT
 have g2 : (((H.alloc (.cells [.i 0, .i 0, .i 0] 35)).alloc (.cells [.i 0, .i 0, .i 0] 35)).bump k1).get H.next = some (.cells [.i 0, .i 0, .i 0] 35) := by
  rw [AHeap.get_bump, AHeap.get_alloc_ne (by simp only [nx]; omega)]; exact AHeap.get_alloc_self
 refine AW_for [0, 2, 3, 8, 9] (σ := Unit) (fun (k : Nat) s => True) (fun k s => []) (fun k s => [(H.next + 1, .cells [.i (k : Int), .i (cellsL (l.take k) : Int), .i 0] 35)]) () (GStep.refl _ _) (by simp only [keep_nil, keep_cons, Fr.put, Fr.get, ↓reduceIte, Nat.reduceEqDiff]; rfl) (by intro k s; rfl) (by intro k s; rfl) (by rfl) (by unfold maxLen; omega) ?_ (by simp only [FrL_nil]) ?_ ?_ ?_
 ·trivial
 ·rw [ObjL_cons]
  exact ⟨AHeap.get_alloc_self (H := H.alloc _), by simp [ObjL]⟩
 ·(rintro k u G hk ht hG hn; try simp only [nx] at hn)
  have ho := hG.o1
  have lo := AHeap.lt ho
  have hr := rN_get hk
  obtain ⟨s1, s2, s3⟩ := hA.sm _ (List.getElem_mem hk)
  have hle := cellsL_le hA.sm (k + 1) (by omega)
  rw [cellsL_snoc hk] at hle
  have hw1 : IntKind.i64.wrap ((k : Int) + 1) = ((k + 1 : Nat) : Int) := by rw [wrap_of (by omega) (by omega)]; omega
  have hw2 : IntKind.i64.wrap ((cellsL (l.take k) : Int) + (cntN l[k] : Int)) = ((cellsL (l.take (k + 1)) : Nat) : Int) := by rw [cellsL_snoc hk, wrap_of (by omega) (by omega)]; omega
  obtain ⟨f0, f1, f2, f3, f4⟩ := eNod_facts .no l[k]
  generalize l[k] = n at *
  ((have hd := trivial; repeat' (first | ((first | apply GdK_st | apply GdK_sf | apply CondK_s) <;> intro hd <;> (try simp only [hd])) | simp (disch := first | assumption | omega | (simp only [nx] <;> omega) | fail) only [hd, hQr, hQn, c10_0, ↓YA, YB, YC, YE, YF, YZ, ↓reduceIte, Nat.reduceEqDiff, Nat.reduceAdd, Nat.reduceMul, Nat.reduceLeDiff, Int.reduceToNat, Int.reduceLE, Int.reduceLT, Int.reduceGT, Int.reduceGE, Int.reduceAdd, Int.reduceSub, Int.reduceNeg, Int.reduceBEq, Int.reduceBNe, hr, f0, f1, f3, f4, ho, hw1, List.append_nil])) <;> (try (have hd_ : True := hd; clear hd_ hd)))
  (refine CallK.use (count_sound .no n _ s1 (by omega)) ?_; rintro _ _ ⟨rfl, k2, rfl⟩)
  ((have hd := trivial; repeat' (first | ((first | apply GdK_st | apply GdK_sf | apply CondK_s) <;> intro hd <;> (try simp only [hd])) | simp (disch := first | assumption | omega | (simp only [nx] <;> omega) | fail) only [hd, hQr, hQn, c10_0, ↓YA, YB, YC, YE, YF, YZ, ↓reduceIte, Nat.reduceEqDiff, Nat.reduceAdd, Nat.reduceMul, Nat.reduceLeDiff, Int.reduceToNat, Int.reduceLE, Int.reduceLT, Int.reduceGT, Int.reduceGE, Int.reduceAdd, Int.reduceSub, Int.reduceNeg, Int.reduceBEq, Int.reduceBNe, f0, f1, f3, f4, ho, hw1, hw2])) <;> (try (have hd_ : True := hd; clear hd_ hd)))
  exact ⟨(), ((hG.alloc.put).bump).put⟩
 ·(rintro u G ht hG hn; try simp only [nx] at hn)
  rw [List.take_length] at hG
  have ho := hG.o1
  have lo := AHeap.lt ho
  have hxG : AHeap.Ext H G := hG.extO hx2 (by simp)
  have g3 := (hG.g H.next (by simp only [nx]; omega) (by simp)).trans g2
  have l3 := AHeap.lt g3
  have htl := treesL_len x l
  ((have hd := trivial; repeat' (first | ((first | apply GdK_st | apply GdK_sf | apply CondK_s) <;> intro hd <;> (try simp only [hd])) | simp (disch := first | assumption | omega | (simp only [nx] <;> omega) | fail) only [hd, hQr, hQn, c10_0, ↓YA, YB, YC, YE, YF, YZ, ↓reduceIte, Nat.reduceEqDiff, Nat.reduceAdd, Nat.reduceMul, Nat.reduceLeDiff, Int.reduceToNat, Int.reduceLE, Int.reduceLT, Int.reduceGT, Int.reduceGE, Int.reduceAdd, Int.reduceSub, Int.reduceNeg, Int.reduceBEq, Int.reduceBNe])) <;> (try (have hd_ : True := hd; clear hd_ hd)))
  (refine CallK.use (htr _ hxG) ?_; rintro _ _ ⟨rfl, k2, rfl⟩)
  by_cases h0 : l.length = 0
  ·have d0 : decide ((l.length : Int) > 0) = false := decide_eq_false (by omega)
   have hz : topT x l = 0 := by unfold topT; rw [List.eq_nil_of_length_eq_zero h0]; rfl
   rw [← hz] at ho
   ((have hd := trivial; repeat' (first | ((first | apply GdK_st | apply GdK_sf | apply CondK_s) <;> intro hd <;> (try simp only [hd])) | simp (disch := first | assumption | omega | (simp only [nx] <;> omega) | fail) only [hd, hQr, hQn, c10_0, ↓YA, YB, YC, YE, YF, YZ, ↓reduceIte, Nat.reduceEqDiff, Nat.reduceAdd, Nat.reduceMul, Nat.reduceLeDiff, Int.reduceToNat, Int.reduceLE, Int.reduceLT, Int.reduceGT, Int.reduceGE, Int.reduceAdd, Int.reduceSub, Int.reduceNeg, Int.reduceBEq, Int.reduceBNe, List.length_map, htl, d0, ho, g3])) <;> (try (have hd_ : True := hd; clear hd_ hd)))
   exact fin_pA rfl ((hxG.bump).set (Nat.le_refl _))
  ·have d0 : decide ((l.length : Int) > 0) = true := decide_eq_true (by omega)
   have hw : IntKind.i64.wrap ((l.length : Int) - 1) = ((l.length - 1 : Nat) : Int) := by rw [wrap_of (by omega) (by omega)]; omega
   have hz : (rI (treesL x l))[l.length - 1]? = some [.i (topT x l)] := by
    unfold topT
    rw [List.getLast?_eq_getElem?, htl]
    have hlt : l.length - 1 < (treesL x l).length := by omega
    simp [hlt]
   ((have hd := trivial; repeat' (first | ((first | apply GdK_st | apply GdK_sf | apply CondK_s) <;> intro hd <;> (try simp only [hd])) | simp (disch := first | assumption | omega | (simp only [nx] <;> omega) | fail) only [hd, hQr, hQn, c10_0, ↓YA, YB, YC, YE, YF, YZ, ↓reduceIte, Nat.reduceEqDiff, Nat.reduceAdd, Nat.reduceMul, Nat.reduceLeDiff, Int.reduceToNat, Int.reduceLE, Int.reduceLT, Int.reduceGT, Int.reduceGE, Int.reduceAdd, Int.reduceSub, Int.reduceNeg, Int.reduceBEq, Int.reduceBNe, List.length_map, htl, d0, ho, g3, hw, hz])) <;> (try (have hd_ : True := hd; clear hd_ hd)))
   exact fin_pA rfl (((hxG.bump).set (by omega)).set (Nat.le_refl _))
def dimsL (x : Shp) (l : List Nod) : List Int := l.foldl (fun o n => o.set n.dim.toNat (o.getD n.dim.toNat 0 + 1)) (List.replicate x.sizes.length 0)
theorem dimsL_snoc {x : Shp} {l : List Nod} {k : Nat} (h : k < l.length) : dimsL x (l.take (k + 1)) = (dimsL x (l.take k)).set l[k].dim.toNat ((dimsL x (l.take k)).getD l[k].dim.toNat 0 + 1) := by
 rw [List.take_succ_eq_append_getElem h, dimsL, List.foldl_append]; rfl
theorem dimsL_len (x : Shp) (l : List Nod) : (dimsL x l).length = x.sizes.length := by
 suffices ∀ (l : List Nod) (o : List Int), (l.foldl (fun o n => o.set n.dim.toNat (o.getD n.dim.toNat 0 + 1)) o).length = o.length from by rw [dimsL, this]; simp
 intro l
 induction l with
 | nil => intro o; rfl
 | cons a r ih => intro o; rw [List.foldl_cons, ih]; simp
theorem dimsL_in {x : Shp} {l : List Nod} : ∀ k, k ≤ l.length → ∀ v ∈ dimsL x (l.take k), 0 ≤ v ∧ v ≤ k
 | 0, _, v, hv => by
  have : v ∈ List.replicate x.sizes.length (0 : Int) := hv
  rw [(List.mem_replicate.1 this).2]; omega
 | k + 1, h, v, hv => by
  have ih := dimsL_in (x := x) (l := l) k (by omega)
  rw [dimsL_snoc (by omega)] at hv
  rcases List.mem_or_eq_of_mem_set hv with hv | rfl
  ·have := ih v hv; omega
  ·have : ∀ i : Nat, 0 ≤ (dimsL x (l.take k)).getD i 0 ∧ (dimsL x (l.take k)).getD i 0 ≤ k := fun i => by
    rw [List.getD_eq_getElem?_getD]
    cases hg : (dimsL x (l.take k))[i]? with
    | none => simp
    | some v => exact ih v (List.mem_of_getElem? hg)
   have := this (l[k]'(by omega)).dim.toNat
   omega
theorem chunk_cI : ∀ l : List Int, chunk 1 l.length (l.map AV.i) = rI l
 | [] => rfl
 | n :: l => by rw [List.length_cons, List.map_cons, chunk]; exact congrArg _ (chunk_cI l)
theorem frz_ints {H : AHeap} {D : Nat → Bool} {id cap E : Nat} {o : List Int} (hD : D id = true) (hg : H.get id = some (.cells (o.map AV.i) E)) : Frz H D (.arr id 0 o.length cap) (.sl .no (rI o)) := by
 refine .arr id 0 1 o.length cap E _ _ hD hg (by simp) (by simp) (fun i r r' h1 h2 => ?_) (fun i r r' j x y h1 h2 hx hy => ?_)
 ·rw [List.drop_zero, chunk_cI, h2] at h1; injection h1 with h1; rw [h1]
 ·rw [List.drop_zero, chunk_cI, h2] at h1; injection h1 with h1; subst h1; rw [hx] at hy; injection hy with hy; subst hy; exact .refl _
abbrev cI (l : List Int) : List AV := l.map AV.i
set_option maxHeartbeats 4000000 in
theorem dims_sound {H : AHeap} {id : Nat} {x : Shp} {l : List Nod} (ha : ArA H id x l) (hA : Ard x l) : Sound Try.prog 11 [.ptr id 0] H (Pure H (.sl .no (rI (dimsL x l)))) := by
 obtain ⟨b1, b2, b3, b4, b5⟩ := shpMay_bounds hA.may
 have hll := hA.len
 have hns := fun G (h : AHeap.Ext H G) => nodes_sound (ha.ext h) (by omega) (by omega) hA.sm
 obtain ⟨tok, nt, most, h⟩ := ha
 have c1 : x.sizes.length ≤ maxLen := by unfold maxLen; omega
 have c2 : x.sizes.length * 8 ≤ 140737488355328 := by omega
 have c3 : (0 : Int) ≤ x.sizes.length := by omega
 have c4 : ¬ (x.sizes.length : Int) = 0 := by omega
 refine fn_soundQ hE cf11 (Nat.le_of_ble_eq_true rfl) fun Q hQr hQn => ?_
 ((have hd := trivial; repeat' (first | ((first | apply GdK_st | apply GdK_sf | apply CondK_s) <;> intro hd <;> (try simp only [hd])) | simp (disch := first | assumption | omega | (simp only [nx] <;> omega) | fail) only [hd, hQr, hQn, c11_0, ↓YA, YB, YC, YE, YF, YZ, ↓reduceIte, Nat.reduceEqDiff, Nat.reduceAdd, Nat.reduceMul, Nat.reduceLeDiff, Int.reduceToNat, Int.reduceLE, Int.reduceLT, Int.reduceGT, Int.reduceGE, Int.reduceAdd, Int.reduceSub, Int.reduceNeg, Int.reduceBEq, Int.reduceBNe])) <;> (try (have hd_ : True := hd; clear hd_ hd)))
 refine CallK.use (shape_yes (nodes := .sl nt (rN l)) h hA.may) ?_
 rintro r G0 ⟨hx0, ts, rfl⟩
 have c5 : (x.sizes.length : Int) ≤ x.sizes.length := Int.le_refl _
 ((have hd := trivial; repeat' (first | ((first | apply GdK_st | apply GdK_sf | apply CondK_s) <;> intro hd <;> (try simp only [hd])) | simp (disch := first | assumption | omega | (simp only [nx] <;> omega) | fail) only [hd, hQr, hQn, c11_0, ↓YA, YB, YC, YE, YF, YZ, ↓reduceIte, Nat.reduceEqDiff, Nat.reduceAdd, Nat.reduceMul, Nat.reduceLeDiff, Int.reduceToNat, Int.reduceLE, Int.reduceLT, Int.reduceGT, Int.reduceGE, Int.reduceAdd, Int.reduceSub, Int.reduceNeg, Int.reduceBEq, Int.reduceBNe, List.length_map, c1, c2, c3, c4, c5])) <;> (try (have hd_ : True := hd; clear hd_ hd)))
 have hfl : (List.replicate x.sizes.length [AV.sc (.int .i64 0)]).flatten = cI (dimsL x []) := by
  have : dimsL x [] = List.replicate x.sizes.length 0 := rfl
  rw [this, cI, List.map_replicate]
  generalize x.sizes.length = m
  induction m with
  | zero => rfl
  | succ m ih => rw [List.replicate_succ, List.flatten_cons, ih, List.replicate_succ]; rfl
 rw [hfl]
 have hx1 : AHeap.Ext H (G0.alloc (.cells (cI (dimsL x [])) 3)) := hx0.alloc
 (refine CallK.use (hns _ hx1) ?_; rintro _ _ ⟨rfl, k1, rfl⟩)
 ((have hd := trivial; repeat' (first | ((first | apply GdK_st | apply GdK_sf | apply CondK_s) <;> intro hd <;> (try simp only [hd])) | simp (disch := first | assumption | omega | (simp only [nx] <;> omega) | fail) only [hd, hQr, hQn, c11_0, ↓YA, YB, YC, YE, YF, YZ, ↓reduceIte, Nat.reduceEqDiff, Nat.reduceAdd, Nat.reduceMul, Nat.reduceLeDiff, Int.reduceToNat, Int.reduceLE, Int.reduceLT, Int.reduceGT, Int.reduceGE, Int.reduceAdd, Int.reduceSub, Int.reduceNeg, Int.reduceBEq, Int.reduceBNe, List.length_map])) <;> (try (have hd_ : True := hd; clear hd_ hd)))
 refine AW_for [3, 12, 13] (σ := Unit) (fun (k : Nat) s => True) (fun k s => []) (fun k s => [(G0.next, .cells (cI (dimsL x (l.take k))) 3)]) () (GStep.refl _ _) (by simp only [keep_nil, keep_cons, Fr.put, Fr.get, ↓reduceIte, Nat.reduceEqDiff]; rfl) (by intro k s; rfl) (by intro k s; rfl) (by rfl) (by unfold maxLen; omega) ?_ (by simp only [FrL_nil]) ?_ ?_ ?_
 ·trivial
 ·rw [ObjL_cons]
  exact ⟨AHeap.get_alloc_self (H := G0), by simp [ObjL]⟩
 ·(rintro k u G hk ht hG hn; try simp only [nx] at hn)
  have ho := hG.o1
  have lo := AHeap.lt ho
  have hr := rN_get hk
  obtain ⟨d1, d2⟩ := hA.dim _ (List.getElem_mem hk)
  have hsn := dimsL_snoc (x := x) hk
  have hlen := dimsL_len x (l.take k)
  have hin := dimsL_in (x := x) (l := l) k (by omega)
  generalize dimsL x (l.take k) = o at *
  obtain ⟨f0, f1, f2, f3, f4⟩ := eNod_facts .no l[k]
  generalize l[k] = n at *
  obtain ⟨m, hm⟩ : ∃ m : Nat, n.dim = (m : Int) := ⟨n.dim.toNat, by omega⟩
  rw [hm] at f1 hsn
  simp only [Int.toNat_natCast] at hsn
  have hmo : m < o.length := by omega
  have hv := hin _ (List.getElem_mem hmo)
  have hgd : o.getD m 0 = o[m] := by rw [List.getD_eq_getElem?_getD, List.getElem?_eq_getElem hmo]; rfl
  rw [hgd] at hsn
  have hc1 : (cI o)[m]? = some (.i o[m]) := by simp [hmo]
  have hw : IntKind.i64.wrap (o[m] + 1) = o[m] + 1 := wrap_of (by omega) (by omega)
  generalize o[m] = v at *
  have hmI : (m : Int) < (x.sizes.length : Int) := by omega
  have hm1 : m + 1 ≤ x.sizes.length := by omega
  have hset : (cI o).take m ++ [AV.i (v + 1)] ++ (cI o).drop (m + 1) = cI (o.set m (v + 1)) := by
   rw [cI, cI, List.map_set, List.set_eq_take_append_cons_drop, if_pos (by rw [List.length_map]; exact hmo), List.append_assoc]; rfl
  ((have hd := trivial; repeat' (first | ((first | apply GdK_st | apply GdK_sf | apply CondK_s) <;> intro hd <;> (try simp only [hd])) | simp (disch := first | assumption | omega | (simp only [nx] <;> omega) | fail) only [hd, hQr, hQn, c11_0, ↓YA, YB, YC, YE, YF, YZ, ↓reduceIte, Nat.reduceEqDiff, Nat.reduceAdd, Nat.reduceMul, Nat.reduceLeDiff, Int.reduceToNat, Int.reduceLE, Int.reduceLT, Int.reduceGT, Int.reduceGE, Int.reduceAdd, Int.reduceSub, Int.reduceNeg, Int.reduceBEq, Int.reduceBNe, hr, f0, f1, f3, f4, ho, hc1, hw, hlen, hmI, hm1, hset, List.append_nil, List.length_map])) <;> (try (have hd_ : True := hd; clear hd_ hd)))
  rw [← hsn]
  exact ⟨(), hG.alloc.put⟩
 ·(rintro u G ht hG hn; try simp only [nx] at hn)
  rw [List.take_length] at hG
  have ho := hG.o1
  have lo := AHeap.lt ho
  ((have hd := trivial; repeat' (first | ((first | apply GdK_st | apply GdK_sf | apply CondK_s) <;> intro hd <;> (try simp only [hd])) | simp (disch := first | assumption | omega | (simp only [nx] <;> omega) | fail) only [hd, hQr, hQn, c11_0, ↓YA, YB, YC, YE, YF, YZ, ↓reduceIte, Nat.reduceEqDiff, Nat.reduceAdd, Nat.reduceMul, Nat.reduceLeDiff, Int.reduceToNat, Int.reduceLE, Int.reduceLT, Int.reduceGT, Int.reduceGE, Int.reduceAdd, Int.reduceSub, Int.reduceNeg, Int.reduceBEq, Int.reduceBNe])) <;> (try (have hd_ : True := hd; clear hd_ hd)))
  have hfr : Frz G (fun i => decide (i = G0.next)) (.arr G0.next 0 x.sizes.length x.sizes.length) (.sl .no (rI (dimsL x l))) := by
   have := frz_ints (D := fun i => decide (i = G0.next)) (cap := x.sizes.length) (by simp) ho
   rw [dimsL_len] at this
   exact this
  exact fin_frz hfr (fun i hi => by simp; have := hx0.next; omega) (hG.extO hx1.bump (by simp; exact hx0.next))
structure Sha where
 M : List (Int × Int)
 w : Int
def shaC (s : Sha) (c : Cel) : Sha := ⟨aSet c.child ((aGet c.child s.M).getD 0 + 1) s.M, s.w + 1⟩
def shaN (x : Shp) (s : Sha) (n : Nod) : Sha := if n.dim = (x.sizes.length : Int) - 1 then s else (each n).foldl shaC s
def shaL (x : Shp) (l : List Nod) : Sha := l.foldl (shaN x) ⟨[], 0⟩
@[simp] theorem shaL_nil (x : Shp) : shaL x [] = ⟨[], 0⟩ := rfl
theorem shaL_snoc {x : Shp} {l : List Nod} {k : Nat} (h : k < l.length) : shaL x (l.take (k + 1)) = shaN x (shaL x (l.take k)) l[k] := by
 rw [List.take_succ_eq_append_getElem h, shaL, List.foldl_append]; rfl
structure ShaI (s : Sha) (m : Nat) : Prop where
 w : 0 ≤ s.w ∧ s.w ≤ m
 v : ∀ e ∈ s.M, 0 ≤ e.2 ∧ e.2 ≤ m
 l : (s.M.length : Int) ≤ s.w
theorem ShaI.step {s : Sha} {m : Nat} (h : ShaI s m) (c : Cel) : ShaI ⟨aSet c.child ((aGet c.child s.M).getD 0 + 1) s.M, s.w + 1⟩ (m + 1) := by
 have hg : 0 ≤ (aGet c.child s.M).getD 0 ∧ (aGet c.child s.M).getD 0 ≤ m := by
  cases hg : aGet c.child s.M with
  | none => simp
  | some v => exact h.v _ (aGet_mem hg)
 refine ⟨by have := h.w; simp only; omega, fun e he => ?_, ?_⟩
 ·have : ∀ {M : List (Int × Int)} {v : Int} {e : Int × Int}, e ∈ aSet c.child v M → e.2 = v ∨ e ∈ M := by
   intro M
   induction M with
   | nil => intro v e h; simp [aSet] at h; exact .inl (by rw [h])
   | cons a r ih =>
    intro v e h
    unfold aSet at h
    split at h
    ·rcases List.mem_cons.1 h with rfl | h
     ·exact .inl rfl
     ·exact .inr (List.mem_cons_of_mem _ h)
    ·rcases List.mem_cons.1 h with rfl | h
     ·exact .inr List.mem_cons_self
     ·rcases ih h with h | h
      ·exact .inl h
      ·exact .inr (List.mem_cons_of_mem _ h)
  rcases this he with h1 | h1
  ·rw [h1]; omega
  ·have := h.v e h1; omega
 ·have := aSet_le c.child ((aGet c.child s.M).getD 0 + 1) s.M
  have := h.l
  simp only
  omega
theorem ShaI.fold : ∀ {cs : List Cel} {s : Sha} {m : Nat}, ShaI s m → ShaI (cs.foldl shaC s) (m + cs.length)
 | [], _, _, h => h
 | c :: cs, s, m, h => by
  have := ShaI.fold (cs := cs) (h.step c)
  rw [List.foldl_cons, List.length_cons, show m + (cs.length + 1) = m + 1 + cs.length by omega]
  exact this
theorem ShaI.le {s : Sha} {m m' : Nat} (h : ShaI s m) (hm : m ≤ m') : ShaI s m' := ⟨by have := h.w; omega, fun e he => by have := h.v e he; omega, h.l⟩
theorem shaL_in {x : Shp} {l : List Nod} (hs : ∀ n ∈ l, smallN n) : ∀ k, k ≤ l.length → ShaI (shaL x (l.take k)) (k * 1000000)
 | 0, _ => ⟨⟨by simp [shaL], by simp [shaL]⟩, by simp [shaL], by simp [shaL]⟩
 | k + 1, h => by
  have ih := shaL_in (x := x) hs k (by omega)
  have := (hs _ (List.getElem_mem (show k < l.length by omega))).2.1
  rw [shaL_snoc (by omega)]
  unfold shaN
  split
  ·exact ih.le (by omega)
  ·refine ih.fold.le ?_
   rw [cnt_each]; unfold cntN; omega
abbrev mpS (M : List (Int × Int)) : AObj := .map (.one (.int .i64)) (eMap kI AV.i M) false
set_option maxHeartbeats 4000000 in
theorem shared_sound {H : AHeap} {id : Nat} {x : Shp} {l : List Nod} (ha : ArA H id x l) (hA : Ard x l) : Sound Try.prog 13 [.ptr id 0] H (Pure H (.i ((shaL x l).w - ((shaL x l).M.length : Int)))) := by
 obtain ⟨b1, b2, b3, b4, b5⟩ := shpMay_bounds hA.may
 have hll := hA.len
 have hns := fun G (h : AHeap.Ext H G) => nodes_sound (ha.ext h) (by omega) (by omega) hA.sm
 obtain ⟨tok, nt, most, h⟩ := ha
 have hw0 : IntKind.i64.wrap ((x.sizes.length : Int) - 1) = (x.sizes.length : Int) - 1 := wrap_of (by omega) (by omega)
 refine fn_soundQ hE cf13 (Nat.le_of_ble_eq_true rfl) fun Q hQr hQn => ?_
 ((have hd := trivial; repeat' (first | ((first | apply GdK_st | apply GdK_sf | apply CondK_s) <;> intro hd <;> (try simp only [hd])) | simp (disch := first | assumption | omega | (simp only [nx] <;> omega) | fail) only [hd, hQr, hQn, c13_0, ↓YA, YB, YC, YE, YF, YZ, ↓reduceIte, Nat.reduceEqDiff, Nat.reduceAdd, Nat.reduceMul, Nat.reduceLeDiff, Int.reduceToNat, Int.reduceLE, Int.reduceLT, Int.reduceGT, Int.reduceGE, Int.reduceAdd, Int.reduceSub, Int.reduceNeg, Int.reduceBEq, Int.reduceBNe])) <;> (try (have hd_ : True := hd; clear hd_ hd)))
 refine CallK.use (shape_yes (nodes := .sl nt (rN l)) h hA.may) ?_
 rintro r G0 ⟨hx0, ts, rfl⟩
 ((have hd := trivial; repeat' (first | ((first | apply GdK_st | apply GdK_sf | apply CondK_s) <;> intro hd <;> (try simp only [hd])) | simp (disch := first | assumption | omega | (simp only [nx] <;> omega) | fail) only [hd, hQr, hQn, c13_0, ↓YA, YB, YC, YE, YF, YZ, ↓reduceIte, Nat.reduceEqDiff, Nat.reduceAdd, Nat.reduceMul, Nat.reduceLeDiff, Int.reduceToNat, Int.reduceLE, Int.reduceLT, Int.reduceGT, Int.reduceGE, Int.reduceAdd, Int.reduceSub, Int.reduceNeg, Int.reduceBEq, Int.reduceBNe, List.length_map, hw0])) <;> (try (have hd_ : True := hd; clear hd_ hd)))
 have hx1 : AHeap.Ext H (G0.alloc (.map (.one (.int .i64)) [] false)) := hx0.alloc
 (refine CallK.use (hns _ hx1) ?_; rintro _ _ ⟨rfl, k1, rfl⟩)
 ((have hd := trivial; repeat' (first | ((first | apply GdK_st | apply GdK_sf | apply CondK_s) <;> intro hd <;> (try simp only [hd])) | simp (disch := first | assumption | omega | (simp only [nx] <;> omega) | fail) only [hd, hQr, hQn, c13_0, ↓YA, YB, YC, YE, YF, YZ, ↓reduceIte, Nat.reduceEqDiff, Nat.reduceAdd, Nat.reduceMul, Nat.reduceLeDiff, Int.reduceToNat, Int.reduceLE, Int.reduceLT, Int.reduceGT, Int.reduceGE, Int.reduceAdd, Int.reduceSub, Int.reduceNeg, Int.reduceBEq, Int.reduceBNe, List.length_map])) <;> (try (have hd_ : True := hd; clear hd_ hd)))
 refine AW_for [3, 4, 17, 18] (σ := Unit) (fun (k : Nat) s => True) (fun k s => [(5, .i (shaL x (l.take k)).w)]) (fun k s => [(G0.next, mpS (shaL x (l.take k)).M)]) () (GStep.refl _ _) (by simp only [keep_nil, keep_cons, Fr.put, Fr.get, ↓reduceIte, Nat.reduceEqDiff]; rfl) (by intro k s; rfl) (by intro k s; rfl) (by rfl) (by unfold maxLen; omega) ?_ (by simp only [FrL_nil, FrL_cons, Fr.put, Fr.get, ↓reduceIte, Nat.reduceEqDiff, and_self] <;> simp) ?_ ?_ ?_
 ·trivial
 ·rw [ObjL_cons]
  exact ⟨AHeap.get_alloc_self (H := G0), by simp [ObjL]⟩
 ·(rintro k u G hk ht hG hn; try simp only [nx] at hn)
  have ho := hG.o1
  have lo := AHeap.lt ho
  have hr := rN_get hk
  obtain ⟨s1, s2, s3⟩ := hA.sm _ (List.getElem_mem hk)
  have hsn := shaL_snoc (x := x) hk
  have hin := shaL_in (x := x) hA.sm k (by omega)
  generalize shaL x (l.take k) = z at *
  obtain ⟨f0, f1, f2, f3, f4⟩ := eNod_facts .no l[k]
  generalize l[k] = n at *
  by_cases hd : n.dim = (x.sizes.length : Int) - 1
  ·have hz : shaN x z n = z := by unfold shaN; rw [if_pos hd]
   have d1 : (n.dim == (x.sizes.length : Int) - 1) = true := by simpa using hd
   rw [hz] at hsn
   ((have hd := trivial; repeat' (first | ((first | apply GdK_st | apply GdK_sf | apply CondK_s) <;> intro hd <;> (try simp only [hd])) | simp (disch := first | assumption | omega | (simp only [nx] <;> omega) | fail) only [hd, hQr, hQn, c13_0, ↓YA, YB, YC, YE, YF, YZ, ↓reduceIte, Nat.reduceEqDiff, Nat.reduceAdd, Nat.reduceMul, Nat.reduceLeDiff, Int.reduceToNat, Int.reduceLE, Int.reduceLT, Int.reduceGT, Int.reduceGE, Int.reduceAdd, Int.reduceSub, Int.reduceNeg, Int.reduceBEq, Int.reduceBNe, hr, f0, f1, f3, f4, d1, List.append_nil])) <;> (try (have hd_ : True := hd; clear hd_ hd)))
   rw [hsn]
   exact ⟨(), rfl, hG.alloc⟩
  ·have hz : shaN x z n = (each n).foldl shaC z := by unfold shaN; rw [if_neg hd]
   have d1 : (n.dim == (x.sizes.length : Int) - 1) = false := by simpa using hd
   rw [hz] at hsn
   ((have hd := trivial; repeat' (first | ((first | apply GdK_st | apply GdK_sf | apply CondK_s) <;> intro hd <;> (try simp only [hd])) | simp (disch := first | assumption | omega | (simp only [nx] <;> omega) | fail) only [hd, hQr, hQn, c13_0, ↓YA, YB, YC, YE, YF, YZ, ↓reduceIte, Nat.reduceEqDiff, Nat.reduceAdd, Nat.reduceMul, Nat.reduceLeDiff, Int.reduceToNat, Int.reduceLE, Int.reduceLT, Int.reduceGT, Int.reduceGE, Int.reduceAdd, Int.reduceSub, Int.reduceNeg, Int.reduceBEq, Int.reduceBNe, hr, f0, f1, f3, f4, d1, List.append_nil])) <;> (try (have hd_ : True := hd; clear hd_ hd)))
   (refine CallK.use (each_sound .no n _ s1 (by omega)) ?_; rintro _ _ ⟨rfl, k3, rfl⟩)
   ((have hd := trivial; repeat' (first | ((first | apply GdK_st | apply GdK_sf | apply CondK_s) <;> intro hd <;> (try simp only [hd])) | simp (disch := first | assumption | omega | (simp only [nx] <;> omega) | fail) only [hd, hQr, hQn, c13_0, ↓YA, YB, YC, YE, YF, YZ, ↓reduceIte, Nat.reduceEqDiff, Nat.reduceAdd, Nat.reduceMul, Nat.reduceLeDiff, Int.reduceToNat, Int.reduceLE, Int.reduceLT, Int.reduceGT, Int.reduceGE, Int.reduceAdd, Int.reduceSub, Int.reduceNeg, Int.reduceBEq, Int.reduceBNe, List.length_map])) <;> (try (have hd_ : True := hd; clear hd_ hd)))
   have hG1 : HX [(G0.next, mpS z.M)] ((G0.alloc (.map (.one (.int .i64)) [] false)).bump k1) ((G.alloc (.cells (eNod .no n) 60)).bump k3) := hG.alloc.bump
   generalize ((G.alloc (.cells (eNod .no n) 60)).bump k3) = G1 at *
   have hce : (each n).length ≤ 1000000 := by rw [cnt_each]; unfold cntN; omega
   generalize each n = cs at *
   refine AW_for [3, 4, 17, 18, 19, 28, 29] (σ := Unit) (fun (k : Nat) s => True) (fun k s => [(5, .i ((cs.take k).foldl shaC z).w)]) (fun k s => [(G0.next, mpS ((cs.take k).foldl shaC z).M)]) () (GStep.refl _ _) (by simp only [keep_nil, keep_cons, Fr.put, Fr.get, ↓reduceIte, Nat.reduceEqDiff]; rfl) (by intro k s; rfl) (by intro k s; rfl) (by rfl) (by unfold maxLen; omega) ?_ (by simp only [FrL_nil, FrL_cons, Fr.put, Fr.get, ↓reduceIte, Nat.reduceEqDiff, and_self] <;> simp) ?_ ?_ ?_
   ·trivial
   ·rw [ObjL_cons]
    exact ⟨hG1.o1, by simp [ObjL]⟩
   ·(rintro j u G2 hj ht2 hG2 hn2; try simp only [nx] at hn2)
    have ho2 := hG2.o1
    have lo2 := AHeap.lt ho2
    have hrc : (rC cs)[j]? = some (eCel cs[j]) := by simp [hj]
    have hfs : (cs.take (j + 1)).foldl shaC z = shaC ((cs.take j).foldl shaC z) cs[j] := by rw [List.take_succ_eq_append_getElem hj, List.foldl_append]; rfl
    have hfi := hin.fold (cs := cs.take j)
    rw [List.length_take, Nat.min_eq_left (by omega)] at hfi
    generalize (cs.take j).foldl shaC z = y at *
    generalize cs[j] = c at *
    obtain ⟨c0, c1, c2, c3, c4⟩ := eCel_facts c
    have hof := kI_of c.child
    have hfn := mFind_map (vf := AV.i) kI_eq c.child y.M
    have hset := mSet_map (vf := AV.i) kI_eq c.child ((aGet c.child y.M).getD 0 + 1) y.M
    have hgv : 0 ≤ (aGet c.child y.M).getD 0 ∧ (aGet c.child y.M).getD 0 ≤ (k * 1000000 + j : Nat) := by
     cases hg : aGet c.child y.M with
     | none => simp; omega
     | some v => exact hfi.v _ (aGet_mem hg)
    have hw1 : IntKind.i64.wrap ((aGet c.child y.M).getD 0 + 1) = (aGet c.child y.M).getD 0 + 1 := wrap_of (by omega) (by omega)
    have hyw := hfi.w
    have hw2 : IntKind.i64.wrap (y.w + 1) = y.w + 1 := wrap_of (by omega) (by omega)
    have hfs1 : ((cs.take (j + 1)).foldl shaC z).w = y.w + 1 := by rw [hfs]; rfl
    have hfs2 : ((cs.take (j + 1)).foldl shaC z).M = aSet c.child ((aGet c.child y.M).getD 0 + 1) y.M := by rw [hfs]; rfl
    cases hg : aGet c.child y.M with
    | none =>
     simp only [hg, Option.map_none, Option.getD_none, Int.zero_add] at hfn hset hw1 hfs2
     ((have hd := trivial; repeat' (first | ((first | apply GdK_st | apply GdK_sf | apply CondK_s) <;> intro hd <;> (try simp only [hd])) | simp (disch := first | assumption | omega | (simp only [nx] <;> omega) | fail) only [hd, hQr, hQn, c13_0, ↓YA, YB, YC, YE, YF, YZ, ↓reduceIte, Nat.reduceEqDiff, Nat.reduceAdd, Nat.reduceMul, Nat.reduceLeDiff, Int.reduceToNat, Int.reduceLE, Int.reduceLT, Int.reduceGT, Int.reduceGE, Int.reduceAdd, Int.reduceSub, Int.reduceNeg, Int.reduceBEq, Int.reduceBNe, hrc, c0, c2, c3, c4, ho2, hof, hfn, hset, hw1, hw2, List.append_nil])) <;> (try (have hd_ : True := hd; clear hd_ hd)))
     rw [hfs1, hfs2]
     exact ⟨(), rfl, hG2.alloc.put⟩
    | some v =>
     simp only [hg, Option.map_some, Option.getD_some] at hfn hset hw1 hfs2
     ((have hd := trivial; repeat' (first | ((first | apply GdK_st | apply GdK_sf | apply CondK_s) <;> intro hd <;> (try simp only [hd])) | simp (disch := first | assumption | omega | (simp only [nx] <;> omega) | fail) only [hd, hQr, hQn, c13_0, ↓YA, YB, YC, YE, YF, YZ, ↓reduceIte, Nat.reduceEqDiff, Nat.reduceAdd, Nat.reduceMul, Nat.reduceLeDiff, Int.reduceToNat, Int.reduceLE, Int.reduceLT, Int.reduceGT, Int.reduceGE, Int.reduceAdd, Int.reduceSub, Int.reduceNeg, Int.reduceBEq, Int.reduceBNe, hrc, c0, c2, c3, c4, ho2, hof, hfn, hset, hw1, hw2, List.append_nil])) <;> (try (have hd_ : True := hd; clear hd_ hd)))
     rw [hfs1, hfs2]
     exact ⟨(), rfl, hG2.alloc.put⟩
   ·(rintro u G2 ht2 hG2 hn2; try simp only [nx] at hn2)
    rw [List.take_length] at hG2 ⊢
    ((have hd := trivial; repeat' (first | ((first | apply GdK_st | apply GdK_sf | apply CondK_s) <;> intro hd <;> (try simp only [hd])) | simp (disch := first | assumption | omega | (simp only [nx] <;> omega) | fail) only [hd, hQr, hQn, c13_0, ↓YA, YB, YC, YE, YF, YZ, ↓reduceIte, Nat.reduceEqDiff, Nat.reduceAdd, Nat.reduceMul, Nat.reduceLeDiff, Int.reduceToNat, Int.reduceLE, Int.reduceLT, Int.reduceGT, Int.reduceGE, Int.reduceAdd, Int.reduceSub, Int.reduceNeg, Int.reduceBEq, Int.reduceBNe])) <;> (try (have hd_ : True := hd; clear hd_ hd)))
    rw [hsn]
    exact ⟨(), rfl, hG1.thn hG2⟩
 ·(rintro u G ht hG hn; try simp only [nx] at hn)
  rw [List.take_length] at hG ⊢
  have ho := hG.o1
  have hin := shaL_in (x := x) hA.sm l.length (Nat.le_refl _)
  rw [List.take_length] at hin
  generalize shaL x l = z at *
  have h1 := hin.w
  have h2 := hin.l
  have hlen : (eMap kI AV.i z.M).length = z.M.length := by rw [eMap, List.length_map]
  have hw : IntKind.i64.wrap (z.w - (z.M.length : Int)) = z.w - (z.M.length : Int) := wrap_of (by omega) (by omega)
  ((have hd := trivial; repeat' (first | ((first | apply GdK_st | apply GdK_sf | apply CondK_s) <;> intro hd <;> (try simp only [hd])) | simp (disch := first | assumption | omega | (simp only [nx] <;> omega) | fail) only [hd, hQr, hQn, c13_0, ↓YA, YB, YC, YE, YF, YZ, ↓reduceIte, Nat.reduceEqDiff, Nat.reduceAdd, Nat.reduceMul, Nat.reduceLeDiff, Int.reduceToNat, Int.reduceLE, Int.reduceLT, Int.reduceGT, Int.reduceGE, Int.reduceAdd, Int.reduceSub, Int.reduceNeg, Int.reduceBEq, Int.reduceBNe, ho, hlen, hw])) <;> (try (have hd_ : True := hd; clear hd_ hd)))
  exact fin_pA rfl (hG.extO hx1.bump (by simp; exact hx0.next))
def twoD (c : UInt8) : Dm := ⟨[c], [⟨[116], [[97], [98]], []⟩]⟩
def twoS : Sc := ⟨[twoD 120, twoD 121], [[109]]⟩
set_option maxHeartbeats 1000000 in
theorem twod_sound (c : UInt8) (hc : c = 120 ∨ c = 121) (H : AHeap) : Sound Try.prog 47 [eS [c]] H (Pure H (.agg (eDm (twoD c)))) := by
 rcases hc with rfl | rfl
 ·refine fn_soundQ hE cf47 (Nat.le_of_ble_eq_true rfl) fun Q hQr hQn => ?_
  ((have hd := trivial; repeat' (first | ((first | apply GdK_st | apply GdK_sf | apply CondK_s) <;> intro hd <;> (try simp only [hd])) | simp (disch := first | assumption | omega | (simp only [nx] <;> omega) | fail) only [hd, hQr, hQn, c47_0, ↓YA, YB, YC, YE, YF, YZ, ↓reduceIte, Nat.reduceEqDiff, Nat.reduceAdd, Nat.reduceMul, Nat.reduceLeDiff, Int.reduceToNat, Int.reduceLE, Int.reduceLT, Int.reduceGT, Int.reduceGE, Int.reduceAdd, Int.reduceSub, Int.reduceNeg, Int.reduceBEq, Int.reduceBNe])) <;> (try (have hd_ : True := hd; clear hd_ hd)))
  exact fin_wkn (wknB_ok (n := 10) rfl) (by exact AXT)
 ·refine fn_soundQ hE cf47 (Nat.le_of_ble_eq_true rfl) fun Q hQr hQn => ?_
  ((have hd := trivial; repeat' (first | ((first | apply GdK_st | apply GdK_sf | apply CondK_s) <;> intro hd <;> (try simp only [hd])) | simp (disch := first | assumption | omega | (simp only [nx] <;> omega) | fail) only [hd, hQr, hQn, c47_0, ↓YA, YB, YC, YE, YF, YZ, ↓reduceIte, Nat.reduceEqDiff, Nat.reduceAdd, Nat.reduceMul, Nat.reduceLeDiff, Int.reduceToNat, Int.reduceLE, Int.reduceLT, Int.reduceGT, Int.reduceGE, Int.reduceAdd, Int.reduceSub, Int.reduceNeg, Int.reduceBEq, Int.reduceBNe])) <;> (try (have hd_ : True := hd; clear hd_ hd)))
  exact fin_wkn (wknB_ok (n := 10) rfl) (by exact AXT)
set_option maxHeartbeats 1000000 in
theorem two_sound (H : AHeap) : Sound Try.prog 26 [] H (Pure H (.agg (eSc twoS))) := by
 obtain ⟨f0, f1, f2, f3⟩ := eDm_facts (twoD 120)
 obtain ⟨g0, g1, g2, g3⟩ := eDm_facts (twoD 121)
 refine fn_soundQ hE cf26 (Nat.le_of_ble_eq_true rfl) fun Q hQr hQn => ?_
 ((have hd := trivial; repeat' (first | ((first | apply GdK_st | apply GdK_sf | apply CondK_s) <;> intro hd <;> (try simp only [hd])) | simp (disch := first | assumption | omega | (simp only [nx] <;> omega) | fail) only [hd, hQr, hQn, c26_0, ↓YA, YB, YC, YE, YF, YZ, ↓reduceIte, Nat.reduceEqDiff, Nat.reduceAdd, Nat.reduceMul, Nat.reduceLeDiff, Int.reduceToNat, Int.reduceLE, Int.reduceLT, Int.reduceGT, Int.reduceGE, Int.reduceAdd, Int.reduceSub, Int.reduceNeg, Int.reduceBEq, Int.reduceBNe])) <;> (try (have hd_ : True := hd; clear hd_ hd)))
 refine CallK.use (twod_sound 120 (.inl rfl) _) ?_
 rintro _ _ ⟨rfl, k1, rfl⟩
 ((have hd := trivial; repeat' (first | ((first | apply GdK_st | apply GdK_sf | apply CondK_s) <;> intro hd <;> (try simp only [hd])) | simp (disch := first | assumption | omega | (simp only [nx] <;> omega) | fail) only [hd, hQr, hQn, c26_0, ↓YA, YB, YC, YE, YF, YZ, ↓reduceIte, Nat.reduceEqDiff, Nat.reduceAdd, Nat.reduceMul, Nat.reduceLeDiff, Int.reduceToNat, Int.reduceLE, Int.reduceLT, Int.reduceGT, Int.reduceGE, Int.reduceAdd, Int.reduceSub, Int.reduceNeg, Int.reduceBEq, Int.reduceBNe])) <;> (try (have hd_ : True := hd; clear hd_ hd)))
 refine CallK.use (twod_sound 121 (.inr rfl) _) ?_
 rintro _ _ ⟨rfl, k2, rfl⟩
 ((have hd := trivial; repeat' (first | ((first | apply GdK_st | apply GdK_sf | apply CondK_s) <;> intro hd <;> (try simp only [hd])) | simp (disch := first | assumption | omega | (simp only [nx] <;> omega) | fail) only [hd, hQr, hQn, c26_0, ↓YA, YB, YC, YE, YF, YZ, ↓reduceIte, Nat.reduceEqDiff, Nat.reduceAdd, Nat.reduceMul, Nat.reduceLeDiff, Int.reduceToNat, Int.reduceLE, Int.reduceLT, Int.reduceGT, Int.reduceGE, Int.reduceAdd, Int.reduceSub, Int.reduceNeg, Int.reduceBEq, Int.reduceBNe, f0, g0, f3, g3])) <;> (try (have hd_ : True := hd; clear hd_ hd)))
 exact fin_wkn (wknB_ok (n := 10) rfl) (by exact AXT)
def twoF : List Fct := [([1, 0], ⟨1, 0, 0, 0, 0, 0, 0, 0, 0, 0⟩)]
theorem two_ok : bldE twoS 9 twoF = 0 := by decide
theorem two_nodes : bldL twoS 9 twoF = [⟨1, [[⟨0, 0, ⟨1, 0, 0, 0, 0, 0, 0, 0, 0, 0⟩⟩]], ⟨0, 0, ⟨1, 0, 0, 0, 0, 0, 0, 0, 0, 0⟩⟩⟩, ⟨0, [[⟨1, 0, ag0⟩]], ⟨0, 0, ag0⟩⟩] := by rfl
theorem two_small : smallS twoS := fun d hd t ht => by
 have h1 : d = twoD 120 ∨ d = twoD 121 := by simpa [twoS] using hd
 have h2 : ∀ c, ∀ t ∈ (twoD c).tiers, smallT t := fun c t ht => by
  have : t = ⟨[116], [[97], [98]], []⟩ := by simpa [twoD] using ht
  subst this; unfold smallT; decide
 rcases h1 with rfl | rfl
 ·exact h2 _ t ht
 ·exact h2 _ t ht
theorem two_may : shpMay (shpS twoS) = true := by decide
abbrev twoN : List Nod := [⟨1, [[⟨0, 0, ⟨1, 0, 0, 0, 0, 0, 0, 0, 0, 0⟩⟩]], ⟨0, 0, ⟨1, 0, 0, 0, 0, 0, 0, 0, 0, 0⟩⟩⟩, ⟨0, [[⟨1, 0, ag0⟩]], ⟨0, 0, ag0⟩⟩]
theorem two_ard : Ard (shpS twoS) twoN := by
 refine ⟨two_may, ?_, by decide, ?_, ?_⟩
 ·intro n hn
  have : n = twoN[0] ∨ n = twoN[1] := by simpa using hn
  rcases this with rfl | rfl <;> exact ⟨by decide, by decide, by decide⟩
 ·intro n hn
  have : n = twoN[0] ∨ n = twoN[1] := by simpa using hn
  rcases this with rfl | rfl <;> exact ⟨by decide, by decide⟩
 ·intro k hk
  match k, hk with
  | 0, _ => intro h; have h : (1 : Int) < 2 - 1 := h; omega
  | 1, _ =>
   intro _ c hc
   have hc : c ∈ [(⟨1, 0, ag0⟩ : Cel), ⟨0, 0, ag0⟩] := hc
   have : c = ⟨1, 0, ag0⟩ ∨ c = ⟨0, 0, ag0⟩ := by simpa using hc
   rcases this with rfl | rfl <;> exact ⟨by decide, by decide⟩
theorem two_cen : cenV (shpS twoS) twoN = [.i 2, .i 4, .i 6] := by rfl
set_option maxHeartbeats 2000000 in
theorem awake28_sound (H : AHeap) : Sound Try.prog 8 [] H (PureE H (.b true)) := by
 have hB : ∀ G, Sound Try.prog 9 [.agg (eSc twoS), .i 9, .sl .no (rF twoF)] G (BuildQ twoS 9 twoF G) := fun G => build_sound .no twoS 9 twoF G two_small (by decide) (fun h1 h2 h3 _ => facts_ok h1 h2 h3 (by
  intro f hf
  have : f = ([1, 0], ⟨1, 0, 0, 0, 0, 0, 0, 0, 0, 0⟩) := by simpa [twoF] using hf
  subst this
  exact ⟨by decide, by decide, by decide, by decide⟩))
 unfold BuildQ at hB
 rw [two_ok, two_nodes] at hB
 refine fn_soundQ hE cf8 (Nat.le_of_ble_eq_true rfl) fun Q hQr hQn => ?_
 ((have hd := trivial; repeat' (first | ((first | apply GdK_st | apply GdK_sf | apply CondK_s) <;> intro hd <;> (try simp only [hd])) | simp (disch := first | assumption | omega | (simp only [nx] <;> omega) | fail) only [hd, hQr, hQn, c8_0, ↓YA, YB, YC, YE, YF, YZ, ↓reduceIte, Nat.reduceEqDiff, Nat.reduceAdd, Nat.reduceMul, Nat.reduceLeDiff, Int.reduceToNat, Int.reduceLE, Int.reduceLT, Int.reduceGT, Int.reduceGE, Int.reduceAdd, Int.reduceSub, Int.reduceNeg, Int.reduceBEq, Int.reduceBNe])) <;> (try (have hd_ : True := hd; clear hd_ hd)))
 (refine CallK.use (two_sound _) ?_; rintro _ _ ⟨rfl, k1, rfl⟩)
 ((have hd := trivial; repeat' (first | ((first | apply GdK_st | apply GdK_sf | apply CondK_s) <;> intro hd <;> (try simp only [hd])) | simp (disch := first | assumption | omega | (simp only [nx] <;> omega) | fail) only [hd, hQr, hQn, c8_0, ↓YA, YB, YC, YE, YF, YZ, ↓reduceIte, Nat.reduceEqDiff, Nat.reduceAdd, Nat.reduceMul, Nat.reduceLeDiff, Int.reduceToNat, Int.reduceLE, Int.reduceLT, Int.reduceGT, Int.reduceGE, Int.reduceAdd, Int.reduceSub, Int.reduceNeg, Int.reduceBEq, Int.reduceBNe])) <;> (try (have hd_ : True := hd; clear hd_ hd)))
 refine CallK.use (Sound.wknA (hB _) rfl fun i a b ha hb => ?_) ?_
 ·match i with
  | 0 => simp only [List.getElem?_cons_zero, Option.some.injEq] at ha hb; subst ha hb; exact .refl _
  | 1 => simp only [List.getElem?_cons_zero, List.getElem?_cons_succ, Option.some.injEq] at ha hb; subst ha hb; exact .refl _
  | 2 => simp only [List.getElem?_cons_zero, List.getElem?_cons_succ, Option.some.injEq] at ha hb; subst ha hb; exact wknB_ok (n := 10) rfl
  | i + 3 => simp at ha
 rintro r G1 ⟨hx1, hr⟩
 rcases hr with ⟨h1, rfl⟩ | ⟨_, id, rfl, h2⟩
 ·exact absurd rfl h1
 have hx1 : AHeap.Ext H G1 := ((AHeap.Ext.refl H).bump).trans hx1
 have hO := of_sound h2 two_ard
 rw [two_cen] at hO
 ((have hd := trivial; repeat' (first | ((first | apply GdK_st | apply GdK_sf | apply CondK_s) <;> intro hd <;> (try simp only [hd])) | simp (disch := first | assumption | omega | (simp only [nx] <;> omega) | fail) only [hd, hQr, hQn, c8_0, ↓YA, YB, YC, YE, YF, YZ, ↓reduceIte, Nat.reduceEqDiff, Nat.reduceAdd, Nat.reduceMul, Nat.reduceLeDiff, Int.reduceToNat, Int.reduceLE, Int.reduceLT, Int.reduceGT, Int.reduceGE, Int.reduceAdd, Int.reduceSub, Int.reduceNeg, Int.reduceBEq, Int.reduceBNe])) <;> (try (have hd_ : True := hd; clear hd_ hd)))
 have e1 : scs [SK.int .i64, SK.int .i64, SK.int .i64] [AV.i 2, AV.i 4, AV.i 6] = some [.int .i64 2, .int .i64 4, .int .i64 6] := rfl
 have e2 : scs [SK.int .i64, SK.int .i64, SK.int .i64] [AV.sc (.int .i64 2), AV.sc (.int .i64 4), AV.sc (.int .i64 6)] = some [.int .i64 2, .int .i64 4, .int .i64 6] := rfl
 have e3 : vsEq [.int .i64 2, .int .i64 4, .int .i64 6] [.int .i64 2, .int .i64 4, .int .i64 6] = true := rfl
 (refine CallK.use (hO) ?_; rintro _ _ ⟨rfl, k2, rfl⟩)
 ((have hd := trivial; repeat' (first | ((first | apply GdK_st | apply GdK_sf | apply CondK_s) <;> intro hd <;> (try simp only [hd])) | simp (disch := first | assumption | omega | (simp only [nx] <;> omega) | fail) only [hd, hQr, hQn, c8_0, ↓YA, YB, YC, YE, YF, YZ, ↓reduceIte, Nat.reduceEqDiff, Nat.reduceAdd, Nat.reduceMul, Nat.reduceLeDiff, Int.reduceToNat, Int.reduceLE, Int.reduceLT, Int.reduceGT, Int.reduceGE, Int.reduceAdd, Int.reduceSub, Int.reduceNeg, Int.reduceBEq, Int.reduceBNe, e1, e2, e3])) <;> (try (have hd_ : True := hd; clear hd_ hd)))
 exact fin_keep ⟨rfl, by exact AXT⟩
end Go.Proofs.Ytaapiigfmdhobaa
