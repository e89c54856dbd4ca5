/- Texts of the walk, joined: Nd Ne Nf. -/
import Derived.Test.YtaapiigfmdhobaaMr
import Derived.Test.YtaapiigfmdhobaaMj
import Derived.Test.YtaapiigfmdhobaaMf
namespace Go.Proofs.Ytaapiigfmdhobaa
set_option linter.unusedSimpArgs false
set_option linter.unusedVariables false
open Go.RowKit
theorem sq_le_pow : ∀ c : Nat, 4 * ((1 + c) * (1 + c)) ≤ 9 * 2 ^ c
 | 0 => by decide
 | 1 => by decide
 | 2 => by decide
 | 3 => by decide
 | c + 4 => by
  have ih := sq_le_pow (c + 3)
  have e : 9 * 2 ^ (c + 4) = 2 * (9 * 2 ^ (c + 3)) := by rw [Nat.pow_succ]; omega
  rw [e]
  refine Nat.le_trans ?_ (Nat.mul_le_mul_left 2 ih)
  have h1 : (1 + (c + 4)) * (1 + (c + 4)) = (1 + (c + 3)) * (1 + (c + 3)) + 2 * (1 + (c + 3)) + 1 := by
   have : 1 + (c + 4) = (1 + (c + 3)) + 1 := by omega
   rw [this, Nat.add_mul, Nat.mul_add]; omega
  have h2 : 4 * (1 + (c + 3)) ≤ (1 + (c + 3)) * (1 + (c + 3)) := Nat.mul_le_mul_right _ (by omega)
  generalize (1 + (c + 3)) * (1 + (c + 3)) = q at *
  omega
def Bnd (k s m : Nat) : Prop := 4 ^ k * ((m + 1) * (m + 1)) ≤ 9 ^ k * 2 ^ s
theorem Bnd.zero : Bnd 0 0 0 := by unfold Bnd; decide
theorem Bnd.step {k s m c : Nat} (h : Bnd k s m) : Bnd (k + 1) (s + c) (c + c * m) := by
 unfold Bnd at *
 have e1 : c + c * m + 1 ≤ (1 + c) * (m + 1) := by rw [Nat.add_mul, Nat.one_mul, Nat.mul_succ]; omega
 have h1 : (c + c * m + 1) * (c + c * m + 1) ≤ ((1 + c) * (1 + c)) * ((m + 1) * (m + 1)) := by
  refine Nat.le_trans (Nat.mul_le_mul e1 e1) (Nat.le_of_eq ?_)
  rw [Nat.mul_mul_mul_comm]
 calc 4 ^ (k + 1) * ((c + c * m + 1) * (c + c * m + 1)) ≤ 4 ^ (k + 1) * (((1 + c) * (1 + c)) * ((m + 1) * (m + 1))) := Nat.mul_le_mul_left _ h1
  _ = (4 * ((1 + c) * (1 + c))) * (4 ^ k * ((m + 1) * (m + 1))) := by rw [Nat.pow_succ]; simp only [Nat.mul_assoc, Nat.mul_comm, Nat.mul_left_comm]
  _ ≤ (9 * 2 ^ c) * (9 ^ k * 2 ^ s) := Nat.mul_le_mul (sq_le_pow c) h
  _ = 9 ^ (k + 1) * 2 ^ (s + c) := by rw [Nat.pow_succ, Nat.pow_add]; simp only [Nat.mul_assoc, Nat.mul_comm, Nat.mul_left_comm]
theorem Bnd.le {k s m : Nat} (h : Bnd k s m) (hk : k ≤ 12) (hs : s ≤ 60) : m < 549755813888 := by
 refine Classical.byContradiction fun hm => ?_
 have hm : 549755813888 ≤ m := by omega
 unfold Bnd at h
 have h1 : 4 ^ k * (549755813888 * 549755813888) ≤ 9 ^ k * 2 ^ 60 := Nat.le_trans (Nat.mul_le_mul_left _ (Nat.mul_le_mul (by omega) (by omega))) (Nat.le_trans h (Nat.mul_le_mul_left _ (Nat.pow_le_pow_right (by decide) hs)))
 have h2 : ∀ k : Fin 13, 9 ^ k.val * 2 ^ 60 < 4 ^ k.val * (549755813888 * 549755813888) := by decide
 have := h2 ⟨k, by omega⟩
 simp only at this
 omega
theorem Bnd.mono {k s s' m : Nat} (h : Bnd k s m) (hs : s ≤ s') : Bnd (k + 1) s' m := by
 unfold Bnd at *
 rw [Nat.pow_succ, Nat.pow_succ]
 have h1 : 9 ^ k * 2 ^ s ≤ 9 ^ k * 2 ^ s' := Nat.mul_le_mul_left _ (Nat.pow_le_pow_right (by decide) hs)
 have e1 : 4 ^ k * 4 * ((m + 1) * (m + 1)) = 4 * (4 ^ k * ((m + 1) * (m + 1))) := by simp only [Nat.mul_assoc, Nat.mul_comm, Nat.mul_left_comm]
 have e2 : 9 ^ k * 9 * 2 ^ s' = 9 * (9 ^ k * 2 ^ s') := by simp only [Nat.mul_assoc, Nat.mul_comm, Nat.mul_left_comm]
 rw [e1, e2]
 generalize 4 ^ k * ((m + 1) * (m + 1)) = p at *
 generalize 9 ^ k * 2 ^ s' = q at *
 omega
def partU (out : List Int) (cs : List Cel) (z : Int) : Int := cs.foldl (fun s c => s + out.getD c.child.toNat 0) z
theorem getD_in {out : List Int} {m : Nat} (ho : ∀ v ∈ out, 0 ≤ v ∧ v ≤ (m : Int)) (i : Nat) : 0 ≤ out.getD i 0 ∧ out.getD i 0 ≤ (m : Int) := by
 rw [List.getD_eq_getElem?_getD]
 cases hg : out[i]? with
 | none => simp
 | some v => exact ho v (List.mem_of_getElem? hg)
theorem partU_in {out : List Int} {m : Nat} (ho : ∀ v ∈ out, 0 ≤ v ∧ v ≤ (m : Int)) : ∀ (cs : List Cel) (z : Nat), ∃ p : Nat, partU out cs z = (p : Int) ∧ z ≤ p ∧ p ≤ z + cs.length * m
 | [], z => ⟨z, rfl, Nat.le_refl _, by simp⟩
 | c :: cs, z => by
  obtain ⟨h1, h2⟩ := getD_in ho c.child.toNat
  obtain ⟨p, e, h3, h4⟩ := partU_in ho cs (z + (out.getD c.child.toNat 0).toNat)
  refine ⟨p, ?_, by omega, ?_⟩
  ·rw [← e]
   unfold partU
   rw [List.foldl_cons]
   congr 1
   omega
  ·rw [List.length_cons, Nat.add_mul]
   omega
theorem fold_cap {out : List Int} {m : Nat} (ho : ∀ v ∈ out, 0 ≤ v ∧ v ≤ (m : Int)) : ∀ (cs : List Cel) (z : Nat), z + cs.length * m ≤ 1125899906842624 → cs.foldl (fun s c => capT (s + out.getD c.child.toNat 0)) (z : Int) = partU out cs z
 | [], _, _ => rfl
 | c :: cs, z, h => by
  obtain ⟨h1, h2⟩ := getD_in ho c.child.toNat
  rw [List.length_cons, Nat.add_mul] at h
  have e : capT ((z : Int) + out.getD c.child.toNat 0) = ((z + (out.getD c.child.toNat 0).toNat : Nat) : Int) := by
   unfold capT
   rw [if_neg (by omega)]
   omega
  have ih := fold_cap ho cs (z + (out.getD c.child.toNat 0).toNat) (by omega)
  unfold partU at *
  rw [List.foldl_cons, List.foldl_cons, e, ih]
  congr 1
  omega
theorem trees_bnd {x : Shp} {l : List Nod} : ∀ k, k ≤ l.length → k ≤ 12 → cellsL (l.take k) ≤ 60 → ∃ m : Nat, Bnd k (cellsL (l.take k)) m ∧ ∀ v ∈ treesL x (l.take k), 0 ≤ v ∧ v ≤ (m : Int)
 | 0, _, _, _ => ⟨0, Bnd.zero, fun v hv => by simp at hv⟩
 | k + 1, hk, h12, h60 => by
  have hsn := cellsL_snoc (l := l) (k := k) (by omega)
  obtain ⟨m, hb, hm⟩ := trees_bnd (x := x) (l := l) k (by omega) (by omega) (by omega)
  have hb2 := hb.step (c := cntN l[k])
  rw [← hsn] at hb2
  have hb3 : Bnd (k + 1) (cellsL (l.take (k + 1))) m := hb.mono (by omega)
  have hlt := hb2.le h12 h60
  have hle : ∀ v ∈ treesL x (l.take (k + 1)), 0 ≤ v ∧ (v ≤ (m : Int) ∨ v ≤ ((cntN l[k] + cntN l[k] * m : Nat) : Int)) := fun v hv => by
   rw [treesL_snoc (by omega)] at hv
   rcases List.mem_append.1 hv with hv | hv
   ·have := hm v hv; exact ⟨this.1, .inl this.2⟩
   ·rw [List.mem_singleton.1 hv]
    unfold treeF
    split
    ·rw [fold_cap hm _ _ (by rw [cnt_each]; omega)]
     obtain ⟨p, e, p1, p2⟩ := partU_in hm (each l[k]) (cntN l[k])
     rw [cnt_each] at p2
     rw [e]
     exact ⟨by omega, .inr (by omega)⟩
    ·exact ⟨by omega, .inr (by omega)⟩
  by_cases hmm : m ≤ cntN l[k] + cntN l[k] * m
  ·exact ⟨_, hb2, fun v hv => by have := hle v hv; omega⟩
  ·exact ⟨_, hb3, fun v hv => by have := hle v hv; omega⟩
def VL (o : List Int) (id cap : Nat) : AV := match o with
 | [] => .sl .full []
 | _ :: _ => .arr id 0 o.length cap
@[simp] theorem VL_nil (id cap : Nat) : VL [] id cap = .sl .full [] := rfl
theorem VL_ne {o : List Int} (h : o ≠ []) (id cap : Nat) : VL o id cap = .arr id 0 o.length cap := by
 cases o with
 | nil => exact absurd rfl h
 | cons a r => rfl
theorem cI_flat (l : List Int) : (rI l).flatten = cI l := by
 induction l with
 | nil => rfl
 | cons a r ih => rw [rI, List.map_cons, List.flatten_cons, show (List.map (fun n => [AV.i n]) r).flatten = _ from ih]; rfl
def LsI (G : AHeap) (o : List Int) (id cap : Nat) (tail : List AV) : Prop := o ≠ [] → G.get id = some (.cells (cI o ++ tail) 3) ∧ (cI o ++ tail).length = cap ∧ o.length ≤ cap
theorem int_push {H : AHeap} {o : List Int} {id cap : Nat} {tail : List AV} {v : Int} {x : AV} {K : AV → AHeap → Prop} (hx : rowsIn H 1 x = some [[.i v]]) (ho : LsI H o id cap tail) (hl : o.length ≤ 1000000)
  (k : ∀ id' cap' tail' H', (o ≠ [] ∧ id' = id ∧ H' = H.set id (.cells (cI (o ++ [v]) ++ tail') 3)) ∨ (id' = H.next ∧ H' = H.alloc (.cells (cI (o ++ [v]) ++ tail') 3)) → (cI (o ++ [v]) ++ tail').length = cap' → o.length + 1 ≤ cap' → K (VL (o ++ [v]) id' cap') H') :
  ApvK H 3 1 8 [.i 0] (VL o id cap) x K := by
 have hvl : ∀ id cap, VL (o ++ [v]) id cap = .arr id 0 (o.length + 1) cap := fun id cap => by rw [VL_ne (by simp), List.length_append]; rfl
 simp only [hvl] at k
 have hfl : ∀ tail', (rI o ++ [[AV.i v]]).flatten ++ tail' = cI (o ++ [v]) ++ tail' := fun tail' => by rw [List.flatten_append, cI_flat, cI, cI, List.map_append]; rfl
 have hrw : ∀ q ∈ rI o, q.length = 1 := fun q hq => by obtain ⟨p, _, rfl⟩ := List.mem_map.1 hq; rfl
 by_cases hne : o = []
 ·subst hne
  unfold ApvK
  rw [VL_nil, hx]
  refine ⟨⟨by simp, rfl, by unfold maxLen; simp, by simp⟩, fun c h1 h2 => ?_⟩
  refine k H.next c _ _ (.inr ⟨rfl, rfl⟩) ?_ h1
  rw [List.length_append, flat_lenA (sz := 1) (rows := List.replicate _ _) (fun q hq => by rw [(List.mem_replicate.1 hq).2]; rfl), List.length_replicate]
  simp only [List.length_cons, List.length_nil, List.nil_append, List.length_map] at h1 ⊢
  omega
 ·obtain ⟨h1, h2, h3⟩ := ho hne
  have hrl : (rI o).length = o.length := List.length_map ..
  have h := apv_push (H := H) (E := 3) (sz := 1) (bytes := 8) (id := id) (cap := cap) (zero := [.i 0]) (rows := rI o) (tail := tail) (r := [.i v]) (x := x) (K := K)
   (by rw [cI_flat]; exact h1) hrw hx rfl (by rw [cI_flat, h2, Nat.mul_one]) (by rw [hrl]; exact h3) (by rw [hrl]; unfold maxLen; omega) (by rw [hrl]; omega) rfl (fun id' cap' tail' H' q1 q2 q3 _ => by
    rw [hfl] at q1 q2
    rw [hrl] at q3 ⊢
    refine k id' cap' tail' H' ?_ (by rw [q2, Nat.mul_one]) q3
    rcases q1 with ⟨q1, q4⟩ | q1
    ·exact .inl ⟨hne, q1, q4⟩
    ·exact .inr q1)
  rw [hrl] at h
  rw [VL_ne hne]
  exact h
theorem Sound.frzA {P : Program} {f : FuncId} {xs bs : List AV} {H : AHeap} {D : Nat → Bool} {R : AV → AHeap → Prop} (h : Sound P f bs (H.dels D) R) (hl : xs.length = bs.length) (hw : ∀ (i : Nat) x y, xs[i]? = some x → bs[i]? = some y → Frz H D x y) : Sound P f xs H R :=
 ⟨h.1, fun g w vs hW hV => by
  obtain ⟨k1, k2⟩ := frz_ok (D := D) hW
  refine (h.2 (g.frz H D) w vs k1 ⟨by rw [← hl]; exact hV.1, fun i y u hy hu => ?_⟩).mono ?_
  ·obtain ⟨x, hx⟩ := get_of_len hl hy
   exact (hV.2 i x u hx hu).frz (hw i x y hx hy) hW
  ·rintro e w' ⟨v, r, H', g', h1, h2, h3, h4, h5⟩
   exact ⟨v, r, H', g', h1, h2, h3, h4, k2.trans h5⟩⟩
theorem chunk_cIt : ∀ (l : List Int) (tail : List AV), chunk 1 l.length (cI l ++ tail) = rI l
 | [], _ => rfl
 | n :: l, tail => by rw [List.length_cons]; exact congrArg _ (chunk_cIt l tail)
theorem frz_arg {t : Tok} {a b : List Int} {id cap : Nat} {tail : List AV} {H : AHeap} (h1 : H.get id = some (.cells (cI b ++ tail) 3)) (i : Nat) {x y : AV} (hx : ([.sl t (rI a), .arr id 0 b.length cap] : List AV)[i]? = some x) (hy : ([.sl t (rI a), .sl .no (rI b)] : List AV)[i]? = some y) : Frz H (fun i => decide (i = id)) x y := by
 match i with
 | 0 => simp at hx hy; subst hx hy; exact .refl _
 | 1 =>
  simp only [List.getElem?_cons_zero, List.getElem?_cons_succ, Option.some.injEq] at hx hy
  subst hx hy
  refine .arr id 0 1 b.length cap 3 _ _ (by simp) h1 (by simp) (by simp) (fun i r r' h1 h2 => ?_) (fun i r r' j x y h1 h2 hx hy => ?_)
  ·rw [List.drop_zero, chunk_cIt, h2] at h1; injection h1 with h1; rw [h1]
  ·rw [List.drop_zero, chunk_cIt, h2] at h1; injection h1 with h1; subst h1; rw [hx] at hy; injection hy with hy; subst hy; exact .refl _
 | i + 2 => simp at hx
def IntsQ (a b : List Int) (id : Nat) (H : AHeap) (r : AV) (H' : AHeap) : Prop := r = .b (decide (a = b)) ∧ H.next ≤ H'.next ∧ ∀ i o, (b ≠ [] → i ≠ id) → H.get i = some o → H'.get i = some o
theorem ints_arr (t : Tok) {a b : List Int} {id cap : Nat} {tail : List AV} {H : AHeap} (hl : a.length ≤ 1000000) (hb : LsI H b id cap tail) : Sound Try.prog 20 [.sl t (rI a), VL b id cap] H (IntsQ a b id H) := by
 by_cases hne : b = []
 ·subst hne
  exact (ints_sound t .full a [] H hl).mono fun r H' ⟨e, k, e2⟩ => ⟨e, by rw [e2]; simp, fun i o _ h => by rw [e2]; exact h⟩
 ·obtain ⟨h1, h2, h3⟩ := hb hne
  rw [VL_ne hne]
  have hS : Sound Try.prog 20 [.sl t (rI a), .arr id 0 b.length cap] H (Pure (H.dels fun i => decide (i = id)) (.b (decide (a = b)))) := by
   refine Sound.frzA (bs := [.sl t (rI a), .sl .no (rI b)]) (ints_sound t .no a b _ hl) rfl fun i x y hx hy => ?_
   exact frz_arg h1 i hx hy
  exact hS.mono fun r H' ⟨e, k, e2⟩ => ⟨e, by rw [e2]; simp [AHeap.dels], fun i o hi h => by rw [e2, AHeap.get_bump, dels_get (by simpa using hi hne)]; exact h⟩
abbrev nilP : AV := .sc (.pointer none)
theorem noar_nil (H : AHeap) : NoAr H nilP := .inl rfl
set_option maxHeartbeats 1000000 in
theorem nodes_no (H : AHeap) : Sound Try.prog 33 [nilP] H (PureE H (.sl .full [])) := by
 refine fn_soundQ hE cf33 (Nat.le_of_ble_eq_true rfl) fun Q hQr hQn => ?_
 ((have hd := trivial; repeat' (first | ((first | apply GdK_st | apply GdK_sf | apply CondK_s) <;> intro hd <;> (try simp only [hd])) | simp (disch := first | assumption | omega | (simp only [nx] <;> omega) | fail) only [hd, hQr, hQn, c33_0, ↓YA, YB, YC, YE, YF, YZ, ↓reduceIte, Nat.reduceEqDiff, Nat.reduceAdd, Nat.reduceMul, Nat.reduceLeDiff, Int.reduceToNat, Int.reduceLE, Int.reduceLT, Int.reduceGT, Int.reduceGE, Int.reduceAdd, Int.reduceSub, Int.reduceNeg, Int.reduceBEq, Int.reduceBNe])) <;> (try (have hd_ : True := hd; clear hd_ hd)))
 refine CallK.use (there_no (noar_nil _)) ?_
 rintro r H1 ⟨rfl, hx1⟩
 ((have hd := trivial; repeat' (first | ((first | apply GdK_st | apply GdK_sf | apply CondK_s) <;> intro hd <;> (try simp only [hd])) | simp (disch := first | assumption | omega | (simp only [nx] <;> omega) | fail) only [hd, hQr, hQn, c33_0, ↓YA, YB, YC, YE, YF, YZ, ↓reduceIte, Nat.reduceEqDiff, Nat.reduceAdd, Nat.reduceMul, Nat.reduceLeDiff, Int.reduceToNat, Int.reduceLE, Int.reduceLT, Int.reduceGT, Int.reduceGE, Int.reduceAdd, Int.reduceSub, Int.reduceNeg, Int.reduceBEq, Int.reduceBNe])) <;> (try (have hd_ : True := hd; clear hd_ hd)))
 exact fin_keep ⟨rfl, hx1⟩
set_option maxHeartbeats 1000000 in
theorem trees_no (H : AHeap) : Sound Try.prog 18 [nilP] H (PureE H (.sl .full [])) := by
 refine fn_soundQ hE cf18 (Nat.le_of_ble_eq_true rfl) fun Q hQr hQn => ?_
 ((have hd := trivial; repeat' (first | ((first | apply GdK_st | apply GdK_sf | apply CondK_s) <;> intro hd <;> (try simp only [hd])) | simp (disch := first | assumption | omega | (simp only [nx] <;> omega) | fail) only [hd, hQr, hQn, c18_0, ↓YA, YB, YC, YE, YF, YZ, ↓reduceIte, Nat.reduceEqDiff, Nat.reduceAdd, Nat.reduceMul, Nat.reduceLeDiff, Int.reduceToNat, Int.reduceLE, Int.reduceLT, Int.reduceGT, Int.reduceGE, Int.reduceAdd, Int.reduceSub, Int.reduceNeg, Int.reduceBEq, Int.reduceBNe])) <;> (try (have hd_ : True := hd; clear hd_ hd)))
 refine CallK.use (shape_no (noar_nil _)) ?_
 rintro r H1 ⟨rfl, hx1⟩
 ((have hd := trivial; repeat' (first | ((first | apply GdK_st | apply GdK_sf | apply CondK_s) <;> intro hd <;> (try simp only [hd])) | simp (disch := first | assumption | omega | (simp only [nx] <;> omega) | fail) only [hd, hQr, hQn, c18_0, ↓YA, YB, YC, YE, YF, YZ, ↓reduceIte, Nat.reduceEqDiff, Nat.reduceAdd, Nat.reduceMul, Nat.reduceLeDiff, Int.reduceToNat, Int.reduceLE, Int.reduceLT, Int.reduceGT, Int.reduceGE, Int.reduceAdd, Int.reduceSub, Int.reduceNeg, Int.reduceBEq, Int.reduceBNe])) <;> (try (have hd_ : True := hd; clear hd_ hd)))
 refine CallK.use (nodes_no _) ?_
 rintro r H2 ⟨rfl, hx2⟩
 ((have hd := trivial; repeat' (first | ((first | apply GdK_st | apply GdK_sf | apply CondK_s) <;> intro hd <;> (try simp only [hd])) | simp (disch := first | assumption | omega | (simp only [nx] <;> omega) | fail) only [hd, hQr, hQn, c18_0, ↓YA, YB, YC, YE, YF, YZ, ↓reduceIte, Nat.reduceEqDiff, Nat.reduceAdd, Nat.reduceMul, Nat.reduceLeDiff, Int.reduceToNat, Int.reduceLE, Int.reduceLT, Int.reduceGT, Int.reduceGE, Int.reduceAdd, Int.reduceSub, Int.reduceNeg, Int.reduceBEq, Int.reduceBNe, List.length_nil])) <;> (try (have hd_ : True := hd; clear hd_ hd)))
 refine AW_for [4, 16, 17] (σ := Unit) (fun (k : Nat) s => True) (fun k s => [(3, .sl .full [])]) (fun k s => []) () (GStep.refl _ _) (by simp only [keep_nil, keep_cons, Fr.put, Fr.get, ↓reduceIte, Nat.reduceEqDiff]; rfl) (by intro k s; rfl) (by intro k s; rfl) (by rfl) (by unfold maxLen; omega) ?_ (by simp only [FrL_nil, FrL_cons, Fr.put, Fr.get, ↓reduceIte, Nat.reduceEqDiff, and_self] <;> simp) (by simp only [ObjL_nil]) ?_ ?_
 ·trivial
 ·(rintro k u G hk ht hG hn; try simp only [nx] at hn)
  exact absurd hk (by simp)
 ·(rintro u G ht hG hn; try simp only [nx] at hn)
  ((have hd := trivial; repeat' (first | ((first | apply GdK_st | apply GdK_sf | apply CondK_s) <;> intro hd <;> (try simp only [hd])) | simp (disch := first | assumption | omega | (simp only [nx] <;> omega) | fail) only [hd, hQr, hQn, c18_0, ↓YA, YB, YC, YE, YF, YZ, ↓reduceIte, Nat.reduceEqDiff, Nat.reduceAdd, Nat.reduceMul, Nat.reduceLeDiff, Int.reduceToNat, Int.reduceLE, Int.reduceLT, Int.reduceGT, Int.reduceGE, Int.reduceAdd, Int.reduceSub, Int.reduceNeg, Int.reduceBEq, Int.reduceBNe])) <;> (try (have hd_ : True := hd; clear hd_ hd)))
  exact fin_keep ⟨rfl, hG.extO (hx1.trans hx2) (by simp)⟩
set_option maxHeartbeats 1000000 in
theorem of_no (H : AHeap) : Sound Try.prog 10 [nilP] H (PureE H (.agg [.i 0, .i 0, .i 0])) := by
 have hx0 : AHeap.Ext H ((H.alloc (.cells [.i 0, .i 0, .i 0] 35)).alloc (.cells [.i 0, .i 0, .i 0] 35)) := by exact AXT
 have g2 : ((H.alloc (.cells [.i 0, .i 0, .i 0] 35)).alloc (.cells [.i 0, .i 0, .i 0] 35)).get H.next = some (.cells [.i 0, .i 0, .i 0] 35) := by
  rw [AHeap.get_alloc_ne (by simp only [nx]; omega)]; exact AHeap.get_alloc_self
 have g3 : ((H.alloc (.cells [.i 0, .i 0, .i 0] 35)).alloc (.cells [.i 0, .i 0, .i 0] 35)).get (H.next + 1) = some (.cells [.i 0, .i 0, .i 0] 35) := AHeap.get_alloc_self (H := H.alloc _)
 refine fn_soundQ hE cf10 (Nat.le_of_ble_eq_true rfl) fun Q hQr hQn => ?_
 ((have hd := trivial; repeat' (first | ((first | apply GdK_st | apply GdK_sf | apply CondK_s) <;> intro hd <;> (try simp only [hd])) | simp (disch := first | assumption | omega | (simp only [nx] <;> omega) | fail) only [hd, hQr, hQn, c10_0, ↓YA, YB, YC, YE, YF, YZ, ↓reduceIte, Nat.reduceEqDiff, Nat.reduceAdd, Nat.reduceMul, Nat.reduceLeDiff, Int.reduceToNat, Int.reduceLE, Int.reduceLT, Int.reduceGT, Int.reduceGE, Int.reduceAdd, Int.reduceSub, Int.reduceNeg, Int.reduceBEq, Int.reduceBNe])) <;> (try (have hd_ : True := hd; clear hd_ hd)))
 refine CallK.use (nodes_no _) ?_
 rintro r H1 ⟨rfl, hx1⟩
 have g2 := hx1.get _ _ g2
 have g3 := hx1.get _ _ g3
 have hx1 := hx0.trans hx1
 ((have hd := trivial; repeat' (first | ((first | apply GdK_st | apply GdK_sf | apply CondK_s) <;> intro hd <;> (try simp only [hd])) | simp (disch := first | assumption | omega | (simp only [nx] <;> omega) | fail) only [hd, hQr, hQn, c10_0, ↓YA, YB, YC, YE, YF, YZ, ↓reduceIte, Nat.reduceEqDiff, Nat.reduceAdd, Nat.reduceMul, Nat.reduceLeDiff, Int.reduceToNat, Int.reduceLE, Int.reduceLT, Int.reduceGT, Int.reduceGE, Int.reduceAdd, Int.reduceSub, Int.reduceNeg, Int.reduceBEq, Int.reduceBNe, List.length_nil])) <;> (try (have hd_ : True := hd; clear hd_ hd)))
 refine AW_for [0, 2, 3, 8, 9] (σ := Unit) (fun (k : Nat) s => True) (fun k s => []) (fun k s => []) () (GStep.refl _ _) (by simp only [keep_nil, keep_cons, Fr.put, Fr.get, ↓reduceIte, Nat.reduceEqDiff]; rfl) (by intro k s; rfl) (by intro k s; rfl) (by rfl) (by unfold maxLen; omega) ?_ (by simp only [FrL_nil]) (by simp only [ObjL_nil]) ?_ ?_
 ·trivial
 ·(rintro k u G hk ht hG hn; try simp only [nx] at hn)
  exact absurd hk (by simp)
 ·(rintro u G ht hG hn; try simp only [nx] at hn)
  have hxG := hG.extO hx1 (by simp)
  have g2 := (hG.g _ (AHeap.lt g2) (by simp)).trans g2
  have g3 := (hG.g _ (AHeap.lt g3) (by simp)).trans g3
  ((have hd := trivial; repeat' (first | ((first | apply GdK_st | apply GdK_sf | apply CondK_s) <;> intro hd <;> (try simp only [hd])) | simp (disch := first | assumption | omega | (simp only [nx] <;> omega) | fail) only [hd, hQr, hQn, c10_0, ↓YA, YB, YC, YE, YF, YZ, ↓reduceIte, Nat.reduceEqDiff, Nat.reduceAdd, Nat.reduceMul, Nat.reduceLeDiff, Int.reduceToNat, Int.reduceLE, Int.reduceLT, Int.reduceGT, Int.reduceGE, Int.reduceAdd, Int.reduceSub, Int.reduceNeg, Int.reduceBEq, Int.reduceBNe])) <;> (try (have hd_ : True := hd; clear hd_ hd)))
  refine CallK.use (trees_no _) ?_
  rintro r H2 ⟨rfl, hx2⟩
  have g2 := hx2.get _ _ g2
  have g3 := hx2.get _ _ g3
  have hx2 := hxG.trans hx2
  have d0 : decide (((0 : Nat) : Int) > 0) = false := by decide
  have l2 := AHeap.lt g2
  ((have hd := trivial; repeat' (first | ((first | apply GdK_st | apply GdK_sf | apply CondK_s) <;> intro hd <;> (try simp only [hd])) | simp (disch := first | assumption | omega | (simp only [nx] <;> omega) | fail) only [hd, hQr, hQn, c10_0, ↓YA, YB, YC, YE, YF, YZ, ↓reduceIte, Nat.reduceEqDiff, Nat.reduceAdd, Nat.reduceMul, Nat.reduceLeDiff, Int.reduceToNat, Int.reduceLE, Int.reduceLT, Int.reduceGT, Int.reduceGE, Int.reduceAdd, Int.reduceSub, Int.reduceNeg, Int.reduceBEq, Int.reduceBNe, List.length_nil, d0, g2, g3])) <;> (try (have hd_ : True := hd; clear hd_ hd)))
  exact fin_keep (R := PureE H (.agg [.i 0, .i 0, .i 0])) ⟨rfl, hx2.set (Nat.le_refl _)⟩
set_option maxHeartbeats 1000000 in
theorem dims_no (H : AHeap) : Sound Try.prog 11 [nilP] H (PureE H (.sl .full [])) := by
 refine fn_soundQ hE cf11 (Nat.le_of_ble_eq_true rfl) fun Q hQr hQn => ?_
 ((have hd := trivial; repeat' (first | ((first | apply GdK_st | apply GdK_sf | apply CondK_s) <;> intro hd <;> (try simp only [hd])) | simp (disch := first | assumption | omega | (simp only [nx] <;> omega) | fail) only [hd, hQr, hQn, c11_0, ↓YA, YB, YC, YE, YF, YZ, ↓reduceIte, Nat.reduceEqDiff, Nat.reduceAdd, Nat.reduceMul, Nat.reduceLeDiff, Int.reduceToNat, Int.reduceLE, Int.reduceLT, Int.reduceGT, Int.reduceGE, Int.reduceAdd, Int.reduceSub, Int.reduceNeg, Int.reduceBEq, Int.reduceBNe])) <;> (try (have hd_ : True := hd; clear hd_ hd)))
 refine CallK.use (shape_no (noar_nil _)) ?_
 rintro r H1 ⟨rfl, hx1⟩
 have m1 : ((0 : Nat) : Int) ≤ ((0 : Nat) : Int) := Int.le_refl _
 have m2 : 0 ≤ maxLen := Nat.zero_le _
 have m3 : ((0 : Nat) : Int) = 0 := rfl
 ((have hd := trivial; repeat' (first | ((first | apply GdK_st | apply GdK_sf | apply CondK_s) <;> intro hd <;> (try simp only [hd])) | simp (disch := first | assumption | omega | (simp only [nx] <;> omega) | fail) only [hd, hQr, hQn, c11_0, ↓YA, YB, YC, YE, YF, YZ, ↓reduceIte, Nat.reduceEqDiff, Nat.reduceAdd, Nat.reduceMul, Nat.reduceLeDiff, Int.reduceToNat, Int.reduceLE, Int.reduceLT, Int.reduceGT, Int.reduceGE, Int.reduceAdd, Int.reduceSub, Int.reduceNeg, Int.reduceBEq, Int.reduceBNe, List.length_nil, m1, m2, m3])) <;> (try (have hd_ : True := hd; clear hd_ hd)))
 refine CallK.use (nodes_no _) ?_
 rintro r H2 ⟨rfl, hx2⟩
 have hx2 := hx1.trans hx2
 ((have hd := trivial; repeat' (first | ((first | apply GdK_st | apply GdK_sf | apply CondK_s) <;> intro hd <;> (try simp only [hd])) | simp (disch := first | assumption | omega | (simp only [nx] <;> omega) | fail) only [hd, hQr, hQn, c11_0, ↓YA, YB, YC, YE, YF, YZ, ↓reduceIte, Nat.reduceEqDiff, Nat.reduceAdd, Nat.reduceMul, Nat.reduceLeDiff, Int.reduceToNat, Int.reduceLE, Int.reduceLT, Int.reduceGT, Int.reduceGE, Int.reduceAdd, Int.reduceSub, Int.reduceNeg, Int.reduceBEq, Int.reduceBNe, List.length_nil])) <;> (try (have hd_ : True := hd; clear hd_ hd)))
 refine AW_for [3, 12, 13] (σ := Unit) (fun (k : Nat) s => True) (fun k s => []) (fun k s => []) () (GStep.refl _ _) (by simp only [keep_nil, keep_cons, Fr.put, Fr.get, ↓reduceIte, Nat.reduceEqDiff]; rfl) (by intro k s; rfl) (by intro k s; rfl) (by rfl) (by unfold maxLen; omega) ?_ (by simp only [FrL_nil]) (by simp only [ObjL_nil]) ?_ ?_
 ·trivial
 ·(rintro k u G hk ht hG hn; try simp only [nx] at hn)
  exact absurd hk (by simp)
 ·(rintro u G ht hG hn; try simp only [nx] at hn)
  ((have hd := trivial; repeat' (first | ((first | apply GdK_st | apply GdK_sf | apply CondK_s) <;> intro hd <;> (try simp only [hd])) | simp (disch := first | assumption | omega | (simp only [nx] <;> omega) | fail) only [hd, hQr, hQn, c11_0, ↓YA, YB, YC, YE, YF, YZ, ↓reduceIte, Nat.reduceEqDiff, Nat.reduceAdd, Nat.reduceMul, Nat.reduceLeDiff, Int.reduceToNat, Int.reduceLE, Int.reduceLT, Int.reduceGT, Int.reduceGE, Int.reduceAdd, Int.reduceSub, Int.reduceNeg, Int.reduceBEq, Int.reduceBNe])) <;> (try (have hd_ : True := hd; clear hd_ hd)))
  exact fin_keep ⟨rfl, hG.extO hx2 (by simp)⟩
set_option maxHeartbeats 1000000 in
theorem shared_no (H : AHeap) : Sound Try.prog 13 [nilP] H (PureE H (.i 0)) := by
 refine fn_soundQ hE cf13 (Nat.le_of_ble_eq_true rfl) fun Q hQr hQn => ?_
 ((have hd := trivial; repeat' (first | ((first | apply GdK_st | apply GdK_sf | apply CondK_s) <;> intro hd <;> (try simp only [hd])) | simp (disch := first | assumption | omega | (simp only [nx] <;> omega) | fail) only [hd, hQr, hQn, c13_0, ↓YA, YB, YC, YE, YF, YZ, ↓reduceIte, Nat.reduceEqDiff, Nat.reduceAdd, Nat.reduceMul, Nat.reduceLeDiff, Int.reduceToNat, Int.reduceLE, Int.reduceLT, Int.reduceGT, Int.reduceGE, Int.reduceAdd, Int.reduceSub, Int.reduceNeg, Int.reduceBEq, Int.reduceBNe])) <;> (try (have hd_ : True := hd; clear hd_ hd)))
 refine CallK.use (shape_no (noar_nil _)) ?_
 rintro r H1 ⟨rfl, hx1⟩
 ((have hd := trivial; repeat' (first | ((first | apply GdK_st | apply GdK_sf | apply CondK_s) <;> intro hd <;> (try simp only [hd])) | simp (disch := first | assumption | omega | (simp only [nx] <;> omega) | fail) only [hd, hQr, hQn, c13_0, ↓YA, YB, YC, YE, YF, YZ, ↓reduceIte, Nat.reduceEqDiff, Nat.reduceAdd, Nat.reduceMul, Nat.reduceLeDiff, Int.reduceToNat, Int.reduceLE, Int.reduceLT, Int.reduceGT, Int.reduceGE, Int.reduceAdd, Int.reduceSub, Int.reduceNeg, Int.reduceBEq, Int.reduceBNe, List.length_nil])) <;> (try (have hd_ : True := hd; clear hd_ hd)))
 have hx1 : AHeap.Ext H (H1.alloc (.map (.one (.int .i64)) [] false)) := hx1.alloc
 have g4 : (H1.alloc (.map (.one (.int .i64)) [] false)).get H1.next = some (.map (.one (.int .i64)) [] false) := AHeap.get_alloc_self
 refine CallK.use (nodes_no _) ?_
 rintro r H2 ⟨rfl, hx2⟩
 have g4 := hx2.get _ _ g4
 have hx2 := hx1.trans hx2
 ((have hd := trivial; repeat' (first | ((first | apply GdK_st | apply GdK_sf | apply CondK_s) <;> intro hd <;> (try simp only [hd])) | simp (disch := first | assumption | omega | (simp only [nx] <;> omega) | fail) only [hd, hQr, hQn, c13_0, ↓YA, YB, YC, YE, YF, YZ, ↓reduceIte, Nat.reduceEqDiff, Nat.reduceAdd, Nat.reduceMul, Nat.reduceLeDiff, Int.reduceToNat, Int.reduceLE, Int.reduceLT, Int.reduceGT, Int.reduceGE, Int.reduceAdd, Int.reduceSub, Int.reduceNeg, Int.reduceBEq, Int.reduceBNe, List.length_nil])) <;> (try (have hd_ : True := hd; clear hd_ hd)))
 refine AW_for [3, 4, 17, 18] (σ := Unit) (fun (k : Nat) s => True) (fun k s => [(5, .i 0)]) (fun k s => []) () (GStep.refl _ _) (by simp only [keep_nil, keep_cons, Fr.put, Fr.get, ↓reduceIte, Nat.reduceEqDiff]; rfl) (by intro k s; rfl) (by intro k s; rfl) (by rfl) (by unfold maxLen; omega) ?_ (by simp only [FrL_nil, FrL_cons, Fr.put, Fr.get, ↓reduceIte, Nat.reduceEqDiff, and_self] <;> simp) (by simp only [ObjL_nil]) ?_ ?_
 ·trivial
 ·(rintro k u G hk ht hG hn; try simp only [nx] at hn)
  exact absurd hk (by simp)
 ·(rintro u G ht hG hn; try simp only [nx] at hn)
  have g4 := (hG.g _ (AHeap.lt g4) (by simp)).trans g4
  ((have hd := trivial; repeat' (first | ((first | apply GdK_st | apply GdK_sf | apply CondK_s) <;> intro hd <;> (try simp only [hd])) | simp (disch := first | assumption | omega | (simp only [nx] <;> omega) | fail) only [hd, hQr, hQn, c13_0, ↓YA, YB, YC, YE, YF, YZ, ↓reduceIte, Nat.reduceEqDiff, Nat.reduceAdd, Nat.reduceMul, Nat.reduceLeDiff, Int.reduceToNat, Int.reduceLE, Int.reduceLT, Int.reduceGT, Int.reduceGE, Int.reduceAdd, Int.reduceSub, Int.reduceNeg, Int.reduceBEq, Int.reduceBNe, g4, List.length_nil])) <;> (try (have hd_ : True := hd; clear hd_ hd)))
  exact fin_keep ⟨rfl, hG.extO hx2 (by simp)⟩
theorem ard_of {x : Shp} {most : Int} {l : List Nod} (hm : shpMay x = true) (hs : ∀ n ∈ l, smallN n) (hl : l.length ≤ 200000) (ha : ∀ i (hi : i < l.length), addErr x most (l.take i) l[i] = 0) : Ard x l := by
 refine ⟨hm, hs, hl, fun n hn => ?_, fun k hk hd c hc => ?_⟩
 ·obtain ⟨i, hi, rfl⟩ := List.getElem_of_mem hn
  have := check_dim (add_zero' (ha i hi)).1
  exact ⟨this.1, this.2.1⟩
 ·have hb : lastB x l[k].dim = false := by unfold lastB; rw [beq_eq_false_iff_ne]; omega
  obtain ⟨h1, h2, _⟩ := add_zero' (ha k hk)
  unfold leadsB at h2
  rw [hb, Bool.false_or, List.all_eq_true] at h2
  have h3 := h2 c hc
  simp only [Bool.and_eq_true, decide_eq_true_eq, List.length_take] at h3
  exact ⟨check_child h1 hb c hc, by omega⟩
structure CI (G1 : AHeap) (id w7 idt capt idd capd mid : Nat) (x : Shp) (l : List Nod) (tt td : List AV) (T D : List Int) (M : List (Int × Int)) (a b c : Int) (G : AHeap) : Prop where
 ext : AHeap.Ext G1 G
 o7 : G.get w7 = some (.cells [.i a, .i b, .i c] 35)
 t : LsI G T idt capt tt
 d : LsI G D idd capd td
 m : G.get mid = some (mpS M)
 ne : T ≠ [] → D ≠ [] → idt ≠ idd
 l7 : G1.next ≤ w7
 lt : T ≠ [] → G1.next ≤ idt
 ld : D ≠ [] → G1.next ≤ idd
 lm : G1.next ≤ mid
section
variable {G1 G G' : AHeap} {id w7 idt capt idd capd mid : Nat} {x : Shp} {l : List Nod} {tt td : List AV} {T D : List Int} {M : List (Int × Int)} {a b c : Int}
theorem LsI.ext {o : List Int} {i cap : Nat} {tail : List AV} (h : LsI G o i cap tail) (hx : AHeap.Ext G G') : LsI G' o i cap tail := fun hn => ⟨hx.get _ _ (h hn).1, (h hn).2⟩
theorem LsI.set {o : List Int} {i cap j : Nat} {tail : List AV} {ob : AObj} (h : LsI G o i cap tail) (hj : o ≠ [] → i ≠ j) : LsI (G.set j ob) o i cap tail := fun hn => ⟨by rw [AHeap.get_set_ne (hj hn)]; exact (h hn).1, (h hn).2⟩
theorem CI.ex (h : CI G1 id w7 idt capt idd capd mid x l tt td T D M a b c G) (hx : AHeap.Ext G G') : CI G1 id w7 idt capt idd capd mid x l tt td T D M a b c G' :=
 ⟨h.ext.trans hx, hx.get _ _ h.o7, h.t.ext hx, h.d.ext hx, hx.get _ _ h.m, h.ne, h.l7, h.lt, h.ld, h.lm⟩
theorem CI.nes (h : CI G1 id w7 idt capt idd capd mid x l tt td T D M a b c G) : w7 ≠ mid ∧ (T ≠ [] → idt ≠ w7 ∧ idt ≠ mid) ∧ (D ≠ [] → idd ≠ w7 ∧ idd ≠ mid) :=
 ⟨fun e => (by have := h.o7; rw [e, h.m] at this; cases this), fun hn => ⟨fun e => (by have := (h.t hn).1; rw [e, h.o7] at this; simp at this), fun e => (by have := (h.t hn).1; rw [e, h.m] at this; cases this)⟩,
  fun hn => ⟨fun e => (by have := (h.d hn).1; rw [e, h.o7] at this; simp at this), fun e => (by have := (h.d hn).1; rw [e, h.m] at this; cases this)⟩⟩
theorem CI.set7 (h : CI G1 id w7 idt capt idd capd mid x l tt td T D M a b c G) (a' b' c' : Int) : CI G1 id w7 idt capt idd capd mid x l tt td T D M a' b' c' (G.set w7 (.cells [.i a', .i b', .i c'] 35)) := by
 obtain ⟨n1, n2, n3⟩ := h.nes
 exact ⟨h.ext.set h.l7, AHeap.get_set_self (AHeap.lt h.o7), h.t.set fun hn => (n2 hn).1, h.d.set fun hn => (n3 hn).1, by rw [AHeap.get_set_ne n1.symm]; exact h.m, h.ne, h.l7, h.lt, h.ld, h.lm⟩
theorem CI.setm (h : CI G1 id w7 idt capt idd capd mid x l tt td T D M a b c G) (M' : List (Int × Int)) : CI G1 id w7 idt capt idd capd mid x l tt td T D M' a b c (G.set mid (mpS M')) := by
 obtain ⟨n1, n2, n3⟩ := h.nes
 exact ⟨h.ext.set h.lm, by rw [AHeap.get_set_ne n1]; exact h.o7, h.t.set fun hn => (n2 hn).2, h.d.set fun hn => (n3 hn).2, AHeap.get_set_self (AHeap.lt h.m), h.ne, h.l7, h.lt, h.ld, h.lm⟩
theorem CI.setd (h : CI G1 id w7 idt capt idd capd mid x l tt td T D M a b c G) (hD : D ≠ []) (D' : List Int) (hl : D'.length = D.length) : CI G1 id w7 idt capt idd capd mid x l tt td T D' M a b c (G.set idd (.cells (cI D' ++ td) 3)) := by
 obtain ⟨n1, n2, n3⟩ := h.nes
 obtain ⟨d1, d2, d3⟩ := h.d hD
 refine ⟨h.ext.set (h.ld hD), by rw [AHeap.get_set_ne (n3 hD).1.symm]; exact h.o7, h.t.set fun hn => h.ne hn hD, fun _ => ⟨AHeap.get_set_self (AHeap.lt d1), ?_, by omega⟩, by rw [AHeap.get_set_ne (n3 hD).2.symm]; exact h.m, fun hn _ => h.ne hn hD, h.l7, h.lt, fun _ => h.ld hD, h.lm⟩
 rw [List.length_append, List.length_map] at d2 ⊢
 omega
theorem CI.pusht (h : CI G1 id w7 idt capt idd capd mid x l tt td T D M a b c G) {v : Int} {id' cap' : Nat} {tail' : List AV} (hc : (T ≠ [] ∧ id' = idt ∧ G' = G.set idt (.cells (cI (T ++ [v]) ++ tail') 3)) ∨ (id' = G.next ∧ G' = G.alloc (.cells (cI (T ++ [v]) ++ tail') 3))) (h1 : (cI (T ++ [v]) ++ tail').length = cap') (h2 : T.length + 1 ≤ cap') :
  CI G1 id w7 id' cap' idd capd mid x l tail' td (T ++ [v]) D M a b c G' := by
 obtain ⟨n1, n2, n3⟩ := h.nes
 rcases hc with ⟨hn, rfl, rfl⟩ | ⟨rfl, rfl⟩
 ·obtain ⟨t1, t2, t3⟩ := h.t hn
  exact ⟨h.ext.set (h.lt hn), by rw [AHeap.get_set_ne (n2 hn).1.symm]; exact h.o7, fun _ => ⟨AHeap.get_set_self (AHeap.lt t1), h1, by simpa using h2⟩, h.d.set fun hd => (h.ne hn hd).symm, by rw [AHeap.get_set_ne (n2 hn).2.symm]; exact h.m, fun _ hd => h.ne hn hd, h.l7, fun _ => h.lt hn, h.ld, h.lm⟩
 ·have hx : AHeap.Ext G (G.alloc (.cells (cI (T ++ [v]) ++ tail') 3)) := (AHeap.Ext.refl G).alloc
  have h' := h.ex hx
  exact ⟨h'.ext, h'.o7, fun _ => ⟨AHeap.get_alloc_self, h1, by simpa using h2⟩, h'.d, h'.m, fun _ hd e => by have := AHeap.lt (h.d hd).1; omega, h.l7, fun _ => h.ext.next, h.ld, h.lm⟩
end
theorem topT_snoc {x : Shp} {l : List Nod} {k : Nat} (h : k < l.length) : topT x (l.take (k + 1)) = treeF (treesL x (l.take k)) l[k] (decide (l[k].dim < (x.sizes.length : Int) - 1)) := by
 unfold topT
 rw [treesL_snoc h]
 simp
set_option maxHeartbeats 4000000 in
theorem counts_sound (x : Shp) (l : List Nod) (H : AHeap) : Sound Try.prog 4 [.agg (eShp x), .sl .no (rN l)] H fun r _ => r = .b true := by
 obtain ⟨x0, x1, x2, x3⟩ := eShp_facts x
 have s1 := bfb (small x)
 refine fn_soundQ hEi vf4 (Nat.le_of_ble_eq_true rfl) fun Q hQr hQn => ?_
 ((have hd := trivial; repeat' (first | ((first | apply GdK_st | apply GdK_sf | apply CondK_s) <;> intro hd <;> (try simp only [hd])) | simp (disch := first | assumption | omega | (simp only [nx] <;> omega) | fail) only [hd, hQr, hQn, v4_0, ↓YA, YB, YC, YE, YF, YZ, ↓reduceIte, Nat.reduceEqDiff, Nat.reduceAdd, Nat.reduceMul, Nat.reduceLeDiff, Int.reduceToNat, Int.reduceLE, Int.reduceLT, Int.reduceGT, Int.reduceGE, Int.reduceAdd, Int.reduceSub, Int.reduceNeg, Int.reduceBEq, Int.reduceBNe, x0, x3])) <;> (try (have hd_ : True := hd; clear hd_ hd)))
 (refine CallK.use (small_sound x _) ?_; rintro _ _ ⟨rfl, k1, rfl⟩)
 rcases s1 with s1 | s1
 ·((have hd := trivial; repeat' (first | ((first | apply GdK_st | apply GdK_sf | apply CondK_s) <;> intro hd <;> (try simp only [hd])) | simp (disch := first | assumption | omega | (simp only [nx] <;> omega) | fail) only [hd, hQr, hQn, v4_0, ↓YA, YB, YC, YE, YF, YZ, ↓reduceIte, Nat.reduceEqDiff, Nat.reduceAdd, Nat.reduceMul, Nat.reduceLeDiff, Int.reduceToNat, Int.reduceLE, Int.reduceLT, Int.reduceGT, Int.reduceGE, Int.reduceAdd, Int.reduceSub, Int.reduceNeg, Int.reduceBEq, Int.reduceBNe, s1])) <;> (try (have hd_ : True := hd; clear hd_ hd)))
  refine CallK.use (awake28_sound _) ?_
  rintro r H1 ⟨rfl, hx1⟩
  ((have hd := trivial; repeat' (first | ((first | apply GdK_st | apply GdK_sf | apply CondK_s) <;> intro hd <;> (try simp only [hd])) | simp (disch := first | assumption | omega | (simp only [nx] <;> omega) | fail) only [hd, hQr, hQn, v4_0, ↓YA, YB, YC, YE, YF, YZ, ↓reduceIte, Nat.reduceEqDiff, Nat.reduceAdd, Nat.reduceMul, Nat.reduceLeDiff, Int.reduceToNat, Int.reduceLE, Int.reduceLT, Int.reduceGT, Int.reduceGE, Int.reduceAdd, Int.reduceSub, Int.reduceNeg, Int.reduceBEq, Int.reduceBNe])) <;> (try (have hd_ : True := hd; clear hd_ hd)))
  exact fin_keep rfl
 ((have hd := trivial; repeat' (first | ((first | apply GdK_st | apply GdK_sf | apply CondK_s) <;> intro hd <;> (try simp only [hd])) | simp (disch := first | assumption | omega | (simp only [nx] <;> omega) | fail) only [hd, hQr, hQn, v4_0, ↓YA, YB, YC, YE, YF, YZ, ↓reduceIte, Nat.reduceEqDiff, Nat.reduceAdd, Nat.reduceMul, Nat.reduceLeDiff, Int.reduceToNat, Int.reduceLE, Int.reduceLT, Int.reduceGT, Int.reduceGE, Int.reduceAdd, Int.reduceSub, Int.reduceNeg, Int.reduceBEq, Int.reduceBNe, s1])) <;> (try (have hd_ : True := hd; clear hd_ hd)))
 refine CallK.use (few_sound .no l 12 _ (by omega)) ?_
 rintro r H1 ⟨hx1, b1, rfl, f1⟩
 cases b1 with
 | false =>
  ((have hd := trivial; repeat' (first | ((first | apply GdK_st | apply GdK_sf | apply CondK_s) <;> intro hd <;> (try simp only [hd])) | simp (disch := first | assumption | omega | (simp only [nx] <;> omega) | fail) only [hd, hQr, hQn, v4_0, ↓YA, YB, YC, YE, YF, YZ, ↓reduceIte, Nat.reduceEqDiff, Nat.reduceAdd, Nat.reduceMul, Nat.reduceLeDiff, Int.reduceToNat, Int.reduceLE, Int.reduceLT, Int.reduceGT, Int.reduceGE, Int.reduceAdd, Int.reduceSub, Int.reduceNeg, Int.reduceBEq, Int.reduceBNe])) <;> (try (have hd_ : True := hd; clear hd_ hd)))
  refine CallK.use (awake28_sound _) ?_
  rintro r H1 ⟨rfl, hx1⟩
  ((have hd := trivial; repeat' (first | ((first | apply GdK_st | apply GdK_sf | apply CondK_s) <;> intro hd <;> (try simp only [hd])) | simp (disch := first | assumption | omega | (simp only [nx] <;> omega) | fail) only [hd, hQr, hQn, v4_0, ↓YA, YB, YC, YE, YF, YZ, ↓reduceIte, Nat.reduceEqDiff, Nat.reduceAdd, Nat.reduceMul, Nat.reduceLeDiff, Int.reduceToNat, Int.reduceLE, Int.reduceLT, Int.reduceGT, Int.reduceGE, Int.reduceAdd, Int.reduceSub, Int.reduceNeg, Int.reduceBEq, Int.reduceBNe])) <;> (try (have hd_ : True := hd; clear hd_ hd)))
  exact fin_keep rfl
 | true =>
 have f1 := f1 rfl
 have hl := f1.1
 have hs1 := f1.small
 have ga := hx1.ext.get _ _ (by simp only [AHeap.get_bump]; exact AHeap.get_alloc_self : ((H.alloc (.cells (eShp x) 44)).bump k1).get H.next = some (.cells (eShp x) 44))
 ((have hd := trivial; repeat' (first | ((first | apply GdK_st | apply GdK_sf | apply CondK_s) <;> intro hd <;> (try simp only [hd])) | simp (disch := first | assumption | omega | (simp only [nx] <;> omega) | fail) only [hd, hQr, hQn, v4_0, ↓YA, YB, YC, YE, YF, YZ, ↓reduceIte, Nat.reduceEqDiff, Nat.reduceAdd, Nat.reduceMul, Nat.reduceLeDiff, Int.reduceToNat, Int.reduceLE, Int.reduceLT, Int.reduceGT, Int.reduceGE, Int.reduceAdd, Int.reduceSub, Int.reduceNeg, Int.reduceBEq, Int.reduceBNe, ga, x0, x3])) <;> (try (have hd_ : True := hd; clear hd_ hd)))
 refine CallK.use (load_sound .no x l _ (by omega) hs1) ?_
 rintro r H3 ⟨hx3, hr⟩
 have ga3 := hx3.get _ _ ga
 obtain ⟨r1, hr1⟩ : ∃ r1, r = .tup [r1, .i (loadErr x l)] ∧ ((loadErr x l ≠ 0 ∧ r1 = .sc (.pointer none)) ∨ (loadErr x l = 0 ∧ ∃ id, r1 = .ptr id 0 ∧ ArNew x l 131072 H1 H3 id)) := by
  rcases hr with ⟨h1, rfl⟩ | ⟨h1, id, rfl, h2⟩
  ·exact ⟨_, rfl, .inl ⟨h1, rfl⟩⟩
  ·exact ⟨_, by rw [h1], .inr ⟨h1, id, rfl, h2⟩⟩
 obtain ⟨rfl, ha⟩ := hr1
 clear hr
 rcases ha with ⟨e1, rfl⟩ | ⟨e1, ia, rfl, ha'⟩
 ·have d1 : (loadErr x l != 0) = true := by simpa using e1
  ((have hd := trivial; repeat' (first | ((first | apply GdK_st | apply GdK_sf | apply CondK_s) <;> intro hd <;> (try simp only [hd])) | simp (disch := first | assumption | omega | (simp only [nx] <;> omega) | fail) only [hd, hQr, hQn, v4_0, ↓YA, YB, YC, YE, YF, YZ, ↓reduceIte, Nat.reduceEqDiff, Nat.reduceAdd, Nat.reduceMul, Nat.reduceLeDiff, Int.reduceToNat, Int.reduceLE, Int.reduceLT, Int.reduceGT, Int.reduceGE, Int.reduceAdd, Int.reduceSub, Int.reduceNeg, Int.reduceBEq, Int.reduceBNe, d1])) <;> (try (have hd_ : True := hd; clear hd_ hd)))
  refine CallK.use (of_no _) ?_
  rintro r H4 ⟨rfl, hx4⟩
  have e3 : scs [SK.int .i64, SK.int .i64, SK.int .i64] [AV.i 0, AV.i 0, AV.i 0] = some [.int .i64 0, .int .i64 0, .int .i64 0] := rfl
  have e4 : scs [SK.int .i64, SK.int .i64, SK.int .i64] [AV.sc (.int .i64 0), AV.sc (.int .i64 0), AV.sc (.int .i64 0)] = some [.int .i64 0, .int .i64 0, .int .i64 0] := rfl
  have e5 : vsEq [.int .i64 0, .int .i64 0, .int .i64 0] [.int .i64 0, .int .i64 0, .int .i64 0] = true := rfl
  ((have hd := trivial; repeat' (first | ((first | apply GdK_st | apply GdK_sf | apply CondK_s) <;> intro hd <;> (try simp only [hd])) | simp (disch := first | assumption | omega | (simp only [nx] <;> omega) | fail) only [hd, hQr, hQn, v4_0, ↓YA, YB, YC, YE, YF, YZ, ↓reduceIte, Nat.reduceEqDiff, Nat.reduceAdd, Nat.reduceMul, Nat.reduceLeDiff, Int.reduceToNat, Int.reduceLE, Int.reduceLT, Int.reduceGT, Int.reduceGE, Int.reduceAdd, Int.reduceSub, Int.reduceNeg, Int.reduceBEq, Int.reduceBNe, e3, e4, e5])) <;> (try (have hd_ : True := hd; clear hd_ hd)))
  refine CallK.use (trees_no _) ?_
  rintro r H5 ⟨rfl, hx5⟩
  ((have hd := trivial; repeat' (first | ((first | apply GdK_st | apply GdK_sf | apply CondK_s) <;> intro hd <;> (try simp only [hd])) | simp (disch := first | assumption | omega | (simp only [nx] <;> omega) | fail) only [hd, hQr, hQn, v4_0, ↓YA, YB, YC, YE, YF, YZ, ↓reduceIte, Nat.reduceEqDiff, Nat.reduceAdd, Nat.reduceMul, Nat.reduceLeDiff, Int.reduceToNat, Int.reduceLE, Int.reduceLT, Int.reduceGT, Int.reduceGE, Int.reduceAdd, Int.reduceSub, Int.reduceNeg, Int.reduceBEq, Int.reduceBNe, List.length_nil])) <;> (try (have hd_ : True := hd; clear hd_ hd)))
  refine CallK.use (dims_no _) ?_
  rintro r H6 ⟨rfl, hx6⟩
  ((have hd := trivial; repeat' (first | ((first | apply GdK_st | apply GdK_sf | apply CondK_s) <;> intro hd <;> (try simp only [hd])) | simp (disch := first | assumption | omega | (simp only [nx] <;> omega) | fail) only [hd, hQr, hQn, v4_0, ↓YA, YB, YC, YE, YF, YZ, ↓reduceIte, Nat.reduceEqDiff, Nat.reduceAdd, Nat.reduceMul, Nat.reduceLeDiff, Int.reduceToNat, Int.reduceLE, Int.reduceLT, Int.reduceGT, Int.reduceGE, Int.reduceAdd, Int.reduceSub, Int.reduceNeg, Int.reduceBEq, Int.reduceBNe, List.length_nil])) <;> (try (have hd_ : True := hd; clear hd_ hd)))
  refine CallK.use (shared_no _) ?_
  rintro r H7 ⟨rfl, hx7⟩
  have e6 : ((((0 : Nat) : Int) + ((0 : Nat) : Int) + 0 : Int) == 0) = true := by decide
  ((have hd := trivial; repeat' (first | ((first | apply GdK_st | apply GdK_sf | apply CondK_s) <;> intro hd <;> (try simp only [hd])) | simp (disch := first | assumption | omega | (simp only [nx] <;> omega) | fail) only [hd, hQr, hQn, v4_0, ↓YA, YB, YC, YE, YF, YZ, ↓reduceIte, Nat.reduceEqDiff, Nat.reduceAdd, Nat.reduceMul, Nat.reduceLeDiff, Int.reduceToNat, Int.reduceLE, Int.reduceLT, Int.reduceGT, Int.reduceGE, Int.reduceAdd, Int.reduceSub, Int.reduceNeg, Int.reduceBEq, Int.reduceBNe, e6])) <;> (try (have hd_ : True := hd; clear hd_ hd)))
  refine CallK.use (awake28_sound _) ?_
  rintro r H8 ⟨rfl, hx8⟩
  ((have hd := trivial; repeat' (first | ((first | apply GdK_st | apply GdK_sf | apply CondK_s) <;> intro hd <;> (try simp only [hd])) | simp (disch := first | assumption | omega | (simp only [nx] <;> omega) | fail) only [hd, hQr, hQn, v4_0, ↓YA, YB, YC, YE, YF, YZ, ↓reduceIte, Nat.reduceEqDiff, Nat.reduceAdd, Nat.reduceMul, Nat.reduceLeDiff, Int.reduceToNat, Int.reduceLE, Int.reduceLT, Int.reduceGT, Int.reduceGE, Int.reduceAdd, Int.reduceSub, Int.reduceNeg, Int.reduceBEq, Int.reduceBNe])) <;> (try (have hd_ : True := hd; clear hd_ hd)))
  exact fin_keep rfl
 obtain ⟨tk, tok, ha2, _, _⟩ := ha'
 have ha := ha2.ara
 have hA := ard_of (load_all e1).1 hs1 (by omega) (load_all e1).2
 have d1 : (loadErr x l != 0) = false := by simpa using e1
 ((have hd := trivial; repeat' (first | ((first | apply GdK_st | apply GdK_sf | apply CondK_s) <;> intro hd <;> (try simp only [hd])) | simp (disch := first | assumption | omega | (simp only [nx] <;> omega) | fail) only [hd, hQr, hQn, v4_0, ↓YA, YB, YC, YE, YF, YZ, ↓reduceIte, Nat.reduceEqDiff, Nat.reduceAdd, Nat.reduceMul, Nat.reduceLeDiff, Int.reduceToNat, Int.reduceLE, Int.reduceLT, Int.reduceGT, Int.reduceGE, Int.reduceAdd, Int.reduceSub, Int.reduceNeg, Int.reduceBEq, Int.reduceBNe, d1, ga3, x0, x3])) <;> (try (have hd_ : True := hd; clear hd_ hd)))
 (refine CallK.use (loads_sound .no x l _ (by omega) hs1) ?_; rintro _ _ ⟨rfl, k3, rfl⟩)
 have lg3 := AHeap.lt ga3
 ((have hd := trivial; repeat' (first | ((first | apply GdK_st | apply GdK_sf | apply CondK_s) <;> intro hd <;> (try simp only [hd])) | simp (disch := first | assumption | omega | (simp only [nx] <;> omega) | fail) only [hd, hQr, hQn, v4_0, ↓YA, YB, YC, YE, YF, YZ, ↓reduceIte, Nat.reduceEqDiff, Nat.reduceAdd, Nat.reduceMul, Nat.reduceLeDiff, Int.reduceToNat, Int.reduceLE, Int.reduceLT, Int.reduceGT, Int.reduceGE, Int.reduceAdd, Int.reduceSub, Int.reduceNeg, Int.reduceBEq, Int.reduceBNe, d1, ga3, x0, x1, x3, List.length_map, YZi])) <;> (try (have hd_ : True := hd; clear hd_ hd)))
 have hx5 : AHeap.Ext H3 ((H3.bump k3).alloc (.cells [.i 0, .i 0, .i 0] 35)) := by exact AXT
 have g7 : ((H3.bump k3).alloc (.cells [.i 0, .i 0, .i 0] 35)).get (H3.next + k3) = some (.cells [.i 0, .i 0, .i 0] 35) := AHeap.get_alloc_self (H := H3.bump k3)
 have ga5 := hx5.get _ _ ga3
 have ha5 := ha.ext hx5
 have hn5 := hx5.next
 have hw7 : H3.next ≤ H3.next + k3 := by omega
 generalize H3.next + k3 = w7 at *
 generalize (H3.bump k3).alloc (.cells [.i 0, .i 0, .i 0] 35) = G5 at *
 obtain ⟨p1, p2, p3, p4, p5⟩ := shpMay_bounds hA.may
 refine AW_forI (N := x.sizes.length) (fun k F S => Fr.get F 66 = .i (k : Int) ∧ Fr.get F 65 = .i (x.sizes.length : Int) ∧ Fr.get F 1 = .sl .no (rN l) ∧ Fr.get F 2 = .ptr H.next 0 ∧ Fr.get F 5 = .ptr ia 0 ∧ Fr.get F 7 = .ptr w7 0 ∧ Fr.get F 8 = .sl .full [] ∧
  AHeap.Ext G5 S ∧ ∃ idd capd td, Fr.get F 9 = VL (List.replicate k 0) idd capd ∧ LsI S (List.replicate k 0) idd capd td ∧ (List.replicate k (0 : Int) ≠ [] → G5.next ≤ idd)) (by unfold maxLen; omega) (fun k F G h => ⟨h.1, h.2.1⟩)
  (GStep.fr (F' := [(66, .i ((0 : Nat) : Int)), (65, .i (x.sizes.length : Int)), (1, .sl .no (rN l)), (2, .ptr H.next 0), (5, .ptr ia 0), (7, .ptr w7 0), (8, .sl .full []), (9, .sl .full [])]) (by simp [Fr.get])) ?_ ?_ ?_
 ·exact ⟨rfl, rfl, rfl, rfl, rfl, rfl, rfl, .refl _, 0, 0, [], rfl, fun h => absurd rfl h, fun h => absurd rfl h⟩
 ·rintro k F S hk ⟨f66, f65, fl, f2, f5, f7, f8, hxS, idd, capd, td, f9, hd, hlo⟩
  ((have hd := trivial; repeat' (first | ((first | apply GdK_st | apply GdK_sf | apply CondK_s) <;> intro hd <;> (try simp only [hd])) | simp (disch := first | assumption | omega | (simp only [nx] <;> omega) | fail) only [hd, hQr, hQn, v4_0, ↓YA, YB, YC, YE, YF, YZ, ↓reduceIte, Nat.reduceEqDiff, Nat.reduceAdd, Nat.reduceMul, Nat.reduceLeDiff, Int.reduceToNat, Int.reduceLE, Int.reduceLT, Int.reduceGT, Int.reduceGE, Int.reduceAdd, Int.reduceSub, Int.reduceNeg, Int.reduceBEq, Int.reduceBNe, f66, f65, fl, f2, f5, f7, f8, f9])) <;> (try (have hd_ : True := hd; clear hd_ hd)))
  have hrow : rowsIn (S.alloc (.cells [[AV.i 0]].flatten 3)) 1 (.arr S.next 0 1 1) = some [[.i 0]] := by
   have hgs : (S.alloc (.cells [[AV.i 0]].flatten 3)).get S.next = some (.cells [[AV.i 0]].flatten 3) := AHeap.get_alloc_self
   simp only [rowsIn, hgs]
   rfl
  have hx1 : AHeap.Ext S (S.alloc (.cells [[AV.i 0]].flatten 3)) := (AHeap.Ext.refl S).alloc
  have hsn : List.replicate k (0 : Int) ++ [0] = List.replicate (k + 1) 0 := by rw [List.replicate_succ']
  refine int_push hrow (hd.ext hx1) (by simp; omega) (fun id' cap' tail' G' hc hc1 hc2 => ?_)
  rw [hsn] at hc hc1 ⊢
  ((have hd := trivial; repeat' (first | ((first | apply GdK_st | apply GdK_sf | apply CondK_s) <;> intro hd <;> (try simp only [hd])) | simp (disch := first | assumption | omega | (simp only [nx] <;> omega) | fail) only [hd, hQr, hQn, v4_0, ↓YA, YB, YC, YE, YF, YZ, ↓reduceIte, Nat.reduceEqDiff, Nat.reduceAdd, Nat.reduceMul, Nat.reduceLeDiff, Int.reduceToNat, Int.reduceLE, Int.reduceLT, Int.reduceGT, Int.reduceGE, Int.reduceAdd, Int.reduceSub, Int.reduceNeg, Int.reduceBEq, Int.reduceBNe, f66, f65, fl, f2, f5, f7, f8])) <;> (try (have hd_ : True := hd; clear hd_ hd)))
  refine ⟨?_, id', cap', tail', rfl, fun _ => ⟨?_, hc1, by simpa using hc2⟩, fun _ => ?_⟩
  ·rcases hc with ⟨hn, rfl, rfl⟩ | ⟨rfl, rfl⟩
   ·exact (hxS.alloc).set (hlo hn)
   ·exact (hxS.alloc).alloc
  ·rcases hc with ⟨hn, rfl, rfl⟩ | ⟨rfl, rfl⟩
   ·exact AHeap.get_set_self (by have := AHeap.lt (hd hn).1; simp only [nx]; omega)
   ·exact AHeap.get_alloc_self
  ·rcases hc with ⟨hn, rfl, rfl⟩ | ⟨rfl, rfl⟩
   ·exact hlo hn
   ·have := hxS.next; simp only [nx]; omega
 ·rintro F S ⟨f66, f65, fl, f2, f5, f7, f8, hxS, idd, capd, td, f9, hd, hlo⟩
  have hD0 : List.replicate x.sizes.length (0 : Int) = dimsL x (l.take 0) := rfl
  rw [hD0] at f9 hd hlo
  ((have hd := trivial; repeat' (first | ((first | apply GdK_st | apply GdK_sf | apply CondK_s) <;> intro hd <;> (try simp only [hd])) | simp (disch := first | assumption | omega | (simp only [nx] <;> omega) | fail) only [hd, hQr, hQn, v4_0, ↓YA, YB, YC, YE, YF, YZ, ↓reduceIte, Nat.reduceEqDiff, Nat.reduceAdd, Nat.reduceMul, Nat.reduceLeDiff, Int.reduceToNat, Int.reduceLE, Int.reduceLT, Int.reduceGT, Int.reduceGE, Int.reduceAdd, Int.reduceSub, Int.reduceNeg, Int.reduceBEq, Int.reduceBNe, f66, f65, fl, f2, f5, f7, f8, f9, List.length_map])) <;> (try (have hd_ : True := hd; clear hd_ hd)))
  have hx6 : AHeap.Ext H3 (S.alloc (.map (.one (.int .i64)) [] false)) := (hx5.trans hxS).alloc
  have hSn := (hx5.trans hxS).next
  have h6 : CI H3 ia w7 0 0 idd capd S.next x l [] td (treesL x (l.take 0)) (dimsL x (l.take 0)) (shaL x (l.take 0)).M 0 (cellsL (l.take 0) : Int) (topT x (l.take 0)) (S.alloc (.map (.one (.int .i64)) [] false)) :=
   ⟨hx6, (hxS.alloc).get _ _ g7, fun h => absurd rfl h, hd.ext ((AHeap.Ext.refl S).alloc), AHeap.get_alloc_self, fun h => absurd rfl h, hw7, fun h => absurd rfl h, fun h => Nat.le_trans hn5 (hlo h), hSn⟩
  have hmid : H3.next ≤ S.next := hSn
  generalize S.next = mid at *
  generalize S.alloc (.map (.one (.int .i64)) [] false) = S6 at *
  refine AW_forI (N := l.length) (fun k F S => Fr.get F 75 = .i (k : Int) ∧ Fr.get F 74 = .i (l.length : Int) ∧ Fr.get F 73 = .sl .no (rN l) ∧ Fr.get F 2 = .ptr H.next 0 ∧ Fr.get F 5 = .ptr ia 0 ∧ Fr.get F 7 = .ptr w7 0 ∧ Fr.get F 10 = .mp mid ∧ Fr.get F 11 = .i (shaL x (l.take k)).w ∧ Fr.get F 12 = .i (cellsL (l.take k) : Int) ∧ cellsL (l.take k) ≤ 60 ∧
   ∃ idt capt tt idd capd td, Fr.get F 8 = VL (treesL x (l.take k)) idt capt ∧ Fr.get F 9 = VL (dimsL x (l.take k)) idd capd ∧
    CI H3 ia w7 idt capt idd capd mid x l tt td (treesL x (l.take k)) (dimsL x (l.take k)) (shaL x (l.take k)).M (k : Int) (cellsL (l.take k) : Int) (topT x (l.take k)) S) (by unfold maxLen; omega) (fun k F G h => ⟨h.1, h.2.1⟩)
   (GStep.fr (F' := [(75, .i ((0 : Nat) : Int)), (74, .i (l.length : Int)), (73, .sl .no (rN l)), (2, .ptr H.next 0), (5, .ptr ia 0), (7, .ptr w7 0), (10, .mp mid), (11, .i 0), (12, .i 0), (8, .sl .full []), (9, VL (dimsL x (l.take 0)) idd capd)]) (by simp [Fr.get, f66, f65, fl, f2, f5, f7, f8, f9])) ?_ ?_ ?_
  ·exact ⟨rfl, rfl, rfl, rfl, rfl, rfl, rfl, rfl, rfl, Nat.zero_le _, 0, 0, [], idd, capd, td, rfl, rfl, h6⟩
  ·rintro k F S7 hk ⟨f75, f74, f73, f2, f5, f7, f10, f11, f12, h60, idt, capt, tt, idd, capd, td, f8, f9, hC⟩
   have hr := rN_get hk
   obtain ⟨s1, s2, s3⟩ := hA.sm _ (List.getElem_mem hk)
   obtain ⟨dm1, dm2⟩ := hA.dim _ (List.getElem_mem hk)
   have hled := hA.led k hk
   have hsnT := treesL_snoc (x := x) hk
   have hsnD := dimsL_snoc (x := x) hk
   have hsnS := shaL_snoc (x := x) hk
   have hsnC := cellsL_snoc hk
   have hsnP := topT_snoc (x := x) hk
   have hlT := treesL_len x (l.take k)
   have hlD := dimsL_len x (l.take k)
   rw [List.length_take, Nat.min_eq_left (by omega)] at hlT
   have hiD := dimsL_in (x := x) (l := l) k (by omega)
   have hiS := shaL_in (x := x) hA.sm k (by omega)
   have htb := trees_bnd (x := x) (l := l) k (by omega) (by omega) h60
   have hcnt : cntN l[k] ≤ 1000000 := by unfold cntN; omega
   have hw1 : IntKind.i64.wrap ((cellsL (l.take k) : Int) + (cntN l[k] : Int)) = ((cellsL (l.take (k + 1)) : Nat) : Int) := by rw [hsnC, wrap_of (by omega) (by omega)]; omega
   have hw2 : IntKind.i64.wrap ((k : Int) + 1) = ((k + 1 : Nat) : Int) := by rw [wrap_of (by omega) (by omega)]; omega
   have hce := cnt_each l[k]
   obtain ⟨f0, f1, f3, f4, f5'⟩ := eNod_facts .no l[k]
   generalize hT : treesL x (l.take k) = T at *
   generalize hD : dimsL x (l.take k) = D at *
   generalize hZ : shaL x (l.take k) = Z at *
   generalize hn : l[k] = n at *
   have hbx : AHeap.Ext S7 (S7.alloc (.cells (eNod .no n) 60)) := (AHeap.Ext.refl S7).alloc
   have h7 := hC.o7
   have l7 := AHeap.lt h7
   ((have hd := trivial; repeat' (first | ((first | apply GdK_st | apply GdK_sf | apply CondK_s) <;> intro hd <;> (try simp only [hd])) | simp (disch := first | assumption | omega | (simp only [nx] <;> omega) | fail) only [hd, hQr, hQn, v4_0, ↓YA, YB, YC, YE, YF, YZ, ↓reduceIte, Nat.reduceEqDiff, Nat.reduceAdd, Nat.reduceMul, Nat.reduceLeDiff, Int.reduceToNat, Int.reduceLE, Int.reduceLT, Int.reduceGT, Int.reduceGE, Int.reduceAdd, Int.reduceSub, Int.reduceNeg, Int.reduceBEq, Int.reduceBNe, f75, f74, f73, f2, f5, f7, f10, f11, f12, f8, f9, hr, f0, f4, f5', List.append_nil, YZi])) <;> (try (have hd_ : True := hd; clear hd_ hd)))
   (refine CallK.use (reach_sound .no n _ s1 (by omega)) ?_; rintro _ _ ⟨rfl, k8, rfl⟩)
   by_cases h61 : (cellsL (l.take (k + 1)) : Int) > 60
   ·have d61 : decide ((cellsL (l.take (k + 1)) : Int) > 60) = true := decide_eq_true h61
    ((have hd := trivial; repeat' (first | ((first | apply GdK_st | apply GdK_sf | apply CondK_s) <;> intro hd <;> (try simp only [hd])) | simp (disch := first | assumption | omega | (simp only [nx] <;> omega) | fail) only [hd, hQr, hQn, v4_0, ↓YA, YB, YC, YE, YF, YZ, ↓reduceIte, Nat.reduceEqDiff, Nat.reduceAdd, Nat.reduceMul, Nat.reduceLeDiff, Int.reduceToNat, Int.reduceLE, Int.reduceLT, Int.reduceGT, Int.reduceGE, Int.reduceAdd, Int.reduceSub, Int.reduceNeg, Int.reduceBEq, Int.reduceBNe, f75, f74, f73, f2, f5, f7, f10, f11, f12, f8, f9, hw1, hce, d61, List.length_map])) <;> (try (have hd_ : True := hd; clear hd_ hd)))
    refine CallK.use (awake28_sound _) ?_
    rintro r H8 ⟨rfl, hx8⟩
    ((have hd := trivial; repeat' (first | ((first | apply GdK_st | apply GdK_sf | apply CondK_s) <;> intro hd <;> (try simp only [hd])) | simp (disch := first | assumption | omega | (simp only [nx] <;> omega) | fail) only [hd, hQr, hQn, v4_0, ↓YA, YB, YC, YE, YF, YZ, ↓reduceIte, Nat.reduceEqDiff, Nat.reduceAdd, Nat.reduceMul, Nat.reduceLeDiff, Int.reduceToNat, Int.reduceLE, Int.reduceLT, Int.reduceGT, Int.reduceGE, Int.reduceAdd, Int.reduceSub, Int.reduceNeg, Int.reduceBEq, Int.reduceBNe])) <;> (try (have hd_ : True := hd; clear hd_ hd)))
    exact fin_keep rfl
   have d61 : decide ((cellsL (l.take (k + 1)) : Int) > 60) = false := decide_eq_false h61
   ((have hd := trivial; repeat' (first | ((first | apply GdK_st | apply GdK_sf | apply CondK_s) <;> intro hd <;> (try simp only [hd])) | simp (disch := first | assumption | omega | (simp only [nx] <;> omega) | fail) only [hd, hQr, hQn, v4_0, ↓YA, YB, YC, YE, YF, YZ, ↓reduceIte, Nat.reduceEqDiff, Nat.reduceAdd, Nat.reduceMul, Nat.reduceLeDiff, Int.reduceToNat, Int.reduceLE, Int.reduceLT, Int.reduceGT, Int.reduceGE, Int.reduceAdd, Int.reduceSub, Int.reduceNeg, Int.reduceBEq, Int.reduceBNe, f75, f74, f73, f2, f5, f7, f10, f11, f12, f8, f9, hw1, hw2, hce, d61, h7, List.length_map])) <;> (try (have hd_ : True := hd; clear hd_ hd)))
   have lmid := AHeap.lt hC.m
   have hDn : D ≠ [] := fun e => by rw [e] at hlD; simp at hlD; omega
   have ldd := AHeap.lt (hC.d hDn).1
   have ltt : T ≠ [] → idt < S7.next := fun hne => AHeap.lt (hC.t hne).1
   have hC8 := (((hC.ex (hbx.bump (k := k8))).set7 ((k + 1 : Nat) : Int) (cellsL (l.take k) : Int) (topT x (l.take k))).set7 ((k + 1 : Nat) : Int) (cellsL (l.take (k + 1)) : Int) (topT x (l.take k))).set7 ((k + 1 : Nat) : Int) (cellsL (l.take (k + 1)) : Int) (cntN n : Int)
   have gb : (((((S7.alloc (.cells (eNod .no n) 60)).bump k8).set w7 (.cells [.i ((k + 1 : Nat) : Int), .i (cellsL (l.take k) : Int), .i (topT x (l.take k))] 35)).set w7 (.cells [.i ((k + 1 : Nat) : Int), .i (cellsL (l.take (k + 1)) : Int), .i (topT x (l.take k))] 35)).set w7 (.cells [.i ((k + 1 : Nat) : Int), .i (cellsL (l.take (k + 1)) : Int), .i (cntN n : Int)] 35)).get S7.next = some (.cells (eNod .no n) 60) := by
    rw [AHeap.get_set_ne (by omega), AHeap.get_set_ne (by omega), AHeap.get_set_ne (by omega), AHeap.get_bump]
    exact AHeap.get_alloc_self
   generalize (((((S7.alloc (.cells (eNod .no n) 60)).bump k8).set w7 (.cells [.i ((k + 1 : Nat) : Int), .i (cellsL (l.take k) : Int), .i (topT x (l.take k))] 35)).set w7 (.cells [.i ((k + 1 : Nat) : Int), .i (cellsL (l.take (k + 1)) : Int), .i (topT x (l.take k))] 35)).set w7 (.cells [.i ((k + 1 : Nat) : Int), .i (cellsL (l.take (k + 1)) : Int), .i (cntN n : Int)] 35)) = S8 at *
   generalize S7.next = bx at *
   have hwl : IntKind.i64.wrap ((x.sizes.length : Int) - 1) = (x.sizes.length : Int) - 1 := wrap_of (by omega) (by omega)
   have hbl := bfb (decide (n.dim < (x.sizes.length : Int) - 1))
   obtain ⟨mb, hB, hmb⟩ := htb
   have hB2 := hB.step (c := cntN n)
   rw [← hsnC] at hB2
   have hlt2 := hB2.le (by omega) (by omega)
   have hTF : treeF T n (decide (n.dim < (x.sizes.length : Int) - 1)) = if decide (n.dim < (x.sizes.length : Int) - 1) = true then partU T (each n) (cntN n) else cntN n := by
    unfold treeF
    split
    ·rw [fold_cap hmb _ _ (by rw [hce]; omega)]
    ·rfl
   generalize hcs : each n = cs at *
   have hpb : ∀ j, j ≤ cntN n → ∃ p : Nat, partU T (cs.take j) (cntN n) = (p : Int) ∧ p ≤ cntN n + cntN n * mb := fun j hj => by
    obtain ⟨p, e, h1, h2⟩ := partU_in hmb (cs.take j) (cntN n)
    refine ⟨p, e, Nat.le_trans h2 (Nat.add_le_add_left (Nat.mul_le_mul_right _ ?_) _)⟩
    rw [List.length_take]; omega
   generalize hblv : decide (n.dim < (x.sizes.length : Int) - 1) = bl at *
   refine AW_forI (N := cntN n) (fun j F S => Fr.get F 103 = .i (j : Int) ∧ Fr.get F 102 = .i (cntN n : Int) ∧ Fr.get F 101 = .sl .no (rC cs) ∧ Fr.get F 75 = .i (k : Int) ∧ Fr.get F 74 = .i (l.length : Int) ∧ Fr.get F 73 = .sl .no (rN l) ∧ Fr.get F 2 = .ptr H.next 0 ∧ Fr.get F 5 = .ptr ia 0 ∧ Fr.get F 7 = .ptr w7 0 ∧ Fr.get F 10 = .mp mid ∧ Fr.get F 11 = .i Z.w ∧ Fr.get F 12 = .i (cellsL (l.take (k + 1)) : Int) ∧ Fr.get F 8 = VL T idt capt ∧ Fr.get F 9 = VL D idd capd ∧ Fr.get F 14 = .ptr bx 0 ∧ Fr.get F 15 = .sl .no (rC cs) ∧
    CI H3 ia w7 idt capt idd capd mid x l tt td T D Z.M ((k + 1 : Nat) : Int) (cellsL (l.take (k + 1)) : Int) (if bl = true then partU T (cs.take j) (cntN n) else cntN n) S ∧ S.get bx = some (.cells (eNod .no n) 60)) (by unfold maxLen; omega) (fun k F G h => ⟨h.1, h.2.1⟩)
    (GStep.fr (F' := [(103, .i ((0 : Nat) : Int)), (102, .i (cntN n : Int)), (101, .sl .no (rC cs)), (75, .i (k : Int)), (74, .i (l.length : Int)), (73, .sl .no (rN l)), (2, .ptr H.next 0), (5, .ptr ia 0), (7, .ptr w7 0), (10, .mp mid), (11, .i Z.w), (12, .i (cellsL (l.take (k + 1)) : Int)), (8, VL T idt capt), (9, VL D idd capd), (14, .ptr bx 0), (15, .sl .no (rC cs))]) (by simp [Fr.get, f75, f74, f73, f2, f5, f7, f10, f11, f12, f8, f9])) ?_ ?_ ?_
   ·refine ⟨rfl, rfl, rfl, rfl, rfl, rfl, rfl, rfl, rfl, rfl, rfl, rfl, rfl, rfl, rfl, rfl, ?_, gb⟩
    have : (if bl = true then partU T (cs.take 0) (cntN n) else (cntN n : Int)) = cntN n := by split <;> rfl
    rw [this]
    exact hC8
   ·rintro j F S hj ⟨f103, f102, f101, f75, f74, f73, f2, f5, f7, f10, f11, f12, f8, f9, f14, f15, hCj, gbj⟩
    have hjc : j < cs.length := by omega
    have hrc : (rC cs)[j]? = some (eCel cs[j]) := by simp [hjc]
    have hcl := hled
    obtain ⟨p, hp1, hp2⟩ := hpb j (by omega)
    obtain ⟨q, hq1, hq2⟩ := hpb (j + 1) (by omega)
    have hps : partU T (cs.take (j + 1)) (cntN n) = partU T (cs.take j) (cntN n) + T.getD cs[j].child.toNat 0 := by
     unfold partU
     rw [List.take_succ_eq_append_getElem hjc, List.foldl_append]; rfl
    have hgj := List.getElem_mem hjc
    have gaj := hCj.ext.get _ _ ga3
    have h7j := hCj.o7
    have l7j := AHeap.lt h7j
    have lbj := AHeap.lt gbj
    have lgj := AHeap.lt gaj
    generalize cs[j] = c at *
    obtain ⟨c0, c1, c2, c3, c4⟩ := eCel_facts c
    have hcx : AHeap.Ext S (S.alloc (.cells (eCel c) 58)) := (AHeap.Ext.refl S).alloc
    rcases hbl with rfl | rfl
    ·simp only [Bool.false_eq_true, if_false] at hCj h7j ⊢
     ((have hd := trivial; repeat' (first | ((first | apply GdK_st | apply GdK_sf | apply CondK_s) <;> intro hd <;> (try simp only [hd])) | simp (disch := first | assumption | omega | (simp only [nx] <;> omega) | fail) only [hd, hQr, hQn, v4_0, ↓YA, YB, YC, YE, YF, YZ, ↓reduceIte, Nat.reduceEqDiff, Nat.reduceAdd, Nat.reduceMul, Nat.reduceLeDiff, Int.reduceToNat, Int.reduceLE, Int.reduceLT, Int.reduceGT, Int.reduceGE, Int.reduceAdd, Int.reduceSub, Int.reduceNeg, Int.reduceBEq, Int.reduceBNe, f103, f102, f101, f75, f74, f73, f2, f5, f7, f10, f11, f12, f8, f9, f14, f15, hrc, c0, c3, c4, gbj, gaj, f1, x1, hwl, hblv, List.append_nil, List.length_map, YZi])) <;> (try (have hd_ : True := hd; clear hd_ hd)))
     exact hCj.ex hcx
    ·simp only [if_true] at hCj h7j ⊢
     have hd := of_decide_eq_true hblv
     obtain ⟨hc1, hc2⟩ := hled hd c hgj
     obtain ⟨m, hm⟩ : ∃ m : Nat, c.child = (m : Int) := ⟨c.child.toNat, by omega⟩
     have hmT : m < T.length := by omega
     have hTn : T ≠ [] := fun e => by rw [e] at hmT; simp at hmT
     obtain ⟨t1, t2, t3⟩ := hCj.t hTn
     have hmo : (cI T ++ tt)[m]? = some (.i (T.getD c.child.toNat 0)) := by
      rw [List.getElem?_append_left (by rw [List.length_map]; exact hmT)]
      simp [hm, hmT]
     have hvl := VL_ne hTn idt capt
     have ltj := AHeap.lt t1
     have hmI : (m : Int) < (T.length : Int) := by omega
     rw [hp1] at hps hCj h7j
     rw [hq1] at hps
     have hw3 : IntKind.i64.wrap ((p : Int) + T.getD c.child.toNat 0) = (q : Int) := by rw [← hps]; exact wrap_of (by omega) (by omega)
     rw [hm, Int.toNat_natCast] at hw3 hmo
     ((have hd := trivial; repeat' (first | ((first | apply GdK_st | apply GdK_sf | apply CondK_s) <;> intro hd <;> (try simp only [hd])) | simp (disch := first | assumption | omega | (simp only [nx] <;> omega) | fail) only [hd, hQr, hQn, v4_0, ↓YA, YB, YC, YE, YF, YZ, ↓reduceIte, Nat.reduceEqDiff, Nat.reduceAdd, Nat.reduceMul, Nat.reduceLeDiff, Int.reduceToNat, Int.reduceLE, Int.reduceLT, Int.reduceGT, Int.reduceGE, Int.reduceAdd, Int.reduceSub, Int.reduceNeg, Int.reduceBEq, Int.reduceBNe, f103, f102, f101, f75, f74, f73, f2, f5, f7, f10, f11, f12, f8, f9, f14, f15, hrc, c0, c2, c3, c4, gbj, gaj, f1, x1, hwl, hblv, h7j, hvl, hm, hmI, t1, hmo, hw3, List.append_nil, List.length_map, YZi])) <;> (try (have hd_ : True := hd; clear hd_ hd)))
     rw [hq1]
     exact (hCj.ex hcx).set7 _ _ _
   ·rintro F S ⟨f103, f102, f101, f75, f74, f73, f2, f5, f7, f10, f11, f12, f8, f9, f14, f15, hCj, gbj⟩
    have hvT : (if bl = true then partU T (cs.take (cntN n)) (cntN n) else (cntN n : Int)) = treeF T n bl := by rw [hTF, List.take_of_length_le (by omega)]
    rw [hvT] at hCj
    have h7j := hCj.o7
    have l7j := AHeap.lt h7j
    have lbj := AHeap.lt gbj
    generalize treeF T n bl = v at *
    ((have hd := trivial; repeat' (first | ((first | apply GdK_st | apply GdK_sf | apply CondK_s) <;> intro hd <;> (try simp only [hd])) | simp (disch := first | assumption | omega | (simp only [nx] <;> omega) | fail) only [hd, hQr, hQn, v4_0, ↓YA, YB, YC, YE, YF, YZ, ↓reduceIte, Nat.reduceEqDiff, Nat.reduceAdd, Nat.reduceMul, Nat.reduceLeDiff, Int.reduceToNat, Int.reduceLE, Int.reduceLT, Int.reduceGT, Int.reduceGE, Int.reduceAdd, Int.reduceSub, Int.reduceNeg, Int.reduceBEq, Int.reduceBNe, f103, f102, f101, f75, f74, f73, f2, f5, f7, f10, f11, f12, f8, f9, f14, f15, h7j])) <;> (try (have hd_ : True := hd; clear hd_ hd)))
    have hrow : rowsIn (S.alloc (.cells [[AV.i v]].flatten 3)) 1 (.arr S.next 0 1 1) = some [[.i v]] := by
     have hgs : (S.alloc (.cells [[AV.i v]].flatten 3)).get S.next = some (.cells [[AV.i v]].flatten 3) := AHeap.get_alloc_self
     simp only [rowsIn, hgs]
     rfl
    have hxv : AHeap.Ext S (S.alloc (.cells [[AV.i v]].flatten 3)) := (AHeap.Ext.refl S).alloc
    have hCv := hCj.ex hxv
    have gbv := hxv.get _ _ gbj
    generalize S.alloc (.cells [[AV.i v]].flatten 3) = Sv at *
    refine int_push hrow hCv.t (by omega) (fun idt' capt' tt' S9 hc hc1 hc2 => ?_)
    have hCp := hCv.pusht hc hc1 hc2
    have gb9 : S9.get bx = some (.cells (eNod .no n) 60) := by
     rcases hc with ⟨hne, _, rfl⟩ | ⟨_, rfl⟩
     ·rw [AHeap.get_set_ne (by have := ltt hne; omega)]; exact gbv
     ·rw [AHeap.get_alloc_ne (by have := AHeap.lt gbv; omega)]; exact gbv
    obtain ⟨m, hm⟩ : ∃ m : Nat, n.dim = (m : Int) := ⟨n.dim.toNat, by omega⟩
    have hmD : m < D.length := by omega
    have hmI : (m : Int) < (D.length : Int) := by omega
    have hvl := VL_ne hDn idd capd
    obtain ⟨t1, t2, t3⟩ := hCp.d hDn
    have hmo : (cI D ++ td)[m]? = some (.i D[m]) := by
     rw [List.getElem?_append_left (by rw [List.length_map]; exact hmD)]
     simp [hmD]
    have hgd : D.getD m 0 = D[m] := by rw [List.getD_eq_getElem?_getD, List.getElem?_eq_getElem hmD]; rfl
    have hvD := hiD _ (List.getElem_mem hmD)
    rw [hm] at hsnD
    simp only [Int.toNat_natCast, hgd] at hsnD
    have hw4 : IntKind.i64.wrap (D[m] + 1) = D[m] + 1 := wrap_of (by omega) (by omega)
    have hm1 : m + 1 ≤ (cI D ++ td).length := by rw [List.length_append, List.length_map]; omega
    have hset : (cI D ++ td).take m ++ [AV.i (D[m] + 1)] ++ (cI D ++ td).drop (m + 1) = cI (D.set m (D[m] + 1)) ++ td := by
     rw [List.take_append_of_le_length (by rw [List.length_map]; omega), List.drop_append_of_le_length (by rw [List.length_map]; omega), ← List.append_assoc]
     congr 1
     rw [cI, cI, List.map_set, List.set_eq_take_append_cons_drop, if_pos (by rw [List.length_map]; exact hmD), List.append_assoc]; rfl
    have hCq := hCp.setd hDn (D.set m (D[m] + 1)) (by simp)
    rw [← hsnD] at hset hCq
    have f1' : (eNod .no n)[0]? = some (.i (m : Int)) := by rw [← hm]; exact f1
    have lt1 := AHeap.lt t1
    have lb9 := AHeap.lt gb9
    have ga9 := hCp.ext.get _ _ ga3
    generalize D[m] = vd at *
    have hidd := hCp.ld hDn
    have hblm : decide ((m : Int) < (x.sizes.length : Int) - 1) = bl := by rw [← hm]; exact hblv
    have hVD : VL (dimsL x (l.take (k + 1))) idd capd = .arr idd 0 D.length capd := by
     rw [VL_ne (fun e => by have := dimsL_len x (l.take (k + 1)); rw [e] at this; simp at this; omega), dimsL_len, hlD]
    have hT1 : T ++ [v] = treesL x (l.take (k + 1)) := hsnT.symm
    have hv1 : v = topT x (l.take (k + 1)) := hsnP.symm
    rcases hbl with rfl | rfl
    ·have hnd := of_decide_eq_false hblv
     have hz : shaN x Z n = Z := by unfold shaN; rw [if_pos (by omega)]
     rw [hz] at hsnS
     rw [← hsnS, hT1, hv1] at hCq
     ((have hd := trivial; repeat' (first | ((first | apply GdK_st | apply GdK_sf | apply CondK_s) <;> intro hd <;> (try simp only [hd])) | simp (disch := first | assumption | omega | (simp only [nx] <;> omega) | fail) only [hd, hQr, hQn, v4_0, ↓YA, YB, YC, YE, YF, YZ, ↓reduceIte, Nat.reduceEqDiff, Nat.reduceAdd, Nat.reduceMul, Nat.reduceLeDiff, Int.reduceToNat, Int.reduceLE, Int.reduceLT, Int.reduceGT, Int.reduceGE, Int.reduceAdd, Int.reduceSub, Int.reduceNeg, Int.reduceBEq, Int.reduceBNe, f103, f102, f101, f75, f74, f73, f2, f5, f7, f10, f11, f12, f8, f9, f14, f15, gb9, f1', hvl, hmI, t1, hmo, hw4, hm1, hset, ga9, x1, hwl, hblm, List.length_map])) <;> (try (have hd_ : True := hd; clear hd_ hd)))
     exact ⟨by rw [hsnS], by omega, idt', capt', tt', idd, capd, td, by rw [hT1], hVD.symm, hCq⟩
    ·have hnd := of_decide_eq_true hblv
     have hz : shaN x Z n = cs.foldl shaC Z := by unfold shaN; rw [if_neg (by omega), hcs]
     rw [hz] at hsnS
     rw [hT1, hv1] at hCq
     have hCm := hCq.m
     ((have hd := trivial; repeat' (first | ((first | apply GdK_st | apply GdK_sf | apply CondK_s) <;> intro hd <;> (try simp only [hd])) | simp (disch := first | assumption | omega | (simp only [nx] <;> omega) | fail) only [hd, hQr, hQn, v4_0, ↓YA, YB, YC, YE, YF, YZ, ↓reduceIte, Nat.reduceEqDiff, Nat.reduceAdd, Nat.reduceMul, Nat.reduceLeDiff, Int.reduceToNat, Int.reduceLE, Int.reduceLT, Int.reduceGT, Int.reduceGE, Int.reduceAdd, Int.reduceSub, Int.reduceNeg, Int.reduceBEq, Int.reduceBNe, f103, f102, f101, f75, f74, f73, f2, f5, f7, f10, f11, f12, f8, f9, f14, f15, gb9, f1', hvl, hmI, t1, hmo, hw4, hm1, hset, ga9, x1, hwl, hblm, hce, List.length_map])) <;> (try (have hd_ : True := hd; clear hd_ hd)))
     have hCl : cs.length = cntN n := hce
     refine AW_forI (N := cntN n) (fun j F S => Fr.get F 145 = .i (j : Int) ∧ Fr.get F 144 = .i (cntN n : Int) ∧ Fr.get F 143 = .sl .no (rC cs) ∧ Fr.get F 75 = .i (k : Int) ∧ Fr.get F 74 = .i (l.length : Int) ∧ Fr.get F 73 = .sl .no (rN l) ∧ Fr.get F 2 = .ptr H.next 0 ∧ Fr.get F 5 = .ptr ia 0 ∧ Fr.get F 7 = .ptr w7 0 ∧ Fr.get F 10 = .mp mid ∧ Fr.get F 11 = .i ((cs.take j).foldl shaC Z).w ∧ Fr.get F 12 = .i (cellsL (l.take (k + 1)) : Int) ∧ Fr.get F 8 = VL (treesL x (l.take (k + 1))) idt' capt' ∧ Fr.get F 9 = VL (dimsL x (l.take (k + 1))) idd capd ∧
      CI H3 ia w7 idt' capt' idd capd mid x l tt' td (treesL x (l.take (k + 1))) (dimsL x (l.take (k + 1))) ((cs.take j).foldl shaC Z).M ((k + 1 : Nat) : Int) (cellsL (l.take (k + 1)) : Int) (topT x (l.take (k + 1))) S) (by unfold maxLen; omega) (fun k F G h => ⟨h.1, h.2.1⟩)
      (GStep.fr (F' := [(145, .i ((0 : Nat) : Int)), (144, .i (cntN n : Int)), (143, .sl .no (rC cs)), (75, .i (k : Int)), (74, .i (l.length : Int)), (73, .sl .no (rN l)), (2, .ptr H.next 0), (5, .ptr ia 0), (7, .ptr w7 0), (10, .mp mid), (11, .i Z.w), (12, .i (cellsL (l.take (k + 1)) : Int)), (8, VL (treesL x (l.take (k + 1))) idt' capt'), (9, VL (dimsL x (l.take (k + 1))) idd capd)]) (by simp [Fr.get, f75, f74, f73, f2, f5, f7, f10, f11, f12, f8, f9, hT1, hVD, hvl])) ?_ ?_ ?_
     ·exact ⟨rfl, rfl, rfl, rfl, rfl, rfl, rfl, rfl, rfl, rfl, rfl, rfl, rfl, rfl, hCq⟩
     ·rintro j F S hj ⟨f145, f144, f143, f75, f74, f73, f2, f5, f7, f10, f11, f12, f8, f9, hCj⟩
      have hjc : j < cs.length := by omega
      have hrc : (rC cs)[j]? = some (eCel cs[j]) := by simp [hjc]
      have hfs : (cs.take (j + 1)).foldl shaC Z = shaC ((cs.take j).foldl shaC Z) cs[j] := by rw [List.take_succ_eq_append_getElem hjc, List.foldl_append]; rfl
      have hfi := hiS.fold (cs := cs.take j)
      rw [List.length_take, Nat.min_eq_left (by omega)] at hfi
      have hCm := hCj.m
      have lmj := AHeap.lt hCm
      generalize (cs.take j).foldl shaC Z = y at *
      generalize cs[j] = c at *
      obtain ⟨c0, c1, c2, c3, c4⟩ := eCel_facts c
      have hcx : AHeap.Ext S (S.alloc (.cells (eCel c) 58)) := (AHeap.Ext.refl S).alloc
      have hof := kI_of c.child
      have hfn := mFind_map (vf := AV.i) kI_eq c.child y.M
      have hset := mSet_map (vf := AV.i) kI_eq c.child ((aGet c.child y.M).getD 0 + 1) y.M
      have hgv : 0 ≤ (aGet c.child y.M).getD 0 ∧ (aGet c.child y.M).getD 0 ≤ (k * 1000000 + j : Nat) := by
       cases hg : aGet c.child y.M with
       | none => simp; omega
       | some v => exact hfi.v _ (aGet_mem hg)
      have hw1 : IntKind.i64.wrap ((aGet c.child y.M).getD 0 + 1) = (aGet c.child y.M).getD 0 + 1 := wrap_of (by omega) (by omega)
      have hyw := hfi.w
      have hw2 : IntKind.i64.wrap (y.w + 1) = y.w + 1 := wrap_of (by omega) (by omega)
      have hfs1 : ((cs.take (j + 1)).foldl shaC Z).w = y.w + 1 := by rw [hfs]; rfl
      have hfs2 : ((cs.take (j + 1)).foldl shaC Z).M = aSet c.child ((aGet c.child y.M).getD 0 + 1) y.M := by rw [hfs]; rfl
      cases hg : aGet c.child y.M with
      | none =>
       simp only [hg, Option.map_none, Option.getD_none, Int.zero_add] at hfn hset hw1 hfs2
       ((have hd := trivial; repeat' (first | ((first | apply GdK_st | apply GdK_sf | apply CondK_s) <;> intro hd <;> (try simp only [hd])) | simp (disch := first | assumption | omega | (simp only [nx] <;> omega) | fail) only [hd, hQr, hQn, v4_0, ↓YA, YB, YC, YE, YF, YZ, ↓reduceIte, Nat.reduceEqDiff, Nat.reduceAdd, Nat.reduceMul, Nat.reduceLeDiff, Int.reduceToNat, Int.reduceLE, Int.reduceLT, Int.reduceGT, Int.reduceGE, Int.reduceAdd, Int.reduceSub, Int.reduceNeg, Int.reduceBEq, Int.reduceBNe, f145, f144, f143, f75, f74, f73, f2, f5, f7, f10, f11, f12, f8, f9, hrc, c0, c2, c3, c4, hCm, hof, hfn, hset, hw1, hw2, List.append_nil, YZi])) <;> (try (have hd_ : True := hd; clear hd_ hd)))
       rw [hfs1, hfs2]
       exact ⟨rfl, (hCj.ex hcx).setm _⟩
      | some v =>
       simp only [hg, Option.map_some, Option.getD_some] at hfn hset hw1 hfs2
       ((have hd := trivial; repeat' (first | ((first | apply GdK_st | apply GdK_sf | apply CondK_s) <;> intro hd <;> (try simp only [hd])) | simp (disch := first | assumption | omega | (simp only [nx] <;> omega) | fail) only [hd, hQr, hQn, v4_0, ↓YA, YB, YC, YE, YF, YZ, ↓reduceIte, Nat.reduceEqDiff, Nat.reduceAdd, Nat.reduceMul, Nat.reduceLeDiff, Int.reduceToNat, Int.reduceLE, Int.reduceLT, Int.reduceGT, Int.reduceGE, Int.reduceAdd, Int.reduceSub, Int.reduceNeg, Int.reduceBEq, Int.reduceBNe, f145, f144, f143, f75, f74, f73, f2, f5, f7, f10, f11, f12, f8, f9, hrc, c0, c2, c3, c4, hCm, hof, hfn, hset, hw1, hw2, List.append_nil, YZi])) <;> (try (have hd_ : True := hd; clear hd_ hd)))
       rw [hfs1, hfs2]
       exact ⟨rfl, (hCj.ex hcx).setm _⟩
     ·rintro F S ⟨f145, f144, f143, f75, f74, f73, f2, f5, f7, f10, f11, f12, f8, f9, hCj⟩
      have htk : cs.take (cntN n) = cs := List.take_of_length_le (by omega)
      rw [htk, ← hsnS] at f11 hCj
      ((have hd := trivial; repeat' (first | ((first | apply GdK_st | apply GdK_sf | apply CondK_s) <;> intro hd <;> (try simp only [hd])) | simp (disch := first | assumption | omega | (simp only [nx] <;> omega) | fail) only [hd, hQr, hQn, v4_0, ↓YA, YB, YC, YE, YF, YZ, ↓reduceIte, Nat.reduceEqDiff, Nat.reduceAdd, Nat.reduceMul, Nat.reduceLeDiff, Int.reduceToNat, Int.reduceLE, Int.reduceLT, Int.reduceGT, Int.reduceGE, Int.reduceAdd, Int.reduceSub, Int.reduceNeg, Int.reduceBEq, Int.reduceBNe, f145, f144, f143, f75, f74, f73, f2, f5, f7, f10, f11, f12, f8, f9])) <;> (try (have hd_ : True := hd; clear hd_ hd)))
      exact ⟨by omega, idt', capt', tt', idd, capd, td, rfl, rfl, hCj⟩
  ·rintro F S7 ⟨f75, f74, f73, f2, f5, f7, f10, f11, f12, h60, idt, capt, tt, idd, capd, td, f8, f9, hC⟩
   rw [List.take_length] at f8 f9 f11 f12 h60 hC
   have h7 := hC.o7
   have haS := ha.ext hC.ext
   have e3 : scs [SK.int .i64, SK.int .i64, SK.int .i64] [AV.i (l.length : Int), AV.i (cellsL l : Int), AV.i (topT x l)] = some [.int .i64 l.length, .int .i64 (cellsL l : Int), .int .i64 (topT x l)] := rfl
   have e5 : vsEq [.int .i64 l.length, .int .i64 (cellsL l : Int), .int .i64 (topT x l)] [.int .i64 l.length, .int .i64 (cellsL l : Int), .int .i64 (topT x l)] = true := by
    simp [vsEq, vEq]
   ((have hd := trivial; repeat' (first | ((first | apply GdK_st | apply GdK_sf | apply CondK_s) <;> intro hd <;> (try simp only [hd])) | simp (disch := first | assumption | omega | (simp only [nx] <;> omega) | fail) only [hd, hQr, hQn, v4_0, ↓YA, YB, YC, YE, YF, YZ, ↓reduceIte, Nat.reduceEqDiff, Nat.reduceAdd, Nat.reduceMul, Nat.reduceLeDiff, Int.reduceToNat, Int.reduceLE, Int.reduceLT, Int.reduceGT, Int.reduceGE, Int.reduceAdd, Int.reduceSub, Int.reduceNeg, Int.reduceBEq, Int.reduceBNe, f75, f74, f73, f2, f5, f7, f10, f11, f12, f8, f9, h7])) <;> (try (have hd_ : True := hd; clear hd_ hd)))
   (refine CallK.use (of_sound haS hA) ?_; rintro _ _ ⟨rfl, k8, rfl⟩)
   ((have hd := trivial; repeat' (first | ((first | apply GdK_st | apply GdK_sf | apply CondK_s) <;> intro hd <;> (try simp only [hd])) | simp (disch := first | assumption | omega | (simp only [nx] <;> omega) | fail) only [hd, hQr, hQn, v4_0, ↓YA, YB, YC, YE, YF, YZ, ↓reduceIte, Nat.reduceEqDiff, Nat.reduceAdd, Nat.reduceMul, Nat.reduceLeDiff, Int.reduceToNat, Int.reduceLE, Int.reduceLT, Int.reduceGT, Int.reduceGE, Int.reduceAdd, Int.reduceSub, Int.reduceNeg, Int.reduceBEq, Int.reduceBNe, f75, f74, f73, f2, f5, f7, f10, f11, f12, f8, f9, h7, e3, e5])) <;> (try (have hd_ : True := hd; clear hd_ hd)))
   have hlia := AHeap.lt ha2.cell
   have hx8 : AHeap.Ext S7 (S7.bump k8) := by exact AXT
   (refine CallK.use (trees_sound (haS.ext hx8) hA) ?_; rintro _ _ ⟨rfl, k9, rfl⟩)
   ((have hd := trivial; repeat' (first | ((first | apply GdK_st | apply GdK_sf | apply CondK_s) <;> intro hd <;> (try simp only [hd])) | simp (disch := first | assumption | omega | (simp only [nx] <;> omega) | fail) only [hd, hQr, hQn, v4_0, ↓YA, YB, YC, YE, YF, YZ, ↓reduceIte, Nat.reduceEqDiff, Nat.reduceAdd, Nat.reduceMul, Nat.reduceLeDiff, Int.reduceToNat, Int.reduceLE, Int.reduceLT, Int.reduceGT, Int.reduceGE, Int.reduceAdd, Int.reduceSub, Int.reduceNeg, Int.reduceBEq, Int.reduceBNe, f75, f74, f73, f2, f5, f7, f10, f11, f12, f8, f9, h7])) <;> (try (have hd_ : True := hd; clear hd_ hd)))
   have hx9 : AHeap.Ext S7 ((S7.bump k8).bump k9) := by exact AXT
   have h9 := hC.ex hx9
   generalize (S7.bump k8).bump k9 = S9 at *
   refine CallK.use (ints_arr .no (by rw [treesL_len]; omega) h9.t) ?_
   rintro r S10 ⟨rfl, hn10, hg10⟩
   have e6 : decide (treesL x l = treesL x l) = true := by simp
   have hia : AHeap.get S10 ia = AHeap.get S9 ia := by
    have := (ha.ext h9.ext)
    obtain ⟨_, _, _, hg⟩ := this
    rw [hg]
    exact hg10 _ _ (fun hne => by have := h9.lt hne; omega) hg
   have ha10 : ArA S10 ia x l := by
    obtain ⟨q1, q2, q3, hg⟩ := ha.ext h9.ext
    exact ⟨q1, q2, q3, hia.trans hg⟩
   obtain ⟨n1, n2, n3⟩ := h9.nes
   have hd10 : LsI S10 (dimsL x l) idd capd td := fun hne => ⟨hg10 _ _ (fun ht => (h9.ne ht hne).symm) (h9.d hne).1, (h9.d hne).2⟩
   have hm10 := hg10 _ _ (fun ht => (n2 ht).2.symm) h9.m
   ((have hd := trivial; repeat' (first | ((first | apply GdK_st | apply GdK_sf | apply CondK_s) <;> intro hd <;> (try simp only [hd])) | simp (disch := first | assumption | omega | (simp only [nx] <;> omega) | fail) only [hd, hQr, hQn, v4_0, ↓YA, YB, YC, YE, YF, YZ, ↓reduceIte, Nat.reduceEqDiff, Nat.reduceAdd, Nat.reduceMul, Nat.reduceLeDiff, Int.reduceToNat, Int.reduceLE, Int.reduceLT, Int.reduceGT, Int.reduceGE, Int.reduceAdd, Int.reduceSub, Int.reduceNeg, Int.reduceBEq, Int.reduceBNe, f75, f74, f73, f2, f5, f7, f10, f11, f12, f8, f9, e6])) <;> (try (have hd_ : True := hd; clear hd_ hd)))
   (refine CallK.use (dims_sound ha10 hA) ?_; rintro _ _ ⟨rfl, k11, rfl⟩)
   ((have hd := trivial; repeat' (first | ((first | apply GdK_st | apply GdK_sf | apply CondK_s) <;> intro hd <;> (try simp only [hd])) | simp (disch := first | assumption | omega | (simp only [nx] <;> omega) | fail) only [hd, hQr, hQn, v4_0, ↓YA, YB, YC, YE, YF, YZ, ↓reduceIte, Nat.reduceEqDiff, Nat.reduceAdd, Nat.reduceMul, Nat.reduceLeDiff, Int.reduceToNat, Int.reduceLE, Int.reduceLT, Int.reduceGT, Int.reduceGE, Int.reduceAdd, Int.reduceSub, Int.reduceNeg, Int.reduceBEq, Int.reduceBNe, f75, f74, f73, f2, f5, f7, f10, f11, f12, f8, f9, e6])) <;> (try (have hd_ : True := hd; clear hd_ hd)))
   have hx11 : AHeap.Ext S10 (S10.bump k11) := by exact AXT
   refine CallK.use (ints_arr .no (by rw [dimsL_len]; omega) (hd10.ext hx11)) ?_
   rintro r S12 ⟨rfl, hn12, hg12⟩
   have e7 : decide (dimsL x l = dimsL x l) = true := by simp
   have ha12 : ArA S12 ia x l := by
    obtain ⟨q1, q2, q3, hg⟩ := ha10.ext hx11
    exact ⟨q1, q2, q3, hg12 _ _ (fun hne => by have := h9.ld hne; omega) hg⟩
   have hm12 := hg12 _ _ (fun ht => (n3 ht).2.symm) (hx11.get _ _ hm10)
   ((have hd := trivial; repeat' (first | ((first | apply GdK_st | apply GdK_sf | apply CondK_s) <;> intro hd <;> (try simp only [hd])) | simp (disch := first | assumption | omega | (simp only [nx] <;> omega) | fail) only [hd, hQr, hQn, v4_0, ↓YA, YB, YC, YE, YF, YZ, ↓reduceIte, Nat.reduceEqDiff, Nat.reduceAdd, Nat.reduceMul, Nat.reduceLeDiff, Int.reduceToNat, Int.reduceLE, Int.reduceLT, Int.reduceGT, Int.reduceGE, Int.reduceAdd, Int.reduceSub, Int.reduceNeg, Int.reduceBEq, Int.reduceBNe, f75, f74, f73, f2, f5, f7, f10, f11, f12, f8, f9, e7])) <;> (try (have hd_ : True := hd; clear hd_ hd)))
   (refine CallK.use (shared_sound ha12 hA) ?_; rintro _ _ ⟨rfl, k13, rfl⟩)
   have hlen : (eMap kI AV.i (shaL x l).M).length = (shaL x l).M.length := by rw [eMap, List.length_map]
   have hin := shaL_in (x := x) hA.sm l.length (Nat.le_refl _)
   rw [List.take_length] at hin
   have hi1 := hin.w
   have hi2 := hin.l
   have hw : IntKind.i64.wrap ((shaL x l).w - ((shaL x l).M.length : Int)) = (shaL x l).w - ((shaL x l).M.length : Int) := wrap_of (by omega) (by omega)
   have e8 : ((shaL x l).w - ((shaL x l).M.length : Int) == (shaL x l).w - ((shaL x l).M.length : Int)) = true := by simp
   ((have hd := trivial; repeat' (first | ((first | apply GdK_st | apply GdK_sf | apply CondK_s) <;> intro hd <;> (try simp only [hd])) | simp (disch := first | assumption | omega | (simp only [nx] <;> omega) | fail) only [hd, hQr, hQn, v4_0, ↓YA, YB, YC, YE, YF, YZ, ↓reduceIte, Nat.reduceEqDiff, Nat.reduceAdd, Nat.reduceMul, Nat.reduceLeDiff, Int.reduceToNat, Int.reduceLE, Int.reduceLT, Int.reduceGT, Int.reduceGE, Int.reduceAdd, Int.reduceSub, Int.reduceNeg, Int.reduceBEq, Int.reduceBNe, f75, f74, f73, f2, f5, f7, f10, f11, f12, f8, f9, hm12, hlen, hw, e8])) <;> (try (have hd_ : True := hd; clear hd_ hd)))
   refine CallK.use (awake28_sound _) ?_
   rintro r H8 ⟨rfl, hx8⟩
   ((have hd := trivial; repeat' (first | ((first | apply GdK_st | apply GdK_sf | apply CondK_s) <;> intro hd <;> (try simp only [hd])) | simp (disch := first | assumption | omega | (simp only [nx] <;> omega) | fail) only [hd, hQr, hQn, v4_0, ↓YA, YB, YC, YE, YF, YZ, ↓reduceIte, Nat.reduceEqDiff, Nat.reduceAdd, Nat.reduceMul, Nat.reduceLeDiff, Int.reduceToNat, Int.reduceLE, Int.reduceLT, Int.reduceGT, Int.reduceGE, Int.reduceAdd, Int.reduceSub, Int.reduceNeg, Int.reduceBEq, Int.reduceBNe])) <;> (try (have hd_ : True := hd; clear hd_ hd)))
   exact fin_keep rfl
end Go.Proofs.Ytaapiigfmdhobaa
