/- Texts of the walk, joined: Wr Ws Wt Wu Wv. -/
import Derived.Test.YtgnpihhakogeeaaMs
import Derived.Test.YtgnpihhakogeeaaMp
import Derived.Test.YtgnpihhakogeeaaMf
namespace Go.Proofs.Ytgnpihhakogeeaa
set_option linter.unusedSimpArgs false
set_option linter.unusedVariables false
open Go.RowKit
abbrev rP (P : List (Int × Int)) : List (List AV) := P.map fun p => [.i p.1, .i p.2]
def eCube (t u : Tok) (s : MSt) : List AV := [.sl t (rN s.N), .sl u (rP s.P), .i s.e]
def RNodK (x : Shp) (tx ta tb : Tok) (a b : List Nod) (most : Int) (f : MSt → Int × Int → MSt × Int) (s : MSt) (p : Int × Int) : Prop :=
 ∀ (t u : Tok) G, Sound Try.prog 72 [.agg [.sl tx (rII x.sizes), .i x.measures], .sl ta (rN a), .sl tb (rN b), .agg (eCube t u s), .i most, .i p.1, .i p.2] G (fun r G' => AHeap.Ext G G' ∧ ∃ t' u', r = .tup [.agg (eCube t' u' (f s p).1), .i (f s p).2])
set_option maxHeartbeats 4000000 in
theorem r30cell_sound {x : Shp} {tx ta tb : Tok} {a b : List Nod} {most : Int} {f : MSt → Int × Int → MSt × Int} (t u : Tok) {s : MSt} {d key : Int} {p q : Cel} (H : AHeap) (hd : d < x.sizes.length) (hxl : x.sizes.length ≤ 1000000)
  (hf : lastB x d = false → s.e = 0 → RNodK x tx ta tb a b most f s (p.child, q.child)) (i1 : AgIn p.agg) (i2 : AgIn q.agg) :
  Sound Try.prog 98 [.agg [.sl tx (rII x.sizes), .i x.measures], .sl ta (rN a), .sl tb (rN b), .agg (eCube t u s), .i most, .i d, .i key, .agg (eCel p), .agg (eCel q)] H (fun r G' => AHeap.Ext H G' ∧ ∃ t' u' c, r = .tup [.agg (eCube t' u' (mCel x f d s key p q).1), .agg (eCel c)] ∧ ((mCel x f d s key p q).1.e = 0 → c = (mCel x f d s key p q).2)) := by
 have e3 : ∀ t u s, (eCube t u s).length = 3 := fun _ _ _ => rfl
 have e4 : ∀ t u s, (eCube t u s).take 3 = eCube t u s := fun _ _ _ => rfl
 have e5 : ∀ t u s, (eCube t u s)[2]? = some (.i s.e) := fun _ _ _ => rfl
 have e6 : ∀ t u s, (eCube t u s).drop 3 = [] := fun _ _ _ => rfl
 have c1 : ∀ c, (eCel c)[1]? = some (.i c.child) := fun _ => rfl
 have c2 : ∀ c, ((eCel c).drop 2).take 10 = eAg c.agg := fun _ => rfl
 have c3 : ∀ c, (eCel c).length = 12 := fun _ => rfl
 have c4 : ∀ c, (eCel c).take 12 = eCel c := fun _ => rfl
 have c5 : ∀ c, (eCel c).drop 12 = [] := fun _ => rfl
 have wl : IntKind.i64.wrap ((x.sizes.length : Int) - 1) = (x.sizes.length : Int) - 1 := wrap_of (by omega) (by omega)
 refine fn_soundQ hE cf98 (Nat.le_of_ble_eq_true rfl) fun Q hQr hQn => ?_
 by_cases he : s.e = 0
 ·have hl := bfd (lastB x d)
  rcases hl with hl | hl
  ·have d1 : decide (d < (x.sizes.length : Int) - 1) = true := by unfold lastB at hl; simp at hl ⊢; omega
   have hc : mCel x f d s key p q = ((f s (p.child, q.child)).1, ⟨key, (f s (p.child, q.child)).2, ⟨0, 0, 0, 0, 0, 0, 0, 0, 0, 0⟩⟩) := by
    unfold mCel
    rw [if_neg (by simp [he]), hl, if_neg (by simp)]
   rw [hc] at hQr hQn
   ((have hd := trivial; repeat' (first | ((first | apply GdK_st | apply GdK_sf | apply CondK_s) <;> intro hd <;> (try simp only [hd])) | simp (disch := first | assumption | omega | (simp only [nx] <;> omega) | fail) only [hd, hQr, hQn, c98_0, ↓YA, YB, YC, YE, YF, YZ, ↓reduceIte, Nat.reduceEqDiff, Nat.reduceAdd, Nat.reduceMul, Nat.reduceLeDiff, Int.reduceToNat, Int.reduceLE, Int.reduceLT, Int.reduceGT, Int.reduceGE, Int.reduceAdd, Int.reduceSub, Int.reduceNeg, Int.reduceBEq, Int.reduceBNe, e3, e4, e5, e6, c1, c2, c3, c4, c5, he, wl, d1, List.length_map])) <;> (try (have hd_ : True := hd; clear hd_ hd)))
   have hx1 : AHeap.Ext H ((((((H.alloc (.cells [.sl tx (rII x.sizes), .i x.measures] 24)).alloc (.cells (eCube t u s) 129)).alloc (.cells (eCel p) 43)).alloc (.cells (eCel q) 43)).alloc (.cells [.sl .full [], .sl .full [], .i 0] 129)).alloc (.cells [.i 0, .i 0, .i 0, .i 0, .i 0, .i 0, .i 0, .i 0, .i 0, .i 0, .i 0, .i 0] 43)) := by exact AXT
   have g18 : ((((((H.alloc (.cells [.sl tx (rII x.sizes), .i x.measures] 24)).alloc (.cells (eCube t u s) 129)).alloc (.cells (eCel p) 43)).alloc (.cells (eCel q) 43)).alloc (.cells [.sl .full [], .sl .full [], .i 0] 129)).alloc (.cells [.i 0, .i 0, .i 0, .i 0, .i 0, .i 0, .i 0, .i 0, .i 0, .i 0, .i 0, .i 0] 43)).get (H.next + 1 + 1 + 1 + 1) = some (.cells [.sl .full [], .sl .full [], .i 0] 129) := by
    rw [AHeap.get_alloc_ne (by simp only [nx]; omega)]; exact AHeap.get_alloc_self (H := (((H.alloc _).alloc _).alloc _).alloc _)
   have g19 : ((((((H.alloc (.cells [.sl tx (rII x.sizes), .i x.measures] 24)).alloc (.cells (eCube t u s) 129)).alloc (.cells (eCel p) 43)).alloc (.cells (eCel q) 43)).alloc (.cells [.sl .full [], .sl .full [], .i 0] 129)).alloc (.cells [.i 0, .i 0, .i 0, .i 0, .i 0, .i 0, .i 0, .i 0, .i 0, .i 0, .i 0, .i 0] 43)).get (H.next + 1 + 1 + 1 + 1 + 1) = some (.cells [.i 0, .i 0, .i 0, .i 0, .i 0, .i 0, .i 0, .i 0, .i 0, .i 0, .i 0, .i 0] 43) := AHeap.get_alloc_self (H := ((((H.alloc _).alloc _).alloc _).alloc _).alloc _)
   refine CallK.use (hf hl he t u _) ?_
   rintro r G ⟨hx2, t', u', rfl⟩
   have g18 := hx2.get _ _ g18
   have g19 := hx2.get _ _ g19
   have l18 := AHeap.lt g18
   have l19 := AHeap.lt g19
   have hx3 := hx1.trans hx2
   ((have hd := trivial; repeat' (first | ((first | apply GdK_st | apply GdK_sf | apply CondK_s) <;> intro hd <;> (try simp only [hd])) | simp (disch := first | assumption | omega | (simp only [nx] <;> omega) | fail) only [hd, hQr, hQn, c98_0, ↓YA, YB, YC, YE, YF, YZ, ↓reduceIte, Nat.reduceEqDiff, Nat.reduceAdd, Nat.reduceMul, Nat.reduceLeDiff, Int.reduceToNat, Int.reduceLE, Int.reduceLT, Int.reduceGT, Int.reduceGE, Int.reduceAdd, Int.reduceSub, Int.reduceNeg, Int.reduceBEq, Int.reduceBNe, e3, e4, e5, e6, g18, g19])) <;> (try (have hd_ : True := hd; clear hd_ hd)))
   exact fin_keep ⟨by exact AXT, t', u', _, rfl, fun _ => rfl⟩
  ·have d1 : decide (d < (x.sizes.length : Int) - 1) = false := by unfold lastB at hl; simp at hl ⊢; omega
   cases hj : joinA p.agg q.agg with
   | some g =>
    have hc : mCel x f d s key p q = (s, ⟨key, 0, g⟩) := by
     unfold mCel
     rw [if_neg (by simp [he]), hl, if_pos rfl, hj]
    rw [hc] at hQr hQn
    have hA : ∀ G, Sound Try.prog 109 [.agg (eAg p.agg), .agg (eAg q.agg)] G (Pure G (.tup [.agg (eAg g), .b true])) := by
     intro G
     have := rjoin_sound p.agg q.agg G i1 i2
     rw [hj] at this
     exact this
    ((have hd := trivial; repeat' (first | ((first | apply GdK_st | apply GdK_sf | apply CondK_s) <;> intro hd <;> (try simp only [hd])) | simp (disch := first | assumption | omega | (simp only [nx] <;> omega) | fail) only [hd, hQr, hQn, c98_0, ↓YA, YB, YC, YE, YF, YZ, ↓reduceIte, Nat.reduceEqDiff, Nat.reduceAdd, Nat.reduceMul, Nat.reduceLeDiff, Int.reduceToNat, Int.reduceLE, Int.reduceLT, Int.reduceGT, Int.reduceGE, Int.reduceAdd, Int.reduceSub, Int.reduceNeg, Int.reduceBEq, Int.reduceBNe, e3, e4, e5, e6, c1, c2, c3, c4, c5, he, wl, d1, List.length_map])) <;> (try (have hd_ : True := hd; clear hd_ hd)))
    (refine CallK.use (hA _) ?_; rintro _ _ ⟨rfl, k1, rfl⟩)
    ((have hd := trivial; repeat' (first | ((first | apply GdK_st | apply GdK_sf | apply CondK_s) <;> intro hd <;> (try simp only [hd])) | simp (disch := first | assumption | omega | (simp only [nx] <;> omega) | fail) only [hd, hQr, hQn, c98_0, ↓YA, YB, YC, YE, YF, YZ, ↓reduceIte, Nat.reduceEqDiff, Nat.reduceAdd, Nat.reduceMul, Nat.reduceLeDiff, Int.reduceToNat, Int.reduceLE, Int.reduceLT, Int.reduceGT, Int.reduceGE, Int.reduceAdd, Int.reduceSub, Int.reduceNeg, Int.reduceBEq, Int.reduceBNe, e3, e4, e5, e6, c1, c2, c3, c4, c5, he, wl, d1, List.length_map])) <;> (try (have hd_ : True := hd; clear hd_ hd)))
    exact fin_keep ⟨by exact AXT, t, u, ⟨key, 0, g⟩, rfl, fun _ => rfl⟩
   | none =>
    have hc : mCel x f d s key p q = (⟨s.N, s.P, 12⟩, cel0) := by
     unfold mCel
     rw [if_neg (by simp [he]), hl, if_pos rfl, hj]
    rw [hc] at hQr hQn
    have hA : ∀ G, Sound Try.prog 109 [.agg (eAg p.agg), .agg (eAg q.agg)] G (Pure G (.tup [.agg (eAg ag0), .b false])) := by
     intro G
     have := rjoin_sound p.agg q.agg G i1 i2
     rw [hj] at this
     exact this
    ((have hd := trivial; repeat' (first | ((first | apply GdK_st | apply GdK_sf | apply CondK_s) <;> intro hd <;> (try simp only [hd])) | simp (disch := first | assumption | omega | (simp only [nx] <;> omega) | fail) only [hd, hQr, hQn, c98_0, ↓YA, YB, YC, YE, YF, YZ, ↓reduceIte, Nat.reduceEqDiff, Nat.reduceAdd, Nat.reduceMul, Nat.reduceLeDiff, Int.reduceToNat, Int.reduceLE, Int.reduceLT, Int.reduceGT, Int.reduceGE, Int.reduceAdd, Int.reduceSub, Int.reduceNeg, Int.reduceBEq, Int.reduceBNe, eCube, c1, c2, c3, c4, c5, he, wl, d1, List.length_map])) <;> (try (have hd_ : True := hd; clear hd_ hd)))
    (refine CallK.use (hA _) ?_; rintro _ _ ⟨rfl, k1, rfl⟩)
    ((have hd := trivial; repeat' (first | ((first | apply GdK_st | apply GdK_sf | apply CondK_s) <;> intro hd <;> (try simp only [hd])) | simp (disch := first | assumption | omega | (simp only [nx] <;> omega) | fail) only [hd, hQr, hQn, c98_0, ↓YA, YB, YC, YE, YF, YZ, ↓reduceIte, Nat.reduceEqDiff, Nat.reduceAdd, Nat.reduceMul, Nat.reduceLeDiff, Int.reduceToNat, Int.reduceLE, Int.reduceLT, Int.reduceGT, Int.reduceGE, Int.reduceAdd, Int.reduceSub, Int.reduceNeg, Int.reduceBEq, Int.reduceBNe, eCube, c1, c2, c3, c4, c5, he, wl, d1, List.length_map])) <;> (try (have hd_ : True := hd; clear hd_ hd)))
    exact fin_keep ⟨by exact AXT, t, u, ⟨key, 0, ag0⟩, rfl, fun h => absurd h (by decide)⟩
 ·have d1 : (s.e != 0) = true := by simpa using he
  have hc : mCel x f d s key p q = (s, cel0) := mCel_err he
  rw [hc] at hQr hQn
  ((have hd := trivial; repeat' (first | ((first | apply GdK_st | apply GdK_sf | apply CondK_s) <;> intro hd <;> (try simp only [hd])) | simp (disch := first | assumption | omega | (simp only [nx] <;> omega) | fail) only [hd, hQr, hQn, c98_0, ↓YA, YB, YC, YE, YF, YZ, ↓reduceIte, Nat.reduceEqDiff, Nat.reduceAdd, Nat.reduceMul, Nat.reduceLeDiff, Int.reduceToNat, Int.reduceLE, Int.reduceLT, Int.reduceGT, Int.reduceGE, Int.reduceAdd, Int.reduceSub, Int.reduceNeg, Int.reduceBEq, Int.reduceBNe, e3, e4, e5, e6, c3, c4, c5, d1])) <;> (try (have hd_ : True := hd; clear hd_ hd)))
  exact fin_keep ⟨by exact AXT, t, u, cel0, rfl, fun h => absurd h he⟩
theorem getR_at {l : List Nod} {D : Nat} {i : Int} (h : At l D i) : getR l i = getP l i ∧ i < l.length ∧ -1 ≤ i := by
 rcases h with h | ⟨h1, h2, _⟩
 ·subst h; exact ⟨rfl, by omega, Int.le_refl _⟩
 ·exact ⟨by unfold getR getP; rw [if_neg (by omega), if_neg (by omega)], h2, by omega⟩
theorem MOk.err {a b : List Nod} {most : Int} {s : MSt} (h : MOk a b most s) (e : Int) : MOk a b most ⟨s.N, s.P, e⟩ := ⟨h.len, h.few, h.small, h.dim⟩
structure VisI (i7 i10 i14 i17 i18 i19 i20 : Nat) (x : Shp) (tx : Tok) (X Y : Nod) (D : Nat) (s : MSt) (ts : List (Tok × List Cel)) (H S : AHeap) : Prop where
 ext : AHeap.Ext H S
 g7 : S.get i7 = some (.cells [.sl tx (rII x.sizes), .i x.measures] 24)
 g10 : ∃ t u, S.get i10 = some (.cells (eCube t u s) 129)
 g14 : S.get i14 = some (.cells [.sl .full [], .sl .full [], .i 0] 129)
 g17 : S.get i17 = some (.cells (eNod .no X) 45)
 g18 : S.get i18 = some (.cells (eNod .no Y) 45)
 g19 : S.get i19 = some (.cells (eNodT (.own i20) D ts cel0) 45)
 gt : S.get i20 = some (.tok ts.length 83 1)
 o1 : H.next ≤ i7
 o2 : i7 < i10
 o3 : i10 < i14
 o4 : i14 < i17
 o5 : i17 < i18
 o6 : i18 < i19
 o7 : i19 < i20
section
variable {i7 i10 i14 i17 i18 i19 i20 : Nat} {x : Shp} {tx : Tok} {X Y : Nod} {D : Nat} {s s' : MSt} {ts : List (Tok × List Cel)} {H S S' : AHeap}
theorem VisI.mono (h : VisI i7 i10 i14 i17 i18 i19 i20 x tx X Y D s ts H S) (hx : AHeap.Ext S S') : VisI i7 i10 i14 i17 i18 i19 i20 x tx X Y D s ts H S' := by
 obtain ⟨t, u, hg⟩ := h.g10
 exact ⟨h.ext.trans hx, hx.get _ _ h.g7, ⟨t, u, hx.get _ _ hg⟩, hx.get _ _ h.g14, hx.get _ _ h.g17, hx.get _ _ h.g18, hx.get _ _ h.g19, hx.get _ _ h.gt, h.o1, h.o2, h.o3, h.o4, h.o5, h.o6, h.o7⟩
theorem VisI.cube (h : VisI i7 i10 i14 i17 i18 i19 i20 x tx X Y D s ts H S) (t u : Tok) (s' : MSt) : VisI i7 i10 i14 i17 i18 i19 i20 x tx X Y D s' ts H (S.set i10 (.cells (eCube t u s') 129)) := by
 obtain ⟨t0, u0, hg⟩ := h.g10
 have o1 := h.o1
 have o2 := h.o2
 have o3 := h.o3
 have o4 := h.o4
 have o5 := h.o5
 have o6 := h.o6
 have o7 := h.o7
 refine ⟨h.ext.set (by omega), ?_, ⟨t, u, AHeap.get_set_self (AHeap.lt hg)⟩, ?_, ?_, ?_, ?_, ?_, o1, o2, o3, o4, o5, o6, o7⟩
 ·rw [AHeap.get_set_ne (by omega)]; exact h.g7
 ·rw [AHeap.get_set_ne (by omega)]; exact h.g14
 ·rw [AHeap.get_set_ne (by omega)]; exact h.g17
 ·rw [AHeap.get_set_ne (by omega)]; exact h.g18
 ·rw [AHeap.get_set_ne (by omega)]; exact h.g19
 ·rw [AHeap.get_set_ne (by omega)]; exact h.gt
theorem VisI.set (h : VisI i7 i10 i14 i17 i18 i19 i20 x tx X Y D s ts H S) {id : Nat} (hi : i20 < id) (o : AObj) : VisI i7 i10 i14 i17 i18 i19 i20 x tx X Y D s ts H (S.set id o) := by
 obtain ⟨t0, u0, hg⟩ := h.g10
 have o1 := h.o1
 have o2 := h.o2
 have o3 := h.o3
 have o4 := h.o4
 have o5 := h.o5
 have o6 := h.o6
 have o7 := h.o7
 refine ⟨h.ext.set (by omega), ?_, ⟨t0, u0, ?_⟩, ?_, ?_, ?_, ?_, ?_, o1, o2, o3, o4, o5, o6, o7⟩
 ·rw [AHeap.get_set_ne (by omega)]; exact h.g7
 ·rw [AHeap.get_set_ne (by omega)]; exact hg
 ·rw [AHeap.get_set_ne (by omega)]; exact h.g14
 ·rw [AHeap.get_set_ne (by omega)]; exact h.g17
 ·rw [AHeap.get_set_ne (by omega)]; exact h.g18
 ·rw [AHeap.get_set_ne (by omega)]; exact h.g19
 ·rw [AHeap.get_set_ne (by omega)]; exact h.gt
theorem VisI.list (h : VisI i7 i10 i14 i17 i18 i19 i20 x tx X Y D s ts H S) (to : Tok) (l : List Cel) : VisI i7 i10 i14 i17 i18 i19 i20 x tx X Y D s (ts ++ [(to, l)]) H ((S.set i20 (.tok (ts.length + 1) 83 1)).set i19 (.cells (.i D :: .sl (.own i20) (rLt ts ++ [[.sl to (rC l)]]) :: eCel cel0) 45)) := by
 obtain ⟨t0, u0, hg⟩ := h.g10
 have o1 := h.o1
 have o2 := h.o2
 have o3 := h.o3
 have o4 := h.o4
 have o5 := h.o5
 have o6 := h.o6
 have o7 := h.o7
 have l1 := AHeap.lt h.gt
 have l2 := AHeap.lt h.g19
 refine ⟨(h.ext.set (by omega)).set (by omega), ?_, ⟨t0, u0, ?_⟩, ?_, ?_, ?_, ?_, ?_, o1, o2, o3, o4, o5, o6, o7⟩
 ·rw [AHeap.get_set_ne (by omega), AHeap.get_set_ne (by omega)]; exact h.g7
 ·rw [AHeap.get_set_ne (by omega), AHeap.get_set_ne (by omega)]; exact hg
 ·rw [AHeap.get_set_ne (by omega), AHeap.get_set_ne (by omega)]; exact h.g14
 ·rw [AHeap.get_set_ne (by omega), AHeap.get_set_ne (by omega)]; exact h.g17
 ·rw [AHeap.get_set_ne (by omega), AHeap.get_set_ne (by omega)]; exact h.g18
 ·have hap : rLt (ts ++ [(to, l)]) = rLt ts ++ [[.sl to (rC l)]] := List.map_append
  rw [AHeap.get_set_self (by simp only [nx]; omega)]
  unfold eNodT
  rw [hap]
 ·rw [AHeap.get_set_ne (by omega), AHeap.get_set_self (by omega), List.length_append]; rfl
end
theorem ofC_mem (l : List Cel) (key : Int) : ofC l key = noC ∨ ofC l key ∈ l := by
 unfold ofC
 cases h : l.find? fun c => c.key == key with
 | none => exact .inl rfl
 | some c => exact .inr (List.mem_of_find?_eq_some h)
theorem rise_at {x : Shp} {l : List Nod} {D : Nat} {i : Int} (h : Prw x l) (ha : At l D i) (t : Nat) : Rise ((x.sizes.getD D []).getD t 0) 0 ((getP l i).lists.getD t []) := by
 by_cases hi : i = -1
 ·subst hi; rw [getP_none, nod0_getD]; trivial
 ·obtain ⟨hm, hd, _⟩ := getP_at ha hi
  have := h.rise _ hm t
  rw [hd] at this
  exact this
theorem lists_max {x : Shp} {a b : List Nod} {D : Nat} {i j : Int} (ha : Prw x a) (hb : Prw x b) (h1 : At a D i) (h2 : At b D j) (h3 : ¬(i = -1 ∧ j = -1)) : max (getP a i).lists.length (getP b j).lists.length = (x.sizes.getD D []).length := by
 have key : ∀ {l : List Nod} {i : Int}, Prw x l → At l D i → (getP l i).lists.length = if i = -1 then 0 else (x.sizes.getD D []).length := fun {l i} h ha => by
  by_cases hi : i = -1
  ·subst hi; rw [if_pos rfl, getP_none]; rfl
  ·obtain ⟨hm, hd, _⟩ := getP_at ha hi
   have := h.lens _ hm
   rw [hd] at this
   rw [if_neg hi]; exact this
 rw [key ha h1, key hb h2]
 by_cases e1 : i = -1
 ·by_cases e2 : j = -1
  ·exact absurd ⟨e1, e2⟩ h3
  ·rw [if_pos e1, if_neg e2]; omega
 ·rw [if_neg e1]
  split <;> omega
theorem keys_doc {x : Shp} {a b : List Nod} {D : Nat} {i j : Int} (ha : Prw x a) (hb : Prw x b) (h1 : At a D i) (h2 : At b D j) (t : Nat) :
  mKeys (((getP a i).lists.getD t []).length + ((getP b j).lists.getD t []).length) ((getP a i).lists.getD t []) ((getP b j).lists.getD t []) = rKeys (ofC ((getP a i).lists.getD t [])) (ofC ((getP b j).lists.getD t [])) ((x.sizes.getD D []).getD t 0).toNat 0 := by
 have hs := getD_size ha D t
 have e : (0 : Int) + (((x.sizes.getD D []).getD t 0).toNat : Int) = (x.sizes.getD D []).getD t 0 := by omega
 refine (rKeys_eq _ 0 _ _ _ ?_ ?_ (Nat.le_refl _)).symm
 ·rw [e]; exact rise_at ha h1 t
 ·rw [e]; exact rise_at hb h2 t
theorem wkn_snoc (t tk : Tok) (N : List Nod) (D : Int) (ts : List (Tok × List Cel)) (c : Cel) : Wkn (.sl t (rN N ++ [eNodT tk D ts c])) (.sl .no (rN (N ++ [⟨D, ts.map (·.2), c⟩]))) := by
 have e : rN (N ++ [⟨D, ts.map (·.2), c⟩]) = rN N ++ [eNod .no ⟨D, ts.map (·.2), c⟩] := List.map_append
 rw [e]
 have key : ∀ (i : Nat) (r r' : List AV), (rN N ++ [eNodT tk D ts c])[i]? = some r → (rN N ++ [eNod .no ⟨D, ts.map (·.2), c⟩])[i]? = some r' → r = r' ∨ (r = eNodT tk D ts c ∧ r' = eNod .no ⟨D, ts.map (·.2), c⟩) := fun i r r' h h' => by
  by_cases hi : i < (rN N).length
  ·rw [List.getElem?_append_left hi] at h h'
   rw [h] at h'; injection h' with h'; exact .inl h'
  ·rw [List.getElem?_append_right (by omega)] at h h'
   cases hm : i - (rN N).length with
   | zero => rw [hm] at h h'; simp at h h'; exact .inr ⟨h.symm, h'.symm⟩
   | succ m => rw [hm] at h; simp at h
 refine .sl _ _ _ (by simp) (fun i r r' h h' => ?_) (fun i r r' j x y h h' hx hy => ?_)
 ·rcases key i r r' h h' with rfl | ⟨rfl, rfl⟩
  ·rfl
  ·rfl
 ·rcases key i r r' h h' with rfl | ⟨rfl, rfl⟩
  ·rw [hx] at hy; injection hy with hy; subst hy; exact .refl _
  ·match j with
   | 0 => simp [eNodT, eNod] at hx hy; subst hx hy; exact .refl _
   | 1 =>
    have hx : some (AV.sl tk (rLt ts)) = some x := hx
    have hy : some (AV.sl .no (rL (ts.map (·.2)))) = some y := hy
    injection hx with hx
    injection hy with hy
    subst hx hy
    exact wkn_lists _ _
   | j + 2 =>
    have hx : (eCel c)[j]? = some x := hx
    have hy : (eCel c)[j]? = some y := hy
    rw [hx] at hy; injection hy with hy; subst hy; exact .refl _
theorem wkn_res (t u tk : Tok) (N : List Nod) (P : List (List AV)) (D at' : Int) (ts : List (Tok × List Cel)) (c : Cel) : Wkn (.tup [.agg [.sl t (rN N ++ [eNodT tk D ts c]), .sl u P, .i 0], .i at']) (.tup [.agg [.sl .no (rN (N ++ [⟨D, ts.map (·.2), c⟩])), .sl u P, .i 0], .i at']) := by
 refine .tup _ _ rfl fun i x y hx hy => ?_
 match i with
 | 0 =>
  simp only [List.getElem?_cons_zero, Option.some.injEq] at hx hy
  subst hx hy
  refine .agg _ _ rfl fun j x y hx hy => ?_
  match j with
  | 0 => simp only [List.getElem?_cons_zero, Option.some.injEq] at hx hy; subst hx hy; exact wkn_snoc _ _ _ _ _ _
  | 1 => simp only [List.getElem?_cons_zero, List.getElem?_cons_succ, Option.some.injEq] at hx hy; subst hx hy; exact .refl _
  | 2 => simp only [List.getElem?_cons_zero, List.getElem?_cons_succ, Option.some.injEq] at hx hy; subst hx hy; exact .refl _
  | j + 3 => simp at hx
 | 1 => simp only [List.getElem?_cons_zero, List.getElem?_cons_succ, Option.some.injEq] at hx hy; subst hx hy; exact .refl _
 | i + 2 => simp at hx
set_option maxHeartbeats 4000000 in
theorem rvisit_step {x : Shp} {tx ta tb : Tok} {a b : List Nod} {most : Int} {f : MSt → Int × Int → MSt × Int} (t u : Tok) {s : MSt} {D : Nat} (i j : Int) (H : AHeap) (ha : Prw x a) (hb : Prw x b) (hm : most ≤ 131072) (hD : D < x.sizes.length) (h1 : At a D i) (h2 : At b D j) (h3 : ¬(i = -1 ∧ j = -1)) (ok : MOk a b most s)
    (hf : lastB x (D : Int) = false → ∀ s q, s.e = 0 → MOk a b most s → At a (D + 1) q.1 → At b (D + 1) q.2 → ¬(q.1 = -1 ∧ q.2 = -1) → RNodK x tx ta tb a b most f s q ∧ MOk a b most (f s q).1) :
    Sound Try.prog 72 [.agg [.sl tx (rII x.sizes), .i x.measures], .sl ta (rN a), .sl tb (rN b), .agg (eCube t u s), .i most, .i i, .i j] H (fun r G' => AHeap.Ext H G' ∧ ∃ t' u', r = .tup [.agg (eCube t' u' (nodeF x a b most f s (i, j)).1), .i (nodeF x a b most f s (i, j)).2]) := by
  obtain ⟨r1, r2, r3⟩ := getR_at h1
  obtain ⟨q1, q2, q3⟩ := getR_at h2
  have hla := ha.k.w.len
  have hlb := hb.k.w.len
  have hPl : s.P.length ≤ 131072 := by have := ok.few; have := ok.len; omega
  obtain ⟨hmx, hmx2⟩ := at_max h1 h2 h3
  have e3 : ∀ t u s, (eCube t u s).length = 3 := fun _ _ _ => rfl
  have e4 : ∀ t u s, (eCube t u s).take 3 = eCube t u s := fun _ _ _ => rfl
  have e5 : ∀ t u s, (eCube t u s)[2]? = some (.i s.e) := fun _ _ _ => rfl
  have e6 : ∀ t u s, (eCube t u s).drop 3 = [] := fun _ _ _ => rfl
  have e7 : ∀ t u s, (eCube t u s)[1]? = some (.sl u (rP s.P)) := fun _ _ _ => rfl
  have e8 : ∀ t u s, (eCube t u s)[0]? = some (.sl t (rN s.N)) := fun _ _ _ => rfl
  have e0 : ∀ t n, (eNod t n)[0]? = some (.i n.dim) := fun _ _ => rfl
  have sc2 : ∀ a b : Int, scs [.int .i64, .int .i64] [.i a, .i b] = some [.int .i64 a, .int .i64 b] := fun _ _ => rfl
  have ve : ∀ a b c d : Int, vsEq [.int .i64 a, .int .i64 b] [.int .i64 c, .int .i64 d] = decide ((a, b) = (c, d)) := fun a b c d => by
    rw [Bool.eq_iff_iff]; simp [vsEq, vEq_int]
  have hRk : ∀ k (hk : k < s.P.length), s.P[k] = (i, j) → (∀ l (hl : l < s.P.length), l < k → s.P[l] ≠ (i, j)) → nodeF x a b most f s (i, j) = (s, (k : Int)) := fun k hk h1 h2 => by
    have : s.P.findIdx? (· == (i, j)) = some k := by
      rw [List.findIdx?_eq_some_iff_getElem]
      exact ⟨hk, by simpa using h1, fun l hl => by have := h2 l (by omega) hl; simpa using this⟩
    unfold nodeF; rw [this]
  refine fn_soundQ hE cf72 (Nat.le_of_ble_eq_true rfl) fun Q hQr hQn => ?_
  ((have hd := trivial; repeat' (first | ((first | apply GdK_st | apply GdK_sf | apply CondK_s) <;> intro hd <;> (try simp only [hd])) | simp (disch := first | assumption | omega | (simp only [nx] <;> omega) | fail) only [hd, hQr, hQn, c72_0, ↓YA, YB, YC, YE, YF, YZ, ↓reduceIte, Nat.reduceEqDiff, Nat.reduceAdd, Nat.reduceMul, Nat.reduceLeDiff, Int.reduceToNat, Int.reduceLE, Int.reduceLT, Int.reduceGT, Int.reduceGE, Int.reduceAdd, Int.reduceSub, Int.reduceNeg, Int.reduceBEq, Int.reduceBNe, e3, e4, e5, e6, e7, e8, List.length_map])) <;> (try (have hd_ : True := hd; clear hd_ hd)))
  have hx0 : AHeap.Ext H (((H.alloc (.cells [.sl tx (rII x.sizes), .i x.measures] 24)).alloc (.cells (eCube t u s) 129)).alloc (.cells [.sl .full [], .sl .full [], .i 0] 129)) := by exact AXT
  have g7 : (((H.alloc (.cells [.sl tx (rII x.sizes), .i x.measures] 24)).alloc (.cells (eCube t u s) 129)).alloc (.cells [.sl .full [], .sl .full [], .i 0] 129)).get H.next = some (.cells [.sl tx (rII x.sizes), .i x.measures] 24) := by
    rw [AHeap.get_alloc_ne (by simp only [nx]; omega), AHeap.get_alloc_ne (by simp only [nx]; omega)]; exact AHeap.get_alloc_self
  have g10 : (((H.alloc (.cells [.sl tx (rII x.sizes), .i x.measures] 24)).alloc (.cells (eCube t u s) 129)).alloc (.cells [.sl .full [], .sl .full [], .i 0] 129)).get (H.next + 1) = some (.cells (eCube t u s) 129) := by
    rw [AHeap.get_alloc_ne (by simp only [nx]; omega)]; exact AHeap.get_alloc_self (H := H.alloc _)
  have g14 : (((H.alloc (.cells [.sl tx (rII x.sizes), .i x.measures] 24)).alloc (.cells (eCube t u s) 129)).alloc (.cells [.sl .full [], .sl .full [], .i 0] 129)).get (H.next + 1 + 1) = some (.cells [.sl .full [], .sl .full [], .i 0] 129) := AHeap.get_alloc_self (H := (H.alloc _).alloc _)
  generalize (((H.alloc (.cells [.sl tx (rII x.sizes), .i x.measures] 24)).alloc (.cells (eCube t u s) 129)).alloc (.cells [.sl .full [], .sl .full [], .i 0] 129)) = G0 at *
  refine AW_forI (N := s.P.length) (fun k F S => Fr.get F 32 = .i (k : Int) ∧ Fr.get F 31 = .i (s.P.length : Int) ∧ Fr.get F 1 = .sl ta (rN a) ∧ Fr.get F 2 = .sl tb (rN b) ∧ Fr.get F 4 = .i most ∧ Fr.get F 5 = .i i ∧ Fr.get F 6 = .i j ∧ Fr.get F 7 = .ptr H.next 0 ∧ Fr.get F 10 = .ptr (H.next + 1) 0 ∧ Fr.get F 14 = .ptr (H.next + 1 + 1) 0 ∧ AHeap.Ext G0 S ∧ (∀ l (hl : l < s.P.length), l < k → s.P[l] ≠ (i, j))) (by unfold maxLen; omega) (fun k F G h => ⟨h.1, h.2.1⟩) (GStep.refl _ _)
    ⟨rfl, rfl, rfl, rfl, rfl, rfl, rfl, rfl, rfl, rfl, .refl _, fun l _ h => absurd h (Nat.not_lt_zero l)⟩ ?_ ?_
  · rintro k F S hk ⟨f32, f31, f1, f2, f4, f5, f6, f7, f10, f14, hxS, hno⟩
    have g10 := hxS.get _ _ g10
    have g14 := hxS.get _ _ g14
    by_cases hp : s.P[k] = (i, j)
    · rw [hRk k hk hp hno] at hQr hQn
      have hNk : k < s.N.length := by rw [← ok.len]; exact hk
      have hdm := ok.dim k s.N[k] (i, j) (List.getElem?_eq_getElem hNk) (by rw [List.getElem?_eq_getElem hk, hp])
      have hdm2 : s.N[k].dim = (D : Int) := hdm.trans hmx2
      have dT : decide ((i, j) = (i, j)) = true := decide_eq_true rfl
      have l14 := AHeap.lt g14
      ((have hd := trivial; repeat' (first | ((first | apply GdK_st | apply GdK_sf | apply CondK_s) <;> intro hd <;> (try simp only [hd])) | simp (disch := first | assumption | omega | (simp only [nx] <;> omega) | fail) only [hd, hQr, hQn, c72_0, ↓YA, YB, YC, YE, YF, YZ, ↓reduceIte, Nat.reduceEqDiff, Nat.reduceAdd, Nat.reduceMul, Nat.reduceLeDiff, Int.reduceToNat, Int.reduceLE, Int.reduceLT, Int.reduceGT, Int.reduceGE, Int.reduceAdd, Int.reduceSub, Int.reduceNeg, Int.reduceBEq, Int.reduceBNe, f32, f31, f1, f2, f4, f5, f6, f7, f10, f14, g10, g14, e3, e4, e5, e6, e7, e8, List.length_map, hp, sc2, ve, dT])) <;> (try (have hd_ : True := hd; clear hd_ hd)))
      (refine CallK.use (rget_sound ta a i _ r2) ?_; rintro _ _ ⟨rfl, k1, rfl⟩)
      ((have hd := trivial; repeat' (first | ((first | apply GdK_st | apply GdK_sf | apply CondK_s) <;> intro hd <;> (try simp only [hd])) | simp (disch := first | assumption | omega | (simp only [nx] <;> omega) | fail) only [hd, hQr, hQn, c72_0, ↓YA, YB, YC, YE, YF, YZ, ↓reduceIte, Nat.reduceEqDiff, Nat.reduceAdd, Nat.reduceMul, Nat.reduceLeDiff, Int.reduceToNat, Int.reduceLE, Int.reduceLT, Int.reduceGT, Int.reduceGE, Int.reduceAdd, Int.reduceSub, Int.reduceNeg, Int.reduceBEq, Int.reduceBNe, f32, f31, f1, f2, f4, f5, f6, f7, f10, f14, g10, g14, e0, e3, e4, e5, e6, e7, e8, List.length_map, hp, sc2, ve, dT, r1, hNk, List.getElem?_map, List.getElem?_eq_getElem])) <;> (try (have hd_ : True := hd; clear hd_ hd)))
      (refine CallK.use (rget_sound tb b j _ q2) ?_; rintro _ _ ⟨rfl, k2, rfl⟩)
      ((have hd := trivial; repeat' (first | ((first | apply GdK_st | apply GdK_sf | apply CondK_s) <;> intro hd <;> (try simp only [hd])) | simp (disch := first | assumption | omega | (simp only [nx] <;> omega) | fail) only [hd, hQr, hQn, c72_0, ↓YA, YB, YC, YE, YF, YZ, ↓reduceIte, Nat.reduceEqDiff, Nat.reduceAdd, Nat.reduceMul, Nat.reduceLeDiff, Int.reduceToNat, Int.reduceLE, Int.reduceLT, Int.reduceGT, Int.reduceGE, Int.reduceAdd, Int.reduceSub, Int.reduceNeg, Int.reduceBEq, Int.reduceBNe, f32, f31, f1, f2, f4, f5, f6, f7, f10, f14, g10, g14, e0, e3, e4, e5, e6, e7, e8, List.length_map, hp, sc2, ve, dT, r1, q1, hmx, hdm2, hNk])) <;> (try (have hd_ : True := hd; clear hd_ hd)))
      exact fin_keep ⟨((hx0.trans hxS).bump.bump).set (by omega), t, u, rfl⟩
    · have dF : decide ((s.P[k].1, s.P[k].2) = (i, j)) = false := decide_eq_false hp
      ((have hd := trivial; repeat' (first | ((first | apply GdK_st | apply GdK_sf | apply CondK_s) <;> intro hd <;> (try simp only [hd])) | simp (disch := first | assumption | omega | (simp only [nx] <;> omega) | fail) only [hd, hQr, hQn, c72_0, ↓YA, YB, YC, YE, YF, YZ, ↓reduceIte, Nat.reduceEqDiff, Nat.reduceAdd, Nat.reduceMul, Nat.reduceLeDiff, Int.reduceToNat, Int.reduceLE, Int.reduceLT, Int.reduceGT, Int.reduceGE, Int.reduceAdd, Int.reduceSub, Int.reduceNeg, Int.reduceBEq, Int.reduceBNe, f32, f31, f1, f2, f4, f5, f6, f7, f10, f14, g10, g14, e3, e4, e5, e6, e7, e8, List.length_map, sc2, ve, dF])) <;> (try (have hd_ : True := hd; clear hd_ hd)))
      exact ⟨hxS, fun l hl h => by
        rcases Nat.lt_or_eq_of_le (Nat.lt_succ_iff.1 h) with h | rfl
        · exact hno l hl h
        · exact hp⟩
  · rintro F S ⟨f32, f31, f1, f2, f4, f5, f6, f7, f10, f14, hxS, hno⟩
    have g7 := hxS.get _ _ g7
    have g10 := hxS.get _ _ g10
    have g14 := hxS.get _ _ g14
    have e : s.P.findIdx? (· == (i, j)) = none := by
      rw [List.findIdx?_eq_none_iff]
      intro q hq
      obtain ⟨l, hl, rfl⟩ := List.getElem_of_mem hq
      have := hno l hl hl
      simpa using this
    have hxS := hx0.trans hxS
    have l7 := AHeap.lt g7
    have l10 := AHeap.lt g10
    have l14 := AHeap.lt g14
    by_cases he : s.e = 0
    · have e14 : ∀ t n, (eNod t n).length = 14 := fun _ _ => rfl
      have e15 : ∀ t n, (eNod t n).take 14 = eNod t n := fun _ _ => rfl
      have ed : ∀ t n, (eNod t n).drop 14 = [] := fun _ _ => rfl
      have hD0 : (0 : Int) ≤ (D : Int) := by omega
      ((have hd := trivial; repeat' (first | ((first | apply GdK_st | apply GdK_sf | apply CondK_s) <;> intro hd <;> (try simp only [hd])) | simp (disch := first | assumption | omega | (simp only [nx] <;> omega) | fail) only [hd, hQr, hQn, c72_0, ↓YA, YB, YC, YE, YF, YZ, ↓reduceIte, Nat.reduceEqDiff, Nat.reduceAdd, Nat.reduceMul, Nat.reduceLeDiff, Int.reduceToNat, Int.reduceLE, Int.reduceLT, Int.reduceGT, Int.reduceGE, Int.reduceAdd, Int.reduceSub, Int.reduceNeg, Int.reduceBEq, Int.reduceBNe, f1, f2, f4, f5, f6, f7, f10, f14, g10, g14, e3, e4, e5, e6, e7, e8, he])) <;> (try (have hd_ : True := hd; clear hd_ hd)))
      (refine CallK.use (rget_sound ta a i _ r2) ?_; rintro _ _ ⟨rfl, k1, rfl⟩)
      ((have hd := trivial; repeat' (first | ((first | apply GdK_st | apply GdK_sf | apply CondK_s) <;> intro hd <;> (try simp only [hd])) | simp (disch := first | assumption | omega | (simp only [nx] <;> omega) | fail) only [hd, hQr, hQn, c72_0, ↓YA, YB, YC, YE, YF, YZ, ↓reduceIte, Nat.reduceEqDiff, Nat.reduceAdd, Nat.reduceMul, Nat.reduceLeDiff, Int.reduceToNat, Int.reduceLE, Int.reduceLT, Int.reduceGT, Int.reduceGE, Int.reduceAdd, Int.reduceSub, Int.reduceNeg, Int.reduceBEq, Int.reduceBNe, f1, f2, f4, f5, f6, f7, f10, f14, g10, g14, e0, e14, e15, ed, r1, q1])) <;> (try (have hd_ : True := hd; clear hd_ hd)))
      (refine CallK.use (rget_sound tb b j _ q2) ?_; rintro _ _ ⟨rfl, k2, rfl⟩)
      ((have hd := trivial; repeat' (first | ((first | apply GdK_st | apply GdK_sf | apply CondK_s) <;> intro hd <;> (try simp only [hd])) | simp (disch := first | assumption | omega | (simp only [nx] <;> omega) | fail) only [hd, hQr, hQn, c72_0, ↓YA, YB, YC, YE, YF, YZ, ↓reduceIte, Nat.reduceEqDiff, Nat.reduceAdd, Nat.reduceMul, Nat.reduceLeDiff, Int.reduceToNat, Int.reduceLE, Int.reduceLT, Int.reduceGT, Int.reduceGE, Int.reduceAdd, Int.reduceSub, Int.reduceNeg, Int.reduceBEq, Int.reduceBNe, f1, f2, f4, f5, f6, f7, f10, f14, g7, g10, g14, e0, e14, e15, ed, r1, q1, hmx, hD, List.length_map])) <;> (try (have hd_ : True := hd; clear hd_ hd)))
      have hDn : x.sizes.getD D [] = x.sizes[D] := by rw [List.getD_eq_getElem?_getD, List.getElem?_eq_getElem hD]; rfl
      obtain ⟨T, hT⟩ : ∃ T : Nat, x.sizes[D].length = T := ⟨_, rfl⟩
      have hT4 : T ≤ 4 := by rw [← hT]; exact ha.k.w.bounds.2.2 _ (List.getElem_mem hD)
      have hlm := lists_max ha hb h1 h2 h3
      rw [hDn, hT] at hlm
      obtain ⟨b1, b2, b3, b4⟩ := getP_lists ha h1
      obtain ⟨c1, c2, c3, c4⟩ := getP_lists hb h2
      have hR : nodeF x a b most f s (i, j) = nodeT x most D (i, j) (mCel x f D (mTiers x f D s (mKeysOf (getP a i) (getP b j) T)).1 0 (mAll (getP a i) i) (mAll (getP b j) j)) (mTiers x f D s (mKeysOf (getP a i) (getP b j) T)).2 := by
        unfold nodeF nodeT
        rw [e]
        simp only [hmx2, hlm]
        exact if_neg (by simp [he])
      rw [hR] at hQr hQn
      have hkd := keys_doc ha hb h1 h2
      have hpk : ∀ t n key p q, (key, p, q) ∈ mKeys n ((getP a i).lists.getD t []) ((getP b j).lists.getD t []) → lastB x (D : Int) = false → At a (D + 1) p.child ∧ At b (D + 1) q.child ∧ ¬(p.child = -1 ∧ q.child = -1) := fun t n key p q h hl => keys_at ha hb h1 h2 hl h
      have hp1 : ∀ t key, lastB x (D : Int) = false → At a (D + 1) (ofC ((getP a i).lists.getD t []) key).child := fun t key hl => by
        rcases ofC_mem ((getP a i).lists.getD t []) key with h | h
        · rw [h]; exact .inl rfl
        · exact (at_list ha h1 hl h).1
      have hp2 : ∀ t key, lastB x (D : Int) = false → At b (D + 1) (ofC ((getP b j).lists.getD t []) key).child := fun t key hl => by
        rcases ofC_mem ((getP b j).lists.getD t []) key with h | h
        · rw [h]; exact .inl rfl
        · exact (at_list hb h2 hl h).1
      have nAg : AgIn noC.agg := ⟨by decide, by decide, by decide, by decide⟩
      have hg1 : ∀ t key, AgIn (ofC ((getP a i).lists.getD t []) key).agg := fun t key => by
        rcases ofC_mem ((getP a i).lists.getD t []) key with h | h
        · rw [h]; exact nAg
        · exact (b3 t _ h).1
      have hg2 : ∀ t key, AgIn (ofC ((getP b j).lists.getD t []) key).agg := fun t key => by
        rcases ofC_mem ((getP b j).lists.getD t []) key with h | h
        · rw [h]; exact nAg
        · exact (c3 t _ h).1
      have hal1 := fun h => all_at1 ha h1 h
      have hal2 := fun h => all_at1 hb h2 h
      have hag1 : AgIn (mAll (getP a i) i).agg := by unfold mAll; split; exact nAg; exact b4
      have hag2 : AgIn (mAll (getP b j) j).agg := by unfold mAll; split; exact nAg; exact c4
      have hC : ∀ (t u : Tok) s' key p q G, MOk a b most s' → AgIn p.agg → AgIn q.agg → (lastB x (D : Int) = false → At a (D + 1) p.child ∧ At b (D + 1) q.child ∧ ¬(p.child = -1 ∧ q.child = -1)) →
          Sound Try.prog 98 [.agg [.sl tx (rII x.sizes), .i x.measures], .sl ta (rN a), .sl tb (rN b), .agg (eCube t u s'), .i most, .i D, .i key, .agg (eCel p), .agg (eCel q)] G (fun r G' => AHeap.Ext G G' ∧ ∃ t' u' c, r = .tup [.agg (eCube t' u' (mCel x f D s' key p q).1), .agg (eCel c)] ∧ ((mCel x f D s' key p q).1.e = 0 → c = (mCel x f D s' key p q).2)) ∧ MOk a b most (mCel x f D s' key p q).1 := fun t u s' key p q G hok hp hq hl =>
        ⟨r30cell_sound t u G (by omega) (by have := ha.k.w.bounds.2.1; omega) (fun hb he => (hf hb s' _ he hok (hl hb).1 (hl hb).2.1 (hl hb).2.2).1) hp hq,
         mCel_rel (R := fun s t => MOk a b most s → MOk a b most t) (fun _ h => h) (fun _ e h => h.err e) (fun hb he hok => (hf hb s' _ he hok (hl hb).1 (hl hb).2.1 (hl hb).2.2).2) hok⟩
      generalize hX : getP a i = X at *
      generalize hY : getP b j = Y at *
      generalize hKS : mKeysOf X Y T = KS at *
      have hKl : KS.length = T := by rw [← hKS]; simp [mKeysOf]
      have hKg : ∀ k (h : k < KS.length), KS[k] = rKeys (ofC (X.lists.getD k [])) (ofC (Y.lists.getD k [])) ((x.sizes[D].getD k 0).toNat) 0 := fun k h => by
        subst hKS
        have := hkd k
        rw [hDn] at this
        simp only [mKeysOf, List.getElem_map, List.getElem_range]
        exact this
      have hx17 : AHeap.Ext H (((((S.bump k1).alloc (.cells (eNod .no X) 45)).bump k2).alloc (.cells (eNod .no Y) 45)).alloc (.cells [.i D, .sl .full [], .i 0, .i 0, .i 0, .i 0, .i 0, .i 0, .i 0, .i 0, .i 0, .i 0, .i 0, .i 0] 45)) := by exact AXT
      have hxS17 : AHeap.Ext S (((((S.bump k1).alloc (.cells (eNod .no X) 45)).bump k2).alloc (.cells (eNod .no Y) 45)).alloc (.cells [.i D, .sl .full [], .i 0, .i 0, .i 0, .i 0, .i 0, .i 0, .i 0, .i 0, .i 0, .i 0, .i 0, .i 0] 45)) := by exact AXT
      have g17 : (((((S.bump k1).alloc (.cells (eNod .no X) 45)).bump k2).alloc (.cells (eNod .no Y) 45)).alloc (.cells [.i D, .sl .full [], .i 0, .i 0, .i 0, .i 0, .i 0, .i 0, .i 0, .i 0, .i 0, .i 0, .i 0, .i 0] 45)).get (S.next + k1) = some (.cells (eNod .no X) 45) := by
        rw [AHeap.get_alloc_ne (by simp only [nx]; omega), AHeap.get_alloc_ne (by simp only [nx]; omega), AHeap.get_bump]; exact AHeap.get_alloc_self (H := S.bump k1)
      have g18 : (((((S.bump k1).alloc (.cells (eNod .no X) 45)).bump k2).alloc (.cells (eNod .no Y) 45)).alloc (.cells [.i D, .sl .full [], .i 0, .i 0, .i 0, .i 0, .i 0, .i 0, .i 0, .i 0, .i 0, .i 0, .i 0, .i 0] 45)).get (S.next + k1 + 1 + k2) = some (.cells (eNod .no Y) 45) := by
        rw [AHeap.get_alloc_ne (by simp only [nx]; omega)]; exact AHeap.get_alloc_self (H := (AHeap.alloc _ _).bump k2)
      have g19 : (((((S.bump k1).alloc (.cells (eNod .no X) 45)).bump k2).alloc (.cells (eNod .no Y) 45)).alloc (.cells [.i D, .sl .full [], .i 0, .i 0, .i 0, .i 0, .i 0, .i 0, .i 0, .i 0, .i 0, .i 0, .i 0, .i 0] 45)).get (S.next + k1 + 1 + k2 + 1) = some (.cells (eNodT .full D [] cel0) 45) := AHeap.get_alloc_self (H := AHeap.alloc _ _)
      have g71 := hxS17.get _ _ g7
      have g101 := hxS17.get _ _ g10
      have g141 := hxS17.get _ _ g14
      generalize (((((S.bump k1).alloc (.cells (eNod .no X) 45)).bump k2).alloc (.cells (eNod .no Y) 45)).alloc (.cells [.i D, .sl .full [], .i 0, .i 0, .i 0, .i 0, .i 0, .i 0, .i 0, .i 0, .i 0, .i 0, .i 0, .i 0] 45)) = G1 at *
      have l19 := AHeap.lt g19
      generalize hi17 : S.next + k1 = i17 at *
      generalize hi18 : i17 + 1 + k2 = i18 at *
      generalize hi19 : i18 + 1 = i19 at *
      refine AW_forI (N := T) (fun k F S2 => Fr.get F 88 = .i (k : Int) ∧ Fr.get F 87 = .i (T : Int) ∧ Fr.get F 1 = .sl ta (rN a) ∧ Fr.get F 2 = .sl tb (rN b) ∧ Fr.get F 4 = .i most ∧ Fr.get F 5 = .i i ∧ Fr.get F 6 = .i j ∧ Fr.get F 7 = .ptr H.next 0 ∧ Fr.get F 10 = .ptr (H.next + 1) 0 ∧ Fr.get F 14 = .ptr (H.next + 1 + 1) 0 ∧ Fr.get F 17 = .ptr i17 0 ∧ Fr.get F 18 = .ptr i18 0 ∧ Fr.get F 19 = .ptr i19 0 ∧
        ∃ s' ts, VisI H.next (H.next + 1) (H.next + 1 + 1) i17 i18 i19 G1.next x tx X Y D s' ts H S2 ∧ MOk a b most s' ∧ ts.length = k ∧ (mTiers x f D s KS).1 = (mTiers x f D s' (KS.drop k)).1 ∧ ((mTiers x f D s KS).1.e = 0 → (mTiers x f D s KS).2 = ts.map (·.2) ++ (mTiers x f D s' (KS.drop k)).2)) (by unfold maxLen; omega) (fun k F G h => ⟨h.1, h.2.1⟩)
        ((GStep.fr (F' := [(88, .i ((0 : Nat) : Int)), (87, .i (T : Int)), (1, .sl ta (rN a)), (2, .sl tb (rN b)), (4, .i most), (5, .i i), (6, .i j), (7, .ptr H.next 0), (10, .ptr (H.next + 1) 0), (14, .ptr (H.next + 1 + 1) 0), (17, .ptr i17 0), (18, .ptr i18 0), (19, .ptr i19 0)]) (by simp [Fr.get, Fr.put, f1, f2, f4, f5, f6, f7, f10, f14, hT])).trans (GStep.tokCell i19 1 45 83 1 g19 rfl)) ?_ ?_ ?_
      · refine ⟨rfl, rfl, rfl, rfl, rfl, rfl, rfl, rfl, rfl, rfl, rfl, rfl, rfl, s, [], ⟨(hx17.set (by omega)).alloc, ?_, ⟨t, u, ?_⟩, ?_, ?_, ?_, ?_, AHeap.get_alloc_self (H := G1.set _ _), Nat.le_refl _, by omega, by omega, by omega, by omega, by omega, by omega⟩, ok, rfl, rfl, fun _ => rfl⟩
        · rw [AHeap.get_alloc_ne (by simp only [nx]; omega), AHeap.get_set_ne (by omega)]; exact g71
        · rw [AHeap.get_alloc_ne (by simp only [nx]; omega), AHeap.get_set_ne (by omega)]; exact g101
        · rw [AHeap.get_alloc_ne (by simp only [nx]; omega), AHeap.get_set_ne (by omega)]; exact g141
        · rw [AHeap.get_alloc_ne (by simp only [nx]; omega), AHeap.get_set_ne (by omega)]; exact g17
        · rw [AHeap.get_alloc_ne (by simp only [nx]; omega), AHeap.get_set_ne (by omega)]; exact g18
        · rw [AHeap.get_alloc_ne (by simp only [nx]; omega), AHeap.get_set_self l19]; rfl
      · rintro k F2 S2 hk ⟨f88, f87, f1, f2, f4, f5, f6, f7, f10, f14, f17, f18, f19, s', ts, hV, ok', hts, hr1, hr2⟩
        have hkK : k < KS.length := by omega
        ((have hd := trivial; repeat' (first | ((first | apply GdK_st | apply GdK_sf | apply CondK_s) <;> intro hd <;> (try simp only [hd])) | simp (disch := first | assumption | omega | (simp only [nx] <;> omega) | fail) only [hd, hQr, hQn, c72_0, ↓YA, YB, YC, YE, YF, YZ, ↓reduceIte, Nat.reduceEqDiff, Nat.reduceAdd, Nat.reduceMul, Nat.reduceLeDiff, Int.reduceToNat, Int.reduceLE, Int.reduceLT, Int.reduceGT, Int.reduceGE, Int.reduceAdd, Int.reduceSub, Int.reduceNeg, Int.reduceBEq, Int.reduceBNe, f88, f87, f1, f2, f4, f5, f6, f7, f10, f14, f17, f18, f19])) <;> (try (have hd_ : True := hd; clear hd_ hd)))
        have hkT : k < x.sizes[D].length := by omega
        have hgd : x.sizes[D].getD k 0 = x.sizes[D][k] := by rw [List.getD_eq_getElem?_getD, List.getElem?_eq_getElem hkT]; rfl
        have ls2 := AHeap.lt hV.gt
        have o3 := hV.o3
        have o4 := hV.o4
        have o5 := hV.o5
        have o6 := hV.o6
        have o7 := hV.o7
        obtain ⟨cnt, hcnt⟩ : ∃ cnt : Nat, x.sizes[D][k] = cnt := by
          have := getD_size ha D k
          rw [hDn, hgd] at this
          exact ⟨x.sizes[D][k].toNat, by omega⟩
        have hcl : cnt ≤ 200 := by
          have := getD_size ha D k
          rw [hDn, hgd] at this
          omega
        have hKk : KS[k] = rKeys (ofC (X.lists.getD k [])) (ofC (Y.lists.getD k [])) cnt 0 := by rw [hKg k hkK, hgd, hcnt]; rfl
        unfold c72_3
        rw [AW_blk]
        refine AW_loopI (fun n F3 S3 => ∃ key s2 out, n = cnt - key ∧ key ≤ cnt ∧ Fr.get F3 22 = .i (key : Nat) ∧ Fr.get F3 21 = .sl (.own S2.next) (rC out) ∧ S3.get S2.next = some (.tok out.length 43 12) ∧ out.length ≤ key ∧ Fr.get F3 88 = .i (k : Int) ∧ Fr.get F3 87 = .i (T : Int) ∧ Fr.get F3 1 = .sl ta (rN a) ∧ Fr.get F3 2 = .sl tb (rN b) ∧ Fr.get F3 4 = .i most ∧ Fr.get F3 5 = .i i ∧ Fr.get F3 6 = .i j ∧ Fr.get F3 7 = .ptr H.next 0 ∧ Fr.get F3 10 = .ptr (H.next + 1) 0 ∧ Fr.get F3 14 = .ptr (H.next + 1 + 1) 0 ∧ Fr.get F3 17 = .ptr i17 0 ∧ Fr.get F3 18 = .ptr i18 0 ∧ Fr.get F3 19 = .ptr i19 0 ∧ Fr.get F3 20 = .i (k : Int) ∧
          VisI H.next (H.next + 1) (H.next + 1 + 1) i17 i18 i19 G1.next x tx X Y D s2 ts H S3 ∧ MOk a b most s2 ∧ (mList x f D s' KS[k]).1 = (mList x f D s2 (rKeys (ofC (X.lists.getD k [])) (ofC (Y.lists.getD k [])) (cnt - key) key)).1 ∧ ((mList x f D s' KS[k]).1.e = 0 → (mList x f D s' KS[k]).2 = out ++ (mList x f D s2 (rKeys (ofC (X.lists.getD k [])) (ofC (Y.lists.getD k [])) (cnt - key) key)).2)) (cnt - 0) (GStep.tok 21 43 12 rfl)
          ⟨0, s', [], rfl, Nat.zero_le _, rfl, rfl, AHeap.get_alloc_self, Nat.le_refl _, f88, f87, f1, f2, f4, f5, f6, f7, f10, f14, f17, f18, f19, rfl, hV.mono (AHeap.Ext.refl S2).alloc, ok', by rw [hKk]; rfl, fun _ => by rw [hKk]; rfl⟩ ?_
        rintro n F3 S3 ⟨key, s2, out, rfl, hkc, f22, f21, gtc, hol, f88, f87, f1, f2, f4, f5, f6, f7, f10, f14, f17, f18, f19, f20, hV3, ok3, hs1, hs2⟩
        obtain ⟨t3, u3, g10⟩ := hV3.g10
        have g7 := hV3.g7
        have g17 := hV3.g17
        have g18 := hV3.g18
        have g19 := hV3.g19
        have g20 := hV3.gt
        have l10 := AHeap.lt g10
        have l19 := AHeap.lt g19
        have l20 := AHeap.lt g20
        have lc := AHeap.lt gtc
        unfold eNodT at g19
        by_cases hlt : key < cnt
        · have d1 : decide ((key : Int) < (cnt : Int)) = true := by simp; omega
          have hx0 := b2 k
          have hy0 := c2 k
          ((have hd := trivial; repeat' (first | ((first | apply GdK_st | apply GdK_sf | apply CondK_s) <;> intro hd <;> (try simp only [hd])) | simp (disch := first | assumption | omega | (simp only [nx] <;> omega) | fail) only [hd, hQr, hQn, c72_0, ↓YA, YB, YC, YE, YF, YZ, ↓reduceIte, Nat.reduceEqDiff, Nat.reduceAdd, Nat.reduceMul, Nat.reduceLeDiff, Int.reduceToNat, Int.reduceLE, Int.reduceLT, Int.reduceGT, Int.reduceGE, Int.reduceAdd, Int.reduceSub, Int.reduceNeg, Int.reduceBEq, Int.reduceBNe, f22, f21, f88, f87, f1, f2, f4, f5, f6, f7, f10, f14, f17, f18, f19, f20, g7, g10, g17, g18, g19, e0, e14, e15, ed, List.length_map, hcnt, d1])) <;> (try (have hd_ : True := hd; clear hd_ hd)))
          (refine CallK.use (rlist_sound .no X k _ (by omega)) ?_; rintro _ _ ⟨rfl, k3, rfl⟩)
          ((have hd := trivial; repeat' (first | ((first | apply GdK_st | apply GdK_sf | apply CondK_s) <;> intro hd <;> (try simp only [hd])) | simp (disch := first | assumption | omega | (simp only [nx] <;> omega) | fail) only [hd, hQr, hQn, c72_0, ↓YA, YB, YC, YE, YF, YZ, ↓reduceIte, Nat.reduceEqDiff, Nat.reduceAdd, Nat.reduceMul, Nat.reduceLeDiff, Int.reduceToNat, Int.reduceLE, Int.reduceLT, Int.reduceGT, Int.reduceGE, Int.reduceAdd, Int.reduceSub, Int.reduceNeg, Int.reduceBEq, Int.reduceBNe, f22, f21, f88, f87, f1, f2, f4, f5, f6, f7, f10, f14, f17, f18, f19, f20, g7, g10, g17, g18, g19, e0, e14, e15, ed])) <;> (try (have hd_ : True := hd; clear hd_ hd)))
          (refine CallK.use (rof_sound .no (X.lists.getD k []) key _ (by omega)) ?_; rintro _ _ ⟨rfl, k4, rfl⟩)
          ((have hd := trivial; repeat' (first | ((first | apply GdK_st | apply GdK_sf | apply CondK_s) <;> intro hd <;> (try simp only [hd])) | simp (disch := first | assumption | omega | (simp only [nx] <;> omega) | fail) only [hd, hQr, hQn, c72_0, ↓YA, YB, YC, YE, YF, YZ, ↓reduceIte, Nat.reduceEqDiff, Nat.reduceAdd, Nat.reduceMul, Nat.reduceLeDiff, Int.reduceToNat, Int.reduceLE, Int.reduceLT, Int.reduceGT, Int.reduceGE, Int.reduceAdd, Int.reduceSub, Int.reduceNeg, Int.reduceBEq, Int.reduceBNe, f22, f21, f88, f87, f1, f2, f4, f5, f6, f7, f10, f14, f17, f18, f19, f20, g7, g10, g17, g18, g19, e0, e14, e15, ed])) <;> (try (have hd_ : True := hd; clear hd_ hd)))
          (refine CallK.use (rlist_sound .no Y k _ (by omega)) ?_; rintro _ _ ⟨rfl, k5, rfl⟩)
          ((have hd := trivial; repeat' (first | ((first | apply GdK_st | apply GdK_sf | apply CondK_s) <;> intro hd <;> (try simp only [hd])) | simp (disch := first | assumption | omega | (simp only [nx] <;> omega) | fail) only [hd, hQr, hQn, c72_0, ↓YA, YB, YC, YE, YF, YZ, ↓reduceIte, Nat.reduceEqDiff, Nat.reduceAdd, Nat.reduceMul, Nat.reduceLeDiff, Int.reduceToNat, Int.reduceLE, Int.reduceLT, Int.reduceGT, Int.reduceGE, Int.reduceAdd, Int.reduceSub, Int.reduceNeg, Int.reduceBEq, Int.reduceBNe, f22, f21, f88, f87, f1, f2, f4, f5, f6, f7, f10, f14, f17, f18, f19, f20, g7, g10, g17, g18, g19, e0, e14, e15, ed])) <;> (try (have hd_ : True := hd; clear hd_ hd)))
          (refine CallK.use (rof_sound .no (Y.lists.getD k []) key _ (by omega)) ?_; rintro _ _ ⟨rfl, k6, rfl⟩)
          have c3' : ∀ c, (eCel c).length = 12 := fun _ => rfl
          have c4' : ∀ c, (eCel c).take 12 = eCel c := fun _ => rfl
          have c5' : ∀ c, (eCel c).drop 12 = [] := fun _ => rfl
          have c1' : ∀ c, (eCel c)[1]? = some (.i c.child) := fun _ => rfl
          have hx34 : AHeap.Ext S3 ((((((S3.bump k3).bump k4).alloc (.cells (eCel (ofC (X.lists.getD k []) key)) 43)).bump k5).bump k6).alloc (.cells (eCel (ofC (Y.lists.getD k []) key)) 43)) := by exact AXT
          have hkk : cnt - key = (cnt - (key + 1)) + 1 := by omega
          rw [hkk] at hs1 hs2
          have hCk : ∀ G, (0 ≤ (ofC (X.lists.getD k []) key).child ∨ 0 ≤ (ofC (Y.lists.getD k []) key).child) → _ := fun G hne => hC t3 u3 s2 key (ofC (X.lists.getD k []) key) (ofC (Y.lists.getD k []) key) G ok3 (hg1 k key) (hg2 k key) (fun hl => ⟨hp1 k key hl, hp2 k key hl, fun h => by omega⟩)
          by_cases hy : 0 ≤ (ofC (X.lists.getD k []) key).child
          · have dy : decide ((ofC (X.lists.getD k []) key).child ≥ 0) = true := decide_eq_true hy
            have hCk := fun G => hCk G (.inl hy)
            have hrk : rKeys (ofC (X.lists.getD k [])) (ofC (Y.lists.getD k [])) ((cnt - (key + 1)) + 1) key = ((key : Int), ofC (X.lists.getD k []) key, ofC (Y.lists.getD k []) key) :: rKeys (ofC (X.lists.getD k [])) (ofC (Y.lists.getD k [])) (cnt - (key + 1)) ((key + 1 : Nat) : Int) := if_pos (.inl hy)
            rw [hrk] at hs1 hs2
            ((have hd := trivial; repeat' (first | ((first | apply GdK_st | apply GdK_sf | apply CondK_s) <;> intro hd <;> (try simp only [hd])) | simp (disch := first | assumption | omega | (simp only [nx] <;> omega) | fail) only [hd, hQr, hQn, c72_0, ↓YA, YB, YC, YE, YF, YZ, ↓reduceIte, Nat.reduceEqDiff, Nat.reduceAdd, Nat.reduceMul, Nat.reduceLeDiff, Int.reduceToNat, Int.reduceLE, Int.reduceLT, Int.reduceGT, Int.reduceGE, Int.reduceAdd, Int.reduceSub, Int.reduceNeg, Int.reduceBEq, Int.reduceBNe, f22, f21, f88, f87, f1, f2, f4, f5, f6, f7, f10, f14, f17, f18, f19, f20, g7, g10, g17, g18, g19, e0, e14, e15, ed, c1', c3', c4', c5', dy, e3, e4, e6])) <;> (try (have hd_ : True := hd; clear hd_ hd)))
            refine CallK.use (hCk _).1 ?_
            rintro r S5 ⟨hx5, t5, u5, c, rfl, hc⟩
            have hx35 := hx34.trans hx5
            have hV5 := hV3.mono hx35
            have gtc5 := hx35.get _ _ gtc
            obtain ⟨t6, u6, g105⟩ := hV5.g10
            have l105 := AHeap.lt g105
            have lc5 := AHeap.lt gtc5
            have la : allLen 12 (rC out) = true := allLen_rC _
            have lb : allLen 12 [eCel c] = true := rfl
            have hn1 : out.length + 1 ≤ maxLen := by unfold maxLen; omega
            have hn2 : (out.length + 1) * 96 ≤ 140737488355328 := by omega
            have w1 : IntKind.i64.wrap ((key : Int) + 1) = (key : Int) + 1 := wrap_of (by omega) (by omega)
            ((have hd := trivial; repeat' (first | ((first | apply GdK_st | apply GdK_sf | apply CondK_s) <;> intro hd <;> (try simp only [hd])) | simp (disch := first | assumption | omega | (simp only [nx] <;> omega) | fail) only [hd, hQr, hQn, c72_0, ↓YA, YB, YC, YE, YF, YZ, ↓reduceIte, Nat.reduceEqDiff, Nat.reduceAdd, Nat.reduceMul, Nat.reduceLeDiff, Int.reduceToNat, Int.reduceLE, Int.reduceLT, Int.reduceGT, Int.reduceGE, Int.reduceAdd, Int.reduceSub, Int.reduceNeg, Int.reduceBEq, Int.reduceBNe, f22, f21, f88, f87, f1, f2, f4, f5, f6, f7, f10, f14, f17, f18, f19, f20, e3, e4, e6, c3', c4', c5', g105, gtc5, la, lb, hn1, hn2, List.length_map, w1])) <;> (try (have hd_ : True := hd; clear hd_ hd)))
            have l5g := AHeap.lt hV5.gt
            have hz5 : (mList x f D s' KS[k]).1.e = 0 → (mCel x f D s2 key (ofC (X.lists.getD k []) key) (ofC (Y.lists.getD k []) key)).1.e = 0 := fun h => by
              refine Classical.byContradiction fun h3 => h3 ?_
              have := mList_err (x := x) (f := f) (d := (D : Int)) (r := rKeys (ofC (X.lists.getD k [])) (ofC (Y.lists.getD k [])) (cnt - (key + 1)) ((key + 1 : Nat) : Int)) h3
              rw [hs1] at h
              rw [← this]; exact h
            exact ⟨cnt - (key + 1), by omega, key + 1, (mCel x f D s2 key (ofC (X.lists.getD k []) key) (ofC (Y.lists.getD k []) key)).1, out ++ [c], rfl, by omega, rfl, by simp [rC], by simp, by simp; omega,
              ((((hV5.mono ((AHeap.Ext.refl S5).alloc.alloc)).set l5g _).set (by omega) _).cube t5 u5 _).set ls2 _, (hCk S3).2, hs1, fun h => by rw [hs2 h, hc (hz5 h), List.append_assoc]; rfl⟩
          · have dy : decide ((ofC (X.lists.getD k []) key).child ≥ 0) = false := decide_eq_false hy
            by_cases hz : 0 ≤ (ofC (Y.lists.getD k []) key).child
            · have dz : decide ((ofC (Y.lists.getD k []) key).child ≥ 0) = true := decide_eq_true hz
              have hCk := fun G => hCk G (.inr hz)
              have hrk : rKeys (ofC (X.lists.getD k [])) (ofC (Y.lists.getD k [])) ((cnt - (key + 1)) + 1) key = ((key : Int), ofC (X.lists.getD k []) key, ofC (Y.lists.getD k []) key) :: rKeys (ofC (X.lists.getD k [])) (ofC (Y.lists.getD k [])) (cnt - (key + 1)) ((key + 1 : Nat) : Int) := if_pos (.inr hz)
              rw [hrk] at hs1 hs2
              ((have hd := trivial; repeat' (first | ((first | apply GdK_st | apply GdK_sf | apply CondK_s) <;> intro hd <;> (try simp only [hd])) | simp (disch := first | assumption | omega | (simp only [nx] <;> omega) | fail) only [hd, hQr, hQn, c72_0, ↓YA, YB, YC, YE, YF, YZ, ↓reduceIte, Nat.reduceEqDiff, Nat.reduceAdd, Nat.reduceMul, Nat.reduceLeDiff, Int.reduceToNat, Int.reduceLE, Int.reduceLT, Int.reduceGT, Int.reduceGE, Int.reduceAdd, Int.reduceSub, Int.reduceNeg, Int.reduceBEq, Int.reduceBNe, f22, f21, f88, f87, f1, f2, f4, f5, f6, f7, f10, f14, f17, f18, f19, f20, g7, g10, g17, g18, g19, e0, e14, e15, ed, c1', c3', c4', c5', dy, dz, e3, e4, e6])) <;> (try (have hd_ : True := hd; clear hd_ hd)))
              refine CallK.use (hCk _).1 ?_
              rintro r S5 ⟨hx5, t5, u5, c, rfl, hc⟩
              have hx35 := hx34.trans hx5
              have hV5 := hV3.mono hx35
              have gtc5 := hx35.get _ _ gtc
              obtain ⟨t6, u6, g105⟩ := hV5.g10
              have l105 := AHeap.lt g105
              have lc5 := AHeap.lt gtc5
              have la : allLen 12 (rC out) = true := allLen_rC _
              have lb : allLen 12 [eCel c] = true := rfl
              have hn1 : out.length + 1 ≤ maxLen := by unfold maxLen; omega
              have hn2 : (out.length + 1) * 96 ≤ 140737488355328 := by omega
              have w1 : IntKind.i64.wrap ((key : Int) + 1) = (key : Int) + 1 := wrap_of (by omega) (by omega)
              ((have hd := trivial; repeat' (first | ((first | apply GdK_st | apply GdK_sf | apply CondK_s) <;> intro hd <;> (try simp only [hd])) | simp (disch := first | assumption | omega | (simp only [nx] <;> omega) | fail) only [hd, hQr, hQn, c72_0, ↓YA, YB, YC, YE, YF, YZ, ↓reduceIte, Nat.reduceEqDiff, Nat.reduceAdd, Nat.reduceMul, Nat.reduceLeDiff, Int.reduceToNat, Int.reduceLE, Int.reduceLT, Int.reduceGT, Int.reduceGE, Int.reduceAdd, Int.reduceSub, Int.reduceNeg, Int.reduceBEq, Int.reduceBNe, f22, f21, f88, f87, f1, f2, f4, f5, f6, f7, f10, f14, f17, f18, f19, f20, e3, e4, e6, c3', c4', c5', g105, gtc5, la, lb, hn1, hn2, List.length_map, w1])) <;> (try (have hd_ : True := hd; clear hd_ hd)))
              have l5g := AHeap.lt hV5.gt
              have hz5 : (mList x f D s' KS[k]).1.e = 0 → (mCel x f D s2 key (ofC (X.lists.getD k []) key) (ofC (Y.lists.getD k []) key)).1.e = 0 := fun h => by
                refine Classical.byContradiction fun h3 => h3 ?_
                have := mList_err (x := x) (f := f) (d := (D : Int)) (r := rKeys (ofC (X.lists.getD k [])) (ofC (Y.lists.getD k [])) (cnt - (key + 1)) ((key + 1 : Nat) : Int)) h3
                rw [hs1] at h
                rw [← this]; exact h
              exact ⟨cnt - (key + 1), by omega, key + 1, (mCel x f D s2 key (ofC (X.lists.getD k []) key) (ofC (Y.lists.getD k []) key)).1, out ++ [c], rfl, by omega, rfl, by simp [rC], by simp, by simp; omega,
                ((((hV5.mono ((AHeap.Ext.refl S5).alloc.alloc)).set l5g _).set (by omega) _).cube t5 u5 _).set ls2 _, (hCk S3).2, hs1, fun h => by rw [hs2 h, hc (hz5 h), List.append_assoc]; rfl⟩
            · have dz : decide ((ofC (Y.lists.getD k []) key).child ≥ 0) = false := decide_eq_false hz
              have hrk : rKeys (ofC (X.lists.getD k [])) (ofC (Y.lists.getD k [])) ((cnt - (key + 1)) + 1) key = rKeys (ofC (X.lists.getD k [])) (ofC (Y.lists.getD k [])) (cnt - (key + 1)) ((key + 1 : Nat) : Int) := if_neg (fun h => h.elim hy hz)
              rw [hrk] at hs1 hs2
              have w1 : IntKind.i64.wrap ((key : Int) + 1) = (key : Int) + 1 := wrap_of (by omega) (by omega)
              ((have hd := trivial; repeat' (first | ((first | apply GdK_st | apply GdK_sf | apply CondK_s) <;> intro hd <;> (try simp only [hd])) | simp (disch := first | assumption | omega | (simp only [nx] <;> omega) | fail) only [hd, hQr, hQn, c72_0, ↓YA, YB, YC, YE, YF, YZ, ↓reduceIte, Nat.reduceEqDiff, Nat.reduceAdd, Nat.reduceMul, Nat.reduceLeDiff, Int.reduceToNat, Int.reduceLE, Int.reduceLT, Int.reduceGT, Int.reduceGE, Int.reduceAdd, Int.reduceSub, Int.reduceNeg, Int.reduceBEq, Int.reduceBNe, f22, f21, f88, f87, f1, f2, f4, f5, f6, f7, f10, f14, f17, f18, f19, f20, g7, g10, g17, g18, g19, e0, e14, e15, ed, c1', c3', c4', c5', dy, dz, e3, e4, e6, w1])) <;> (try (have hd_ : True := hd; clear hd_ hd)))
              exact ⟨cnt - (key + 1), by omega, key + 1, s2, out, rfl, by omega, rfl, rfl, gtc, by omega, hV3.mono hx34, ok3, hs1, hs2⟩
        · have d1 : decide ((key : Int) < (cnt : Int)) = false := by simp; omega
          have hk0 : cnt - key = 0 := by omega
          rw [hk0] at hs1 hs2
          have hs1 : (mList x f D s' KS[k]).1 = s2 := hs1
          have hl : (mList x f D s' KS[k]).1.e = 0 → out = (mList x f D s' KS[k]).2 := fun h => ((hs2 h).trans (List.append_nil _)).symm
          obtain ⟨w1, w2⟩ := mTiers_step hkK hr1 hr2 hl
          have la1 : allLen 1 (rLt ts) = true := allLen_map (f := fun p : Tok × List Cel => [AV.sl p.1 (rC p.2)]) (fun _ => rfl) ts
          have la2 : allLen 1 [[AV.sl (Tok.own S2.next) (rC out)]] = true := rfl
          have lm1 : ts.length + 1 ≤ maxLen := by unfold maxLen; omega
          have lm2 : (ts.length + 1) * 24 ≤ 140737488355328 := by omega
          ((have hd := trivial; repeat' (first | ((first | apply GdK_st | apply GdK_sf | apply CondK_s) <;> intro hd <;> (try simp only [hd])) | simp (disch := first | assumption | omega | (simp only [nx] <;> omega) | fail) only [hd, hQr, hQn, c72_0, ↓YA, YB, YC, YE, YF, YZ, ↓reduceIte, Nat.reduceEqDiff, Nat.reduceAdd, Nat.reduceMul, Nat.reduceLeDiff, Int.reduceToNat, Int.reduceLE, Int.reduceLT, Int.reduceGT, Int.reduceGE, Int.reduceAdd, Int.reduceSub, Int.reduceNeg, Int.reduceBEq, Int.reduceBNe, f22, f21, f88, f87, f1, f2, f4, f5, f6, f7, f10, f14, f17, f18, f19, f20, g7, g10, g17, g18, g19, e0, e14, e15, ed, List.length_map, hcnt, d1, la1, la2, lm1, lm2, g20])) <;> (try (have hd_ : True := hd; clear hd_ hd)))
          rw [hs1] at w1 w2
          exact ⟨s2, ts ++ [(.own S2.next, out)], hV3.list _ _, ok3, by simp [hts], w1, fun h => by rw [w2 h]; simp⟩
      · rintro F2 S2 ⟨f88, f87, f1, f2, f4, f5, f6, f7, f10, f14, f17, f18, f19, s', ts, hV, ok', hts, hr1, hr2⟩
        have hKd : KS.drop T = [] := List.drop_eq_nil_iff.2 (by omega)
        rw [hKd] at hr1 hr2
        have hr1 : (mTiers x f D s KS).1 = s' := hr1
        have hr2 : s'.e = 0 → (mTiers x f D s KS).2 = ts.map (·.2) := fun h => (hr2 (by rw [hr1]; exact h)).trans (List.append_nil _)
        rw [hr1] at hQr
        obtain ⟨t3, u3, g10⟩ := hV.g10
        have g7 := hV.g7
        have g14 := hV.g14
        have g17 := hV.g17
        have g18 := hV.g18
        have g19 := hV.g19
        have l7 := AHeap.lt g7
        have l10 := AHeap.lt g10
        have l14 := AHeap.lt g14
        have l17 := AHeap.lt g17
        have l18 := AHeap.lt g18
        have l19' := AHeap.lt g19
        have o2 := hV.o2
        have o3 := hV.o3
        have o4 := hV.o4
        have o5 := hV.o5
        have o6 := hV.o6
        have o7 := hV.o7
        unfold eNodT at g19
        have hz : ∀ t n, ((eNod t n).drop 2).take 12 = eCel n.all := fun _ _ => rfl
        have y3 : ∀ c, (eCel c).length = 12 := fun _ => rfl
        have y4 : ∀ c, (eCel c).take 12 = eCel c := fun _ => rfl
        have y5 : ∀ c, (eCel c).drop 12 = [] := fun _ => rfl
        have hPi : ∀ {l : List Nod} {i : Int}, i = -1 → ((eCel (getP l i).all).take 1 ++ [AV.i (-1)] ++ (eCel (getP l i).all).drop 2 = eCel (mAll (getP l i) i)) := fun {l i} h => by subst h; rw [getP_none]; rfl
        have hPn : ∀ (n : Nod) {i : Int}, i ≠ -1 → n.all = mAll n i := fun n i h => (if_neg h).symm
        obtain ⟨P1, hP1⟩ : ∃ P1, mAll X i = P1 := ⟨_, rfl⟩
        obtain ⟨P2, hP2⟩ : ∃ P2, mAll Y j = P2 := ⟨_, rfl⟩
        have hCf := fun G => hC t3 u3 s' 0 (mAll X i) (mAll Y j) G ok' hag1 hag2 (fun hl => ⟨(hal1 hl).1, (hal2 hl).1, fun h => h3 ⟨(hal1 hl).2 h.1, (hal2 hl).2 h.2⟩⟩)
        rw [hP1, hP2] at hCf hQr
        obtain ⟨tt, htt⟩ : ∃ tt, mCel x f D s' 0 P1 P2 = tt := ⟨_, rfl⟩
        rw [htt] at hCf hQr
        have okt := (hCf S2).2
        have hKm : ∀ t ∈ KS, t.length ≤ 400 := fun t ht => by
          obtain ⟨k, hk, rfl⟩ := List.getElem_of_mem ht
          subst hKS
          simp only [mKeysOf, List.getElem_map, List.getElem_range]
          have := mKeys_len ((X.lists.getD k []).length + (Y.lists.getD k []).length) (X.lists.getD k []) (Y.lists.getD k [])
          have := b2 k
          have := c2 k
          omega
        have p2 := ha.k.w.bounds.2.1
        have p3 := ha.k.w.bounds.2.2
        have hNl : tt.1.N.length ≤ 200000 := by have := okt.few; omega
        have hl4 : s'.e = 0 → ∀ l ∈ ts.map (·.2), l.length ≤ 400 := fun h l hl => by rw [← hr2 h] at hl; exact mTiers_mem KS s hKm l hl
        by_cases di : i = -1
        · have dj : j ≠ -1 := fun h => h3 ⟨di, h⟩
          have di1 : decide (i < 0) = true := by simp; omega
          have dj1 : decide (j < 0) = false := by simp; omega
          have hPx := hPi (l := a) di
          rw [hX, hP1] at hPx
          have hPy := hPn Y dj
          rw [hP2] at hPy
          have u1 : (eCel X.all).length = 12 := rfl
          ((have hd := trivial; repeat' (first | ((first | apply GdK_st | apply GdK_sf | apply CondK_s) <;> intro hd <;> (try simp only [hd])) | simp (disch := first | assumption | omega | (simp only [nx] <;> omega) | fail) only [hd, hQr, hQn, c72_0, ↓YA, YB, YC, YE, YF, YZ, ↓reduceIte, Nat.reduceEqDiff, Nat.reduceAdd, Nat.reduceMul, Nat.reduceLeDiff, Int.reduceToNat, Int.reduceLE, Int.reduceLT, Int.reduceGT, Int.reduceGE, Int.reduceAdd, Int.reduceSub, Int.reduceNeg, Int.reduceBEq, Int.reduceBNe, f1, f2, f4, f5, f6, f7, f10, f14, f17, f18, f19, g7, g10, g14, g17, g18, g19, e0, e3, e4, e5, e6, hz, y3, y4, y5, di1, dj1, hPx, hPy, u1])) <;> (try (have hd_ : True := hd; clear hd_ hd)))
          refine CallK.use (hCf _).1 ?_
          rintro r S5 ⟨hx5, t5, u5, c, rfl, hc⟩
          have hx25 : AHeap.Ext S2 S5 := AHeap.Ext.trans (by exact AXT) hx5
          have hV5 := hV.mono hx25
          have hxV := hV5.ext
          obtain ⟨t6, u6, g10⟩ := hV5.g10
          have g7 := hV5.g7
          have g14 := hV5.g14
          have g19 := hV5.g19
          have l7 := AHeap.lt g7
          have l10 := AHeap.lt g10
          have l14 := AHeap.lt g14
          have l19' := AHeap.lt g19
          unfold eNodT at g19
          have yd : (eCel cel0).drop 12 = [] := rfl
          by_cases he3 : tt.1.e = 0
          · obtain ⟨n, hn⟩ : ∃ n : Nod, n = ⟨D, ts.map (·.2), c⟩ := ⟨_, rfl⟩
            have he2 : s'.e = 0 := Classical.byContradiction fun h => by
              rw [mCel_err h] at htt
              rw [← htt] at he3
              exact h he3
            have hT3 : nodeT x most D (i, j) tt (mTiers x f D s KS).2 = (if addErr x most tt.1.N n ≠ 0 then (⟨tt.1.N, tt.1.P, addErr x most tt.1.N n⟩, 0) else (⟨tt.1.N ++ [n], tt.1.P ++ [(i, j)], 0⟩, (tt.1.N.length : Int))) := by
              rw [hr2 he2, hn, hc he3]; unfold nodeT; exact if_neg (by simp [he3])
            rw [hT3] at hQr
            have hsn : smallN n := by
              have hm4 : ∀ l ∈ n.lists, l.length ≤ 400 := fun l hl => by
                rw [hn] at hl
                exact hl4 he2 l hl
              have hll : n.lists.length = T := by rw [hn]; simp [hts]
              have := flatC_len hm4
              exact ⟨by omega, by rw [hll] at this; omega, fun l hl => by have := hm4 l hl; omega⟩
            have hA : ∀ G, Sound Try.prog 50 [.agg [.sl tx (rII x.sizes), .i x.measures], .i most, .sl t5 (rN tt.1.N), .agg (.i D :: .sl (.own G1.next) (rLt ts) :: eCel c)] G (Pure G (.i (addErr x most tt.1.N n))) := fun G => by
              refine Sound.wknA (radd_sound tx t5 .no x most tt.1.N n G (by omega) (fun s hs => by have := p3 s hs; omega) hNl hsn) rfl fun k u v hu hv => ?_
              match k with
              | 0 => simp at hu hv; subst hu hv; exact .refl _
              | 1 => simp at hu hv; subst hu hv; exact .refl _
              | 2 => simp at hu hv; subst hu hv; exact .refl _
              | 3 =>
                simp only [List.getElem?_cons_zero, List.getElem?_cons_succ, Option.some.injEq] at hu hv
                subst hu hv
                rw [hn]
                exact wkn_node _ _ _ _
              | k + 4 => simp at hu
            ((have hd := trivial; repeat' (first | ((first | apply GdK_st | apply GdK_sf | apply CondK_s) <;> intro hd <;> (try simp only [hd])) | simp (disch := first | assumption | omega | (simp only [nx] <;> omega) | fail) only [hd, hQr, hQn, c72_0, ↓YA, YB, YC, YE, YF, YZ, ↓reduceIte, Nat.reduceEqDiff, Nat.reduceAdd, Nat.reduceMul, Nat.reduceLeDiff, Int.reduceToNat, Int.reduceLE, Int.reduceLT, Int.reduceGT, Int.reduceGE, Int.reduceAdd, Int.reduceSub, Int.reduceNeg, Int.reduceBEq, Int.reduceBNe, f1, f2, f4, f5, f6, f7, f10, f14, f17, f18, f19, g7, g10, g14, g19, e0, y3, y4, yd, he3, List.append_nil, eCube])) <;> (try (have hd_ : True := hd; clear hd_ hd)))
            (refine CallK.use (hA _) ?_; rintro _ _ ⟨rfl, k7, rfl⟩)
            by_cases ea : addErr x most tt.1.N n = 0
            · have hif : (if addErr x most tt.1.N n ≠ 0 then ((⟨tt.1.N, tt.1.P, addErr x most tt.1.N n⟩, 0) : MSt × Int) else (⟨tt.1.N ++ [n], tt.1.P ++ [(i, j)], 0⟩, (tt.1.N.length : Int))) = (⟨tt.1.N ++ [n], tt.1.P ++ [(i, j)], 0⟩, (tt.1.N.length : Int)) := if_neg (by simp [ea])
              rw [hif] at hQr
              have aN := allLen_rN tt.1.N
              have aP : allLen 2 (rP tt.1.P) = true := allLen_map (f := fun p : Int × Int => [AV.i p.1, .i p.2]) (fun _ => rfl) tt.1.P
              have hPl2 : tt.1.P.length = tt.1.N.length := okt.len
              have hfew := okt.few
              have aE : allLen 14 [AV.i D :: .sl (.own G1.next) (rLt ts) :: eCel c] = true := rfl
              have aQ : allLen 2 [[AV.i i, .i j]] = true := rfl
              have m1 : tt.1.N.length ≤ maxLen := by unfold maxLen; omega
              have m2 : tt.1.N.length * 128 ≤ 140737488355328 := by omega
              have m3 : tt.1.N.length + 1 ≤ maxLen := by unfold maxLen; omega
              have m4 : (tt.1.N.length + 1) * 128 ≤ 140737488355328 := by omega
              have m5 : tt.1.N.length * 16 ≤ 140737488355328 := by omega
              have m6 : (tt.1.N.length + 1) * 16 ≤ 140737488355328 := by omega
              have wL : IntKind.i64.wrap (((tt.1.N.length + 1 : Nat) : Int) - 1) = (tt.1.N.length : Int) := by rw [wrap_of (by omega) (by omega)]; omega
              have hNc : (tt.1.N = [] ∧ tt.1.P = []) ∨ ∃ r0 rs q0 qs, rN tt.1.N = r0 :: rs ∧ rP tt.1.P = q0 :: qs := by
                cases hn1 : tt.1.N with
                | nil => exact .inl ⟨rfl, List.length_eq_zero_iff.1 (by rw [hPl2, hn1]; rfl)⟩
                | cons a r =>
                  cases hp1 : tt.1.P with
                  | nil => rw [hn1, hp1] at hPl2; simp at hPl2
                  | cons b q => exact .inr ⟨_, _, _, _, rfl, rfl⟩
              have aZ : allLen 14 [] = true := rfl
              have aZ2 : allLen 2 [] = true := rfl
              rcases hNc with ⟨hN0, hP0⟩ | ⟨r0, rs, q0, qs, hrN, hrP⟩
              · rw [hN0, hP0] at hQr
                have hl0 : tt.1.N.length = 0 := by rw [hN0]; rfl
                have hl1 : tt.1.P.length = 0 := by rw [hP0]; rfl
                have hrN : rN tt.1.N = [] := by rw [hN0]; rfl
                have hrP : rP tt.1.P = [] := by rw [hP0]; rfl
                have lz1 : (0 : Nat) ≤ maxLen := Nat.zero_le _
                have lz2 : (1 : Nat) ≤ maxLen := by decide
                have w0 : IntKind.i64.wrap (((1 : Nat) : Int) - 1) = 0 := by decide
                ((have hd := trivial; repeat' (first | ((first | apply GdK_st | apply GdK_sf | apply CondK_s) <;> intro hd <;> (try simp only [hd])) | simp (disch := first | assumption | omega | (simp only [nx] <;> omega) | fail) only [hd, hQr, hQn, c72_0, ↓YA, YB, YC, YE, YF, YZ, ↓reduceIte, Nat.reduceEqDiff, Nat.reduceAdd, Nat.reduceMul, Nat.reduceLeDiff, Int.reduceToNat, Int.reduceLE, Int.reduceLT, Int.reduceGT, Int.reduceGE, Int.reduceAdd, Int.reduceSub, Int.reduceNeg, Int.reduceBEq, Int.reduceBNe, f1, f2, f4, f5, f6, f7, f10, f14, f17, f18, f19, g7, g10, g14, g19, e0, y3, y4, yd, he3, List.append_nil, eCube, ea, hrN, hrP, hl0, hl1, aZ, aZ2, aE, aQ, lz1, lz2, List.length_nil, List.length_cons, w0])) <;> (try (have hd_ : True := hd; clear hd_ hd)))
                refine ⟨_, _, RStep.wkn (H2 := H) (v := .tup [.agg [.sl .no (rN ([] ++ [n])), .sl (.own (S5.next + k7 + 1)) [[.i i, .i j]], .i 0], .i 0]) ?_ (by exact AXT), (AHeap.Ext.refl H).bump, .no, _, rfl⟩
                rw [hn]
                exact wkn_res _ _ _ [] _ _ _ _ _
              · have hr1' : rs.length + 1 = tt.1.N.length := by have := congrArg List.length hrN; simpa using this.symm
                have hq1' : qs.length + 1 = tt.1.P.length := by have := congrArg List.length hrP; simpa using this.symm
                have hwl : ∀ y : List AV, (rs ++ [y]).length + 1 = tt.1.N.length + 1 := fun y => by rw [List.length_append]; simp only [List.length_cons, List.length_nil]; omega
                rw [hrN] at aN
                rw [hrP] at aP
                ((have hd := trivial; repeat' (first | ((first | apply GdK_st | apply GdK_sf | apply CondK_s) <;> intro hd <;> (try simp only [hd])) | simp (disch := first | assumption | omega | (simp only [nx] <;> omega) | fail) only [hd, hQr, hQn, c72_0, ↓YA, YB, YC, YE, YF, YZ, ↓reduceIte, Nat.reduceEqDiff, Nat.reduceAdd, Nat.reduceMul, Nat.reduceLeDiff, Int.reduceToNat, Int.reduceLE, Int.reduceLT, Int.reduceGT, Int.reduceGE, Int.reduceAdd, Int.reduceSub, Int.reduceNeg, Int.reduceBEq, Int.reduceBNe, f1, f2, f4, f5, f6, f7, f10, f14, f17, f18, f19, g7, g10, g14, g19, e0, y3, y4, yd, he3, List.append_nil, eCube, ea, hrN, hrP, aN, aP, aZ, aZ2, aE, aQ, m1, m2, m3, m4, m5, m6, List.length_cons, hr1', hq1', hPl2, hwl, wL])) <;> (try (have hd_ : True := hd; clear hd_ hd)))
                have hq : rP (tt.1.P ++ [(i, j)]) = q0 :: (qs ++ [[.i i, .i j]]) := by
                  have h0 : rP (tt.1.P ++ [(i, j)]) = rP tt.1.P ++ [[.i i, .i j]] := List.map_append
                  rw [h0, hrP]; rfl
                refine ⟨_, _, RStep.wkn (H2 := H) (v := .tup [.agg [.sl .no (rN (tt.1.N ++ [n])), .sl (.own (S5.next + k7 + 1)) (q0 :: (qs ++ [[.i i, .i j]])), .i 0], .i (tt.1.N.length : Int)]) ?_ (by exact AXT), (AHeap.Ext.refl H).bump, .no, .own (S5.next + k7 + 1), by rw [hq]⟩
                rw [hn]
                have hw := wkn_res (.own (S5.next + k7)) (.own (S5.next + k7 + 1)) (.own G1.next) tt.1.N (q0 :: (qs ++ [[.i i, .i j]])) D (tt.1.N.length : Int) ts c
                rw [hrN] at hw
                exact hw
            · rw [if_pos ea] at hQr
              have d2 : (addErr x most tt.1.N n != 0) = true := by simpa using ea
              ((have hd := trivial; repeat' (first | ((first | apply GdK_st | apply GdK_sf | apply CondK_s) <;> intro hd <;> (try simp only [hd])) | simp (disch := first | assumption | omega | (simp only [nx] <;> omega) | fail) only [hd, hQr, hQn, c72_0, ↓YA, YB, YC, YE, YF, YZ, ↓reduceIte, Nat.reduceEqDiff, Nat.reduceAdd, Nat.reduceMul, Nat.reduceLeDiff, Int.reduceToNat, Int.reduceLE, Int.reduceLT, Int.reduceGT, Int.reduceGE, Int.reduceAdd, Int.reduceSub, Int.reduceNeg, Int.reduceBEq, Int.reduceBNe, f1, f2, f4, f5, f6, f7, f10, f14, f17, f18, f19, g7, g10, g14, g19, e0, y3, y4, yd, he3, List.append_nil, eCube, d2])) <;> (try (have hd_ : True := hd; clear hd_ hd)))
              exact fin_keep ⟨by exact AXT, t5, u5, rfl⟩
          · have d2 : (tt.1.e != 0) = true := by simpa using he3
            have d3 : (tt.1.e == 0) = false := by simpa using he3
            have hT2 : ∀ ls, nodeT x most D (i, j) tt ls = (tt.1, 0) := fun ls => if_pos he3
            rw [hT2] at hQr
            ((have hd := trivial; repeat' (first | ((first | apply GdK_st | apply GdK_sf | apply CondK_s) <;> intro hd <;> (try simp only [hd])) | simp (disch := first | assumption | omega | (simp only [nx] <;> omega) | fail) only [hd, hQr, hQn, c72_0, ↓YA, YB, YC, YE, YF, YZ, ↓reduceIte, Nat.reduceEqDiff, Nat.reduceAdd, Nat.reduceMul, Nat.reduceLeDiff, Int.reduceToNat, Int.reduceLE, Int.reduceLT, Int.reduceGT, Int.reduceGE, Int.reduceAdd, Int.reduceSub, Int.reduceNeg, Int.reduceBEq, Int.reduceBNe, f1, f2, f4, f5, f6, f7, f10, f14, f17, f18, f19, g7, g10, g14, g19, e0, e3, e4, e5, e6, y3, y4, yd, d2, d3, List.append_nil])) <;> (try (have hd_ : True := hd; clear hd_ hd)))
            exact fin_keep ⟨by exact AXT, t5, u5, rfl⟩
        · have di1 : decide (i < 0) = false := by simp; omega
          have hPx := hPn X di
          rw [hP1] at hPx
          by_cases dj : j = -1
          · have dj1 : decide (j < 0) = true := by simp; omega
            have hPy := hPi (l := b) dj
            rw [hY, hP2] at hPy
            have u1 : (eCel Y.all).length = 12 := rfl
            ((have hd := trivial; repeat' (first | ((first | apply GdK_st | apply GdK_sf | apply CondK_s) <;> intro hd <;> (try simp only [hd])) | simp (disch := first | assumption | omega | (simp only [nx] <;> omega) | fail) only [hd, hQr, hQn, c72_0, ↓YA, YB, YC, YE, YF, YZ, ↓reduceIte, Nat.reduceEqDiff, Nat.reduceAdd, Nat.reduceMul, Nat.reduceLeDiff, Int.reduceToNat, Int.reduceLE, Int.reduceLT, Int.reduceGT, Int.reduceGE, Int.reduceAdd, Int.reduceSub, Int.reduceNeg, Int.reduceBEq, Int.reduceBNe, f1, f2, f4, f5, f6, f7, f10, f14, f17, f18, f19, g7, g10, g14, g17, g18, g19, e0, e3, e4, e5, e6, hz, y3, y4, y5, di1, dj1, hPx, hPy, u1])) <;> (try (have hd_ : True := hd; clear hd_ hd)))
            refine CallK.use (hCf _).1 ?_
            rintro r S5 ⟨hx5, t5, u5, c, rfl, hc⟩
            have hx25 : AHeap.Ext S2 S5 := AHeap.Ext.trans (by exact AXT) hx5
            have hV5 := hV.mono hx25
            have hxV := hV5.ext
            obtain ⟨t6, u6, g10⟩ := hV5.g10
            have g7 := hV5.g7
            have g14 := hV5.g14
            have g19 := hV5.g19
            have l7 := AHeap.lt g7
            have l10 := AHeap.lt g10
            have l14 := AHeap.lt g14
            have l19' := AHeap.lt g19
            unfold eNodT at g19
            have yd : (eCel cel0).drop 12 = [] := rfl
            by_cases he3 : tt.1.e = 0
            · obtain ⟨n, hn⟩ : ∃ n : Nod, n = ⟨D, ts.map (·.2), c⟩ := ⟨_, rfl⟩
              have he2 : s'.e = 0 := Classical.byContradiction fun h => by
                rw [mCel_err h] at htt
                rw [← htt] at he3
                exact h he3
              have hT3 : nodeT x most D (i, j) tt (mTiers x f D s KS).2 = (if addErr x most tt.1.N n ≠ 0 then (⟨tt.1.N, tt.1.P, addErr x most tt.1.N n⟩, 0) else (⟨tt.1.N ++ [n], tt.1.P ++ [(i, j)], 0⟩, (tt.1.N.length : Int))) := by
                rw [hr2 he2, hn, hc he3]; unfold nodeT; exact if_neg (by simp [he3])
              rw [hT3] at hQr
              have hsn : smallN n := by
                have hm4 : ∀ l ∈ n.lists, l.length ≤ 400 := fun l hl => by
                  rw [hn] at hl
                  exact hl4 he2 l hl
                have hll : n.lists.length = T := by rw [hn]; simp [hts]
                have := flatC_len hm4
                exact ⟨by omega, by rw [hll] at this; omega, fun l hl => by have := hm4 l hl; omega⟩
              have hA : ∀ G, Sound Try.prog 50 [.agg [.sl tx (rII x.sizes), .i x.measures], .i most, .sl t5 (rN tt.1.N), .agg (.i D :: .sl (.own G1.next) (rLt ts) :: eCel c)] G (Pure G (.i (addErr x most tt.1.N n))) := fun G => by
                refine Sound.wknA (radd_sound tx t5 .no x most tt.1.N n G (by omega) (fun s hs => by have := p3 s hs; omega) hNl hsn) rfl fun k u v hu hv => ?_
                match k with
                | 0 => simp at hu hv; subst hu hv; exact .refl _
                | 1 => simp at hu hv; subst hu hv; exact .refl _
                | 2 => simp at hu hv; subst hu hv; exact .refl _
                | 3 =>
                  simp only [List.getElem?_cons_zero, List.getElem?_cons_succ, Option.some.injEq] at hu hv
                  subst hu hv
                  rw [hn]
                  exact wkn_node _ _ _ _
                | k + 4 => simp at hu
              ((have hd := trivial; repeat' (first | ((first | apply GdK_st | apply GdK_sf | apply CondK_s) <;> intro hd <;> (try simp only [hd])) | simp (disch := first | assumption | omega | (simp only [nx] <;> omega) | fail) only [hd, hQr, hQn, c72_0, ↓YA, YB, YC, YE, YF, YZ, ↓reduceIte, Nat.reduceEqDiff, Nat.reduceAdd, Nat.reduceMul, Nat.reduceLeDiff, Int.reduceToNat, Int.reduceLE, Int.reduceLT, Int.reduceGT, Int.reduceGE, Int.reduceAdd, Int.reduceSub, Int.reduceNeg, Int.reduceBEq, Int.reduceBNe, f1, f2, f4, f5, f6, f7, f10, f14, f17, f18, f19, g7, g10, g14, g19, e0, y3, y4, yd, he3, List.append_nil, eCube])) <;> (try (have hd_ : True := hd; clear hd_ hd)))
              (refine CallK.use (hA _) ?_; rintro _ _ ⟨rfl, k7, rfl⟩)
              by_cases ea : addErr x most tt.1.N n = 0
              · have hif : (if addErr x most tt.1.N n ≠ 0 then ((⟨tt.1.N, tt.1.P, addErr x most tt.1.N n⟩, 0) : MSt × Int) else (⟨tt.1.N ++ [n], tt.1.P ++ [(i, j)], 0⟩, (tt.1.N.length : Int))) = (⟨tt.1.N ++ [n], tt.1.P ++ [(i, j)], 0⟩, (tt.1.N.length : Int)) := if_neg (by simp [ea])
                rw [hif] at hQr
                have aN := allLen_rN tt.1.N
                have aP : allLen 2 (rP tt.1.P) = true := allLen_map (f := fun p : Int × Int => [AV.i p.1, .i p.2]) (fun _ => rfl) tt.1.P
                have hPl2 : tt.1.P.length = tt.1.N.length := okt.len
                have hfew := okt.few
                have aE : allLen 14 [AV.i D :: .sl (.own G1.next) (rLt ts) :: eCel c] = true := rfl
                have aQ : allLen 2 [[AV.i i, .i j]] = true := rfl
                have m1 : tt.1.N.length ≤ maxLen := by unfold maxLen; omega
                have m2 : tt.1.N.length * 128 ≤ 140737488355328 := by omega
                have m3 : tt.1.N.length + 1 ≤ maxLen := by unfold maxLen; omega
                have m4 : (tt.1.N.length + 1) * 128 ≤ 140737488355328 := by omega
                have m5 : tt.1.N.length * 16 ≤ 140737488355328 := by omega
                have m6 : (tt.1.N.length + 1) * 16 ≤ 140737488355328 := by omega
                have wL : IntKind.i64.wrap (((tt.1.N.length + 1 : Nat) : Int) - 1) = (tt.1.N.length : Int) := by rw [wrap_of (by omega) (by omega)]; omega
                have hNc : (tt.1.N = [] ∧ tt.1.P = []) ∨ ∃ r0 rs q0 qs, rN tt.1.N = r0 :: rs ∧ rP tt.1.P = q0 :: qs := by
                  cases hn1 : tt.1.N with
                  | nil => exact .inl ⟨rfl, List.length_eq_zero_iff.1 (by rw [hPl2, hn1]; rfl)⟩
                  | cons a r =>
                    cases hp1 : tt.1.P with
                    | nil => rw [hn1, hp1] at hPl2; simp at hPl2
                    | cons b q => exact .inr ⟨_, _, _, _, rfl, rfl⟩
                have aZ : allLen 14 [] = true := rfl
                have aZ2 : allLen 2 [] = true := rfl
                rcases hNc with ⟨hN0, hP0⟩ | ⟨r0, rs, q0, qs, hrN, hrP⟩
                · rw [hN0, hP0] at hQr
                  have hl0 : tt.1.N.length = 0 := by rw [hN0]; rfl
                  have hl1 : tt.1.P.length = 0 := by rw [hP0]; rfl
                  have hrN : rN tt.1.N = [] := by rw [hN0]; rfl
                  have hrP : rP tt.1.P = [] := by rw [hP0]; rfl
                  have lz1 : (0 : Nat) ≤ maxLen := Nat.zero_le _
                  have lz2 : (1 : Nat) ≤ maxLen := by decide
                  have w0 : IntKind.i64.wrap (((1 : Nat) : Int) - 1) = 0 := by decide
                  ((have hd := trivial; repeat' (first | ((first | apply GdK_st | apply GdK_sf | apply CondK_s) <;> intro hd <;> (try simp only [hd])) | simp (disch := first | assumption | omega | (simp only [nx] <;> omega) | fail) only [hd, hQr, hQn, c72_0, ↓YA, YB, YC, YE, YF, YZ, ↓reduceIte, Nat.reduceEqDiff, Nat.reduceAdd, Nat.reduceMul, Nat.reduceLeDiff, Int.reduceToNat, Int.reduceLE, Int.reduceLT, Int.reduceGT, Int.reduceGE, Int.reduceAdd, Int.reduceSub, Int.reduceNeg, Int.reduceBEq, Int.reduceBNe, f1, f2, f4, f5, f6, f7, f10, f14, f17, f18, f19, g7, g10, g14, g19, e0, y3, y4, yd, he3, List.append_nil, eCube, ea, hrN, hrP, hl0, hl1, aZ, aZ2, aE, aQ, lz1, lz2, List.length_nil, List.length_cons, w0])) <;> (try (have hd_ : True := hd; clear hd_ hd)))
                  refine ⟨_, _, RStep.wkn (H2 := H) (v := .tup [.agg [.sl .no (rN ([] ++ [n])), .sl (.own (S5.next + k7 + 1)) [[.i i, .i j]], .i 0], .i 0]) ?_ (by exact AXT), (AHeap.Ext.refl H).bump, .no, _, rfl⟩
                  rw [hn]
                  exact wkn_res _ _ _ [] _ _ _ _ _
                · have hr1' : rs.length + 1 = tt.1.N.length := by have := congrArg List.length hrN; simpa using this.symm
                  have hq1' : qs.length + 1 = tt.1.P.length := by have := congrArg List.length hrP; simpa using this.symm
                  have hwl : ∀ y : List AV, (rs ++ [y]).length + 1 = tt.1.N.length + 1 := fun y => by rw [List.length_append]; simp only [List.length_cons, List.length_nil]; omega
                  rw [hrN] at aN
                  rw [hrP] at aP
                  ((have hd := trivial; repeat' (first | ((first | apply GdK_st | apply GdK_sf | apply CondK_s) <;> intro hd <;> (try simp only [hd])) | simp (disch := first | assumption | omega | (simp only [nx] <;> omega) | fail) only [hd, hQr, hQn, c72_0, ↓YA, YB, YC, YE, YF, YZ, ↓reduceIte, Nat.reduceEqDiff, Nat.reduceAdd, Nat.reduceMul, Nat.reduceLeDiff, Int.reduceToNat, Int.reduceLE, Int.reduceLT, Int.reduceGT, Int.reduceGE, Int.reduceAdd, Int.reduceSub, Int.reduceNeg, Int.reduceBEq, Int.reduceBNe, f1, f2, f4, f5, f6, f7, f10, f14, f17, f18, f19, g7, g10, g14, g19, e0, y3, y4, yd, he3, List.append_nil, eCube, ea, hrN, hrP, aN, aP, aZ, aZ2, aE, aQ, m1, m2, m3, m4, m5, m6, List.length_cons, hr1', hq1', hPl2, hwl, wL])) <;> (try (have hd_ : True := hd; clear hd_ hd)))
                  have hq : rP (tt.1.P ++ [(i, j)]) = q0 :: (qs ++ [[.i i, .i j]]) := by
                    have h0 : rP (tt.1.P ++ [(i, j)]) = rP tt.1.P ++ [[.i i, .i j]] := List.map_append
                    rw [h0, hrP]; rfl
                  refine ⟨_, _, RStep.wkn (H2 := H) (v := .tup [.agg [.sl .no (rN (tt.1.N ++ [n])), .sl (.own (S5.next + k7 + 1)) (q0 :: (qs ++ [[.i i, .i j]])), .i 0], .i (tt.1.N.length : Int)]) ?_ (by exact AXT), (AHeap.Ext.refl H).bump, .no, .own (S5.next + k7 + 1), by rw [hq]⟩
                  rw [hn]
                  have hw := wkn_res (.own (S5.next + k7)) (.own (S5.next + k7 + 1)) (.own G1.next) tt.1.N (q0 :: (qs ++ [[.i i, .i j]])) D (tt.1.N.length : Int) ts c
                  rw [hrN] at hw
                  exact hw
              · rw [if_pos ea] at hQr
                have d2 : (addErr x most tt.1.N n != 0) = true := by simpa using ea
                ((have hd := trivial; repeat' (first | ((first | apply GdK_st | apply GdK_sf | apply CondK_s) <;> intro hd <;> (try simp only [hd])) | simp (disch := first | assumption | omega | (simp only [nx] <;> omega) | fail) only [hd, hQr, hQn, c72_0, ↓YA, YB, YC, YE, YF, YZ, ↓reduceIte, Nat.reduceEqDiff, Nat.reduceAdd, Nat.reduceMul, Nat.reduceLeDiff, Int.reduceToNat, Int.reduceLE, Int.reduceLT, Int.reduceGT, Int.reduceGE, Int.reduceAdd, Int.reduceSub, Int.reduceNeg, Int.reduceBEq, Int.reduceBNe, f1, f2, f4, f5, f6, f7, f10, f14, f17, f18, f19, g7, g10, g14, g19, e0, y3, y4, yd, he3, List.append_nil, eCube, d2])) <;> (try (have hd_ : True := hd; clear hd_ hd)))
                exact fin_keep ⟨by exact AXT, t5, u5, rfl⟩
            · have d2 : (tt.1.e != 0) = true := by simpa using he3
              have d3 : (tt.1.e == 0) = false := by simpa using he3
              have hT2 : ∀ ls, nodeT x most D (i, j) tt ls = (tt.1, 0) := fun ls => if_pos he3
              rw [hT2] at hQr
              ((have hd := trivial; repeat' (first | ((first | apply GdK_st | apply GdK_sf | apply CondK_s) <;> intro hd <;> (try simp only [hd])) | simp (disch := first | assumption | omega | (simp only [nx] <;> omega) | fail) only [hd, hQr, hQn, c72_0, ↓YA, YB, YC, YE, YF, YZ, ↓reduceIte, Nat.reduceEqDiff, Nat.reduceAdd, Nat.reduceMul, Nat.reduceLeDiff, Int.reduceToNat, Int.reduceLE, Int.reduceLT, Int.reduceGT, Int.reduceGE, Int.reduceAdd, Int.reduceSub, Int.reduceNeg, Int.reduceBEq, Int.reduceBNe, f1, f2, f4, f5, f6, f7, f10, f14, f17, f18, f19, g7, g10, g14, g19, e0, e3, e4, e5, e6, y3, y4, yd, d2, d3, List.append_nil])) <;> (try (have hd_ : True := hd; clear hd_ hd)))
              exact fin_keep ⟨by exact AXT, t5, u5, rfl⟩
          · have dj1 : decide (j < 0) = false := by simp; omega
            have hPy := hPn Y dj
            rw [hP2] at hPy
            ((have hd := trivial; repeat' (first | ((first | apply GdK_st | apply GdK_sf | apply CondK_s) <;> intro hd <;> (try simp only [hd])) | simp (disch := first | assumption | omega | (simp only [nx] <;> omega) | fail) only [hd, hQr, hQn, c72_0, ↓YA, YB, YC, YE, YF, YZ, ↓reduceIte, Nat.reduceEqDiff, Nat.reduceAdd, Nat.reduceMul, Nat.reduceLeDiff, Int.reduceToNat, Int.reduceLE, Int.reduceLT, Int.reduceGT, Int.reduceGE, Int.reduceAdd, Int.reduceSub, Int.reduceNeg, Int.reduceBEq, Int.reduceBNe, f1, f2, f4, f5, f6, f7, f10, f14, f17, f18, f19, g7, g10, g14, g17, g18, g19, e0, e3, e4, e5, e6, hz, y3, y4, y5, di1, dj1, hPx, hPy])) <;> (try (have hd_ : True := hd; clear hd_ hd)))
            refine CallK.use (hCf _).1 ?_
            rintro r S5 ⟨hx5, t5, u5, c, rfl, hc⟩
            have hx25 : AHeap.Ext S2 S5 := AHeap.Ext.trans (by exact AXT) hx5
            have hV5 := hV.mono hx25
            have hxV := hV5.ext
            obtain ⟨t6, u6, g10⟩ := hV5.g10
            have g7 := hV5.g7
            have g14 := hV5.g14
            have g19 := hV5.g19
            have l7 := AHeap.lt g7
            have l10 := AHeap.lt g10
            have l14 := AHeap.lt g14
            have l19' := AHeap.lt g19
            unfold eNodT at g19
            have yd : (eCel cel0).drop 12 = [] := rfl
            by_cases he3 : tt.1.e = 0
            · obtain ⟨n, hn⟩ : ∃ n : Nod, n = ⟨D, ts.map (·.2), c⟩ := ⟨_, rfl⟩
              have he2 : s'.e = 0 := Classical.byContradiction fun h => by
                rw [mCel_err h] at htt
                rw [← htt] at he3
                exact h he3
              have hT3 : nodeT x most D (i, j) tt (mTiers x f D s KS).2 = (if addErr x most tt.1.N n ≠ 0 then (⟨tt.1.N, tt.1.P, addErr x most tt.1.N n⟩, 0) else (⟨tt.1.N ++ [n], tt.1.P ++ [(i, j)], 0⟩, (tt.1.N.length : Int))) := by
                rw [hr2 he2, hn, hc he3]; unfold nodeT; exact if_neg (by simp [he3])
              rw [hT3] at hQr
              have hsn : smallN n := by
                have hm4 : ∀ l ∈ n.lists, l.length ≤ 400 := fun l hl => by
                  rw [hn] at hl
                  exact hl4 he2 l hl
                have hll : n.lists.length = T := by rw [hn]; simp [hts]
                have := flatC_len hm4
                exact ⟨by omega, by rw [hll] at this; omega, fun l hl => by have := hm4 l hl; omega⟩
              have hA : ∀ G, Sound Try.prog 50 [.agg [.sl tx (rII x.sizes), .i x.measures], .i most, .sl t5 (rN tt.1.N), .agg (.i D :: .sl (.own G1.next) (rLt ts) :: eCel c)] G (Pure G (.i (addErr x most tt.1.N n))) := fun G => by
                refine Sound.wknA (radd_sound tx t5 .no x most tt.1.N n G (by omega) (fun s hs => by have := p3 s hs; omega) hNl hsn) rfl fun k u v hu hv => ?_
                match k with
                | 0 => simp at hu hv; subst hu hv; exact .refl _
                | 1 => simp at hu hv; subst hu hv; exact .refl _
                | 2 => simp at hu hv; subst hu hv; exact .refl _
                | 3 =>
                  simp only [List.getElem?_cons_zero, List.getElem?_cons_succ, Option.some.injEq] at hu hv
                  subst hu hv
                  rw [hn]
                  exact wkn_node _ _ _ _
                | k + 4 => simp at hu
              ((have hd := trivial; repeat' (first | ((first | apply GdK_st | apply GdK_sf | apply CondK_s) <;> intro hd <;> (try simp only [hd])) | simp (disch := first | assumption | omega | (simp only [nx] <;> omega) | fail) only [hd, hQr, hQn, c72_0, ↓YA, YB, YC, YE, YF, YZ, ↓reduceIte, Nat.reduceEqDiff, Nat.reduceAdd, Nat.reduceMul, Nat.reduceLeDiff, Int.reduceToNat, Int.reduceLE, Int.reduceLT, Int.reduceGT, Int.reduceGE, Int.reduceAdd, Int.reduceSub, Int.reduceNeg, Int.reduceBEq, Int.reduceBNe, f1, f2, f4, f5, f6, f7, f10, f14, f17, f18, f19, g7, g10, g14, g19, e0, y3, y4, yd, he3, List.append_nil, eCube])) <;> (try (have hd_ : True := hd; clear hd_ hd)))
              (refine CallK.use (hA _) ?_; rintro _ _ ⟨rfl, k7, rfl⟩)
              by_cases ea : addErr x most tt.1.N n = 0
              · have hif : (if addErr x most tt.1.N n ≠ 0 then ((⟨tt.1.N, tt.1.P, addErr x most tt.1.N n⟩, 0) : MSt × Int) else (⟨tt.1.N ++ [n], tt.1.P ++ [(i, j)], 0⟩, (tt.1.N.length : Int))) = (⟨tt.1.N ++ [n], tt.1.P ++ [(i, j)], 0⟩, (tt.1.N.length : Int)) := if_neg (by simp [ea])
                rw [hif] at hQr
                have aN := allLen_rN tt.1.N
                have aP : allLen 2 (rP tt.1.P) = true := allLen_map (f := fun p : Int × Int => [AV.i p.1, .i p.2]) (fun _ => rfl) tt.1.P
                have hPl2 : tt.1.P.length = tt.1.N.length := okt.len
                have hfew := okt.few
                have aE : allLen 14 [AV.i D :: .sl (.own G1.next) (rLt ts) :: eCel c] = true := rfl
                have aQ : allLen 2 [[AV.i i, .i j]] = true := rfl
                have m1 : tt.1.N.length ≤ maxLen := by unfold maxLen; omega
                have m2 : tt.1.N.length * 128 ≤ 140737488355328 := by omega
                have m3 : tt.1.N.length + 1 ≤ maxLen := by unfold maxLen; omega
                have m4 : (tt.1.N.length + 1) * 128 ≤ 140737488355328 := by omega
                have m5 : tt.1.N.length * 16 ≤ 140737488355328 := by omega
                have m6 : (tt.1.N.length + 1) * 16 ≤ 140737488355328 := by omega
                have wL : IntKind.i64.wrap (((tt.1.N.length + 1 : Nat) : Int) - 1) = (tt.1.N.length : Int) := by rw [wrap_of (by omega) (by omega)]; omega
                have hNc : (tt.1.N = [] ∧ tt.1.P = []) ∨ ∃ r0 rs q0 qs, rN tt.1.N = r0 :: rs ∧ rP tt.1.P = q0 :: qs := by
                  cases hn1 : tt.1.N with
                  | nil => exact .inl ⟨rfl, List.length_eq_zero_iff.1 (by rw [hPl2, hn1]; rfl)⟩
                  | cons a r =>
                    cases hp1 : tt.1.P with
                    | nil => rw [hn1, hp1] at hPl2; simp at hPl2
                    | cons b q => exact .inr ⟨_, _, _, _, rfl, rfl⟩
                have aZ : allLen 14 [] = true := rfl
                have aZ2 : allLen 2 [] = true := rfl
                rcases hNc with ⟨hN0, hP0⟩ | ⟨r0, rs, q0, qs, hrN, hrP⟩
                · rw [hN0, hP0] at hQr
                  have hl0 : tt.1.N.length = 0 := by rw [hN0]; rfl
                  have hl1 : tt.1.P.length = 0 := by rw [hP0]; rfl
                  have hrN : rN tt.1.N = [] := by rw [hN0]; rfl
                  have hrP : rP tt.1.P = [] := by rw [hP0]; rfl
                  have lz1 : (0 : Nat) ≤ maxLen := Nat.zero_le _
                  have lz2 : (1 : Nat) ≤ maxLen := by decide
                  have w0 : IntKind.i64.wrap (((1 : Nat) : Int) - 1) = 0 := by decide
                  ((have hd := trivial; repeat' (first | ((first | apply GdK_st | apply GdK_sf | apply CondK_s) <;> intro hd <;> (try simp only [hd])) | simp (disch := first | assumption | omega | (simp only [nx] <;> omega) | fail) only [hd, hQr, hQn, c72_0, ↓YA, YB, YC, YE, YF, YZ, ↓reduceIte, Nat.reduceEqDiff, Nat.reduceAdd, Nat.reduceMul, Nat.reduceLeDiff, Int.reduceToNat, Int.reduceLE, Int.reduceLT, Int.reduceGT, Int.reduceGE, Int.reduceAdd, Int.reduceSub, Int.reduceNeg, Int.reduceBEq, Int.reduceBNe, f1, f2, f4, f5, f6, f7, f10, f14, f17, f18, f19, g7, g10, g14, g19, e0, y3, y4, yd, he3, List.append_nil, eCube, ea, hrN, hrP, hl0, hl1, aZ, aZ2, aE, aQ, lz1, lz2, List.length_nil, List.length_cons, w0])) <;> (try (have hd_ : True := hd; clear hd_ hd)))
                  refine ⟨_, _, RStep.wkn (H2 := H) (v := .tup [.agg [.sl .no (rN ([] ++ [n])), .sl (.own (S5.next + k7 + 1)) [[.i i, .i j]], .i 0], .i 0]) ?_ (by exact AXT), (AHeap.Ext.refl H).bump, .no, _, rfl⟩
                  rw [hn]
                  exact wkn_res _ _ _ [] _ _ _ _ _
                · have hr1' : rs.length + 1 = tt.1.N.length := by have := congrArg List.length hrN; simpa using this.symm
                  have hq1' : qs.length + 1 = tt.1.P.length := by have := congrArg List.length hrP; simpa using this.symm
                  have hwl : ∀ y : List AV, (rs ++ [y]).length + 1 = tt.1.N.length + 1 := fun y => by rw [List.length_append]; simp only [List.length_cons, List.length_nil]; omega
                  rw [hrN] at aN
                  rw [hrP] at aP
                  ((have hd := trivial; repeat' (first | ((first | apply GdK_st | apply GdK_sf | apply CondK_s) <;> intro hd <;> (try simp only [hd])) | simp (disch := first | assumption | omega | (simp only [nx] <;> omega) | fail) only [hd, hQr, hQn, c72_0, ↓YA, YB, YC, YE, YF, YZ, ↓reduceIte, Nat.reduceEqDiff, Nat.reduceAdd, Nat.reduceMul, Nat.reduceLeDiff, Int.reduceToNat, Int.reduceLE, Int.reduceLT, Int.reduceGT, Int.reduceGE, Int.reduceAdd, Int.reduceSub, Int.reduceNeg, Int.reduceBEq, Int.reduceBNe, f1, f2, f4, f5, f6, f7, f10, f14, f17, f18, f19, g7, g10, g14, g19, e0, y3, y4, yd, he3, List.append_nil, eCube, ea, hrN, hrP, aN, aP, aZ, aZ2, aE, aQ, m1, m2, m3, m4, m5, m6, List.length_cons, hr1', hq1', hPl2, hwl, wL])) <;> (try (have hd_ : True := hd; clear hd_ hd)))
                  have hq : rP (tt.1.P ++ [(i, j)]) = q0 :: (qs ++ [[.i i, .i j]]) := by
                    have h0 : rP (tt.1.P ++ [(i, j)]) = rP tt.1.P ++ [[.i i, .i j]] := List.map_append
                    rw [h0, hrP]; rfl
                  refine ⟨_, _, RStep.wkn (H2 := H) (v := .tup [.agg [.sl .no (rN (tt.1.N ++ [n])), .sl (.own (S5.next + k7 + 1)) (q0 :: (qs ++ [[.i i, .i j]])), .i 0], .i (tt.1.N.length : Int)]) ?_ (by exact AXT), (AHeap.Ext.refl H).bump, .no, .own (S5.next + k7 + 1), by rw [hq]⟩
                  rw [hn]
                  have hw := wkn_res (.own (S5.next + k7)) (.own (S5.next + k7 + 1)) (.own G1.next) tt.1.N (q0 :: (qs ++ [[.i i, .i j]])) D (tt.1.N.length : Int) ts c
                  rw [hrN] at hw
                  exact hw
              · rw [if_pos ea] at hQr
                have d2 : (addErr x most tt.1.N n != 0) = true := by simpa using ea
                ((have hd := trivial; repeat' (first | ((first | apply GdK_st | apply GdK_sf | apply CondK_s) <;> intro hd <;> (try simp only [hd])) | simp (disch := first | assumption | omega | (simp only [nx] <;> omega) | fail) only [hd, hQr, hQn, c72_0, ↓YA, YB, YC, YE, YF, YZ, ↓reduceIte, Nat.reduceEqDiff, Nat.reduceAdd, Nat.reduceMul, Nat.reduceLeDiff, Int.reduceToNat, Int.reduceLE, Int.reduceLT, Int.reduceGT, Int.reduceGE, Int.reduceAdd, Int.reduceSub, Int.reduceNeg, Int.reduceBEq, Int.reduceBNe, f1, f2, f4, f5, f6, f7, f10, f14, f17, f18, f19, g7, g10, g14, g19, e0, y3, y4, yd, he3, List.append_nil, eCube, d2])) <;> (try (have hd_ : True := hd; clear hd_ hd)))
                exact fin_keep ⟨by exact AXT, t5, u5, rfl⟩
            · have d2 : (tt.1.e != 0) = true := by simpa using he3
              have d3 : (tt.1.e == 0) = false := by simpa using he3
              have hT2 : ∀ ls, nodeT x most D (i, j) tt ls = (tt.1, 0) := fun ls => if_pos he3
              rw [hT2] at hQr
              ((have hd := trivial; repeat' (first | ((first | apply GdK_st | apply GdK_sf | apply CondK_s) <;> intro hd <;> (try simp only [hd])) | simp (disch := first | assumption | omega | (simp only [nx] <;> omega) | fail) only [hd, hQr, hQn, c72_0, ↓YA, YB, YC, YE, YF, YZ, ↓reduceIte, Nat.reduceEqDiff, Nat.reduceAdd, Nat.reduceMul, Nat.reduceLeDiff, Int.reduceToNat, Int.reduceLE, Int.reduceLT, Int.reduceGT, Int.reduceGE, Int.reduceAdd, Int.reduceSub, Int.reduceNeg, Int.reduceBEq, Int.reduceBNe, f1, f2, f4, f5, f6, f7, f10, f14, f17, f18, f19, g7, g10, g14, g19, e0, e3, e4, e5, e6, y3, y4, yd, d2, d3, List.append_nil])) <;> (try (have hd_ : True := hd; clear hd_ hd)))
              exact fin_keep ⟨by exact AXT, t5, u5, rfl⟩
    · have d1 : (s.e != 0) = true := by simpa using he
      have hR : nodeF x a b most f s (i, j) = (s, 0) := by unfold nodeF; rw [e]; exact if_pos he
      rw [hR] at hQr hQn
      ((have hd := trivial; repeat' (first | ((first | apply GdK_st | apply GdK_sf | apply CondK_s) <;> intro hd <;> (try simp only [hd])) | simp (disch := first | assumption | omega | (simp only [nx] <;> omega) | fail) only [hd, hQr, hQn, c72_0, ↓YA, YB, YC, YE, YF, YZ, ↓reduceIte, Nat.reduceEqDiff, Nat.reduceAdd, Nat.reduceMul, Nat.reduceLeDiff, Int.reduceToNat, Int.reduceLE, Int.reduceLT, Int.reduceGT, Int.reduceGE, Int.reduceAdd, Int.reduceSub, Int.reduceNeg, Int.reduceBEq, Int.reduceBNe, f1, f2, f4, f5, f6, f7, f10, f14, g10, g14, e3, e4, e5, e6, e7, e8, d1])) <;> (try (have hd_ : True := hd; clear hd_ hd)))
      exact fin_keep ⟨hxS.set (by omega), t, u, rfl⟩
theorem nodeF_ok {x : Shp} {a b : List Nod} {most : Int} {f : MSt → Int × Int → MSt × Int} {s : MSt} {D : Nat} (i j : Int) (ha : Prw x a) (hb : Prw x b) (h1 : At a D i) (h2 : At b D j) (h3 : ¬(i = -1 ∧ j = -1)) (ok : MOk a b most s)
  (hf : lastB x (D : Int) = false → ∀ s q, s.e = 0 → MOk a b most s → At a (D + 1) q.1 → At b (D + 1) q.2 → ¬(q.1 = -1 ∧ q.2 = -1) → MOk a b most (f s q).1) : MOk a b most (nodeF x a b most f s (i, j)).1 := by
 obtain ⟨b1, b2, b3, b4⟩ := getP_lists ha h1
 obtain ⟨c1, c2, c3, c4⟩ := getP_lists hb h2
 obtain ⟨hmx, hmx2⟩ := at_max h1 h2 h3
 have hT : MOk a b most (mTiers x f D s (mKeysOf (getP a i) (getP b j) (max (getP a i).lists.length (getP b j).lists.length))).1 := by
  refine mTiers_rel (R := fun s t => MOk a b most s → MOk a b most t) (fun _ h => h) (fun _ _ _ h k o => k (h o)) (fun _ e h => h.err e) _ s (fun hl s he t ht key p q hm hok => ?_) ok
  unfold mKeysOf at ht
  obtain ⟨k, _, rfl⟩ := List.mem_map.1 ht
  obtain ⟨a1, a2, a3⟩ := keys_at ha hb h1 h2 hl hm
  exact hf hl s _ he hok a1 a2 a3
 have hL : ∀ l ∈ (mTiers x f D s (mKeysOf (getP a i) (getP b j) (max (getP a i).lists.length (getP b j).lists.length))).2, l.length ≤ 400 := mTiers_mem _ _ fun t ht => by
  unfold mKeysOf at ht
  obtain ⟨k, _, rfl⟩ := List.mem_map.1 ht
  have := mKeys_len (((getP a i).lists.getD k []).length + ((getP b j).lists.getD k []).length) ((getP a i).lists.getD k []) ((getP b j).lists.getD k [])
  have := b2 k
  have := c2 k
  omega
 have hLl : (mTiers x f D s (mKeysOf (getP a i) (getP b j) (max (getP a i).lists.length (getP b j).lists.length))).2.length ≤ 4 := by
  rw [mTiers_len]; simp only [mKeysOf, List.length_map, List.length_range]; omega
 have hC : MOk a b most (mCel x f D (mTiers x f D s (mKeysOf (getP a i) (getP b j) (max (getP a i).lists.length (getP b j).lists.length))).1 0 (mAll (getP a i) i) (mAll (getP b j) j)).1 :=
  mCel_rel (R := fun s t => MOk a b most s → MOk a b most t) (fun _ h => h) (fun _ e h => h.err e) (fun hl he hok => by
   obtain ⟨a1, a2⟩ := all_at1 ha h1 hl
   obtain ⟨a3, a4⟩ := all_at1 hb h2 hl
   exact hf hl _ _ he hok a1 a3 fun h => h3 ⟨a2 h.1, a4 h.2⟩) hT
 unfold nodeF
 split
 ·exact ok
 ·split
  ·exact ok
  ·simp only [hmx2]
   generalize (mTiers x f D s (mKeysOf (getP a i) (getP b j) (max (getP a i).lists.length (getP b j).lists.length))) = r at *
   generalize mCel x f D r.1 0 (mAll (getP a i) i) (mAll (getP b j) j) = t at *
   split
   ·exact hC
   ·split
    ·exact hC.err _
    ·rename_i _ _ _ ea
     have ea : addErr x most t.1.N ⟨D, r.2, t.2⟩ = 0 := Classical.byContradiction ea
     have hN : (t.1.N.length : Int) < most := by
      unfold addErr at ea
      split at ea
      ·omega
      ·split at ea
       ·omega
       ·split at ea <;> omega
     have hl := hC.len
     refine ⟨by simp [hl], by simp only [List.length_append, List.length_cons, List.length_nil]; omega, fun m hm => ?_, fun k m q hj hp => ?_⟩
     ·rcases List.mem_append.1 hm with hm | hm
      ·exact hC.small m hm
      ·rw [List.mem_singleton.1 hm]
       have := flatC_len hL
       exact ⟨by show r.2.length ≤ 1000000; omega, by show r.2.flatten.length ≤ 999999; omega, fun l hl => by have := hL l hl; omega⟩
     ·by_cases hjl : k < t.1.N.length
      ·have e1 : (t.1.N ++ [⟨D, r.2, t.2⟩])[k]? = t.1.N[k]? := List.getElem?_append_left hjl
       have e2 : (t.1.P ++ [(i, j)])[k]? = t.1.P[k]? := List.getElem?_append_left (by omega)
       exact hC.dim k m q (e1.symm.trans hj) (e2.symm.trans hp)
      ·have hjl2 : k < (t.1.N ++ [(⟨D, r.2, t.2⟩ : Nod)]).length := (List.getElem?_eq_some_iff.1 hj).1
       simp only [List.length_append, List.length_cons, List.length_nil] at hjl2
       obtain rfl : k = t.1.N.length := by omega
       have e1 : (t.1.N ++ [(⟨D, r.2, t.2⟩ : Nod)])[t.1.N.length]? = some ⟨D, r.2, t.2⟩ := by simp
       have e2 : (t.1.P ++ [(i, j)])[t.1.N.length]? = some (i, j) := by rw [← hl]; simp
       have h1 := e1.symm.trans hj
       have h2 := e2.symm.trans hp
       injection h1 with h1
       injection h2 with h2
       rw [← h1, ← h2]; exact hmx2.symm
theorem rvisit_sound {x : Shp} {tx ta tb : Tok} {a b : List Nod} {most : Int} (ha : Prw x a) (hb : Prw x b) (hm : most ≤ 131072) :
  ∀ (n D : Nat) (s : MSt) (p : Int × Int), D + n + 1 = x.sizes.length → At a D p.1 → At b D p.2 → ¬(p.1 = -1 ∧ p.2 = -1) → MOk a b most s → RNodK x tx ta tb a b most (mNode x a b most (n + 1)) s p ∧ MOk a b most (mNode x a b most (n + 1) s p).1
 | 0, D, s, (i, j), hD, h1, h2, h3, ok => by
  have hl : lastB x (D : Int) = true := by unfold lastB; simp; omega
  rw [mNode_succ]
  exact ⟨fun t u G => rvisit_step t u i j G ha hb hm (by omega) h1 h2 h3 ok (fun h => by rw [hl] at h; cases h), nodeF_ok i j ha hb h1 h2 h3 ok (fun h => by rw [hl] at h; cases h)⟩
 | n + 1, D, s, (i, j), hD, h1, h2, h3, ok => by
  have ih := rvisit_sound (tx := tx) (ta := ta) (tb := tb) ha hb hm n (D + 1)
  rw [mNode_succ]
  exact ⟨fun t u G => rvisit_step t u i j G ha hb hm (by omega) h1 h2 h3 ok (fun _ s q _ o q1 q2 q3 => ih s q (by omega) q1 q2 q3 o), nodeF_ok i j ha hb h1 h2 h3 ok (fun _ s q _ o q1 q2 q3 => (ih s q (by omega) q1 q2 q3 o).2)⟩
theorem rise_of {x : Shp} {dim size : Int} : ∀ {l : List Cel} {p : Option Int}, listErr x dim size p l = 0 → Rise size (match p with | none => 0 | some k => k + 1) l
 | [], _, _ => trivial
 | c :: r, p, h => by
  unfold listErr at h
  split at h
  ·cases h
  ·rename_i h1
   split at h
   ·cases h
   ·rename_i h2
    split at h
    ·cases h
    ·rename_i h3
     have ih := rise_of h
     have hc : 0 ≤ c.child := by
      have h3 : cellOk x dim c = true := by simpa using h3
      unfold cellOk at h3
      split at h3
      ·rw [Bool.and_eq_true, decide_eq_true_eq] at h3; omega
      ·rw [Bool.and_eq_true, decide_eq_true_eq] at h3; exact h3.1
     refine ⟨?_, by omega, hc, ih⟩
     cases p with
     | none => show 0 ≤ c.key; omega
     | some k =>
      unfold overK at h2
      simp at h2
      show k + 1 ≤ c.key
      omega
theorem lists_rise {x : Shp} {dim : Int} : ∀ {ls : List (List Cel)} {ss : List Int} {p : Option Nat}, ls.length = ss.length → listsErr x dim p ss ls = 0 → ∀ t : Nat, Rise (ss.getD t 0) 0 (ls.getD t [])
 | [], _, _, _, _, t => by rw [show ([] : List (List Cel)).getD t [] = [] from rfl]; trivial
 | l :: r, [], _, h, _, _ => by simp at h
 | l :: r, s :: ss, p, hl, h, t => by
  unfold listsErr at h
  split at h
  ·rename_i h1; exact absurd h h1
  ·rename_i h1
   split at h
   ·cases h
   ·cases t with
    | zero =>
     have h1 : listErr0 x dim s l = 0 := Classical.byContradiction h1
     unfold listErr0 at h1
     split at h1
     ·cases h1
     ·exact rise_of h1
    | succ t => exact lists_rise (ls := r) (ss := ss) (by simpa using hl) h t
theorem row_size : ∀ {l : List Int} {p : Option Int}, rowMay p l = true → ∀ k ∈ l, 1 ≤ k ∧ k ≤ 200
 | [], _, _, _, h => by simp at h
 | n :: r, p, h, k, hk => by
  unfold rowMay at h
  simp only [Bool.and_eq_true, decide_eq_true_eq] at h
  rcases List.mem_cons.1 hk with rfl | hk
  ·exact ⟨h.1.1.1, h.1.1.2⟩
  ·exact row_size h.2 k hk
theorem prw_of {x : Shp} {l : List Nod} (h : loadErr x l = 0) (hlen : l.length ≤ 100000) (hs : ∀ n ∈ l, smallN n) (hi : ∀ n ∈ l, NodIn n) : Prw x l := by
 have hk := wlk_of h hlen hs
 have ha := (load_all h).2
 have hc : ∀ n ∈ l, checkErr x n = 0 := fun n hn => by
  obtain ⟨i, hi, rfl⟩ := List.getElem_of_mem hn
  exact (add_zero' (ha i hi)).1
 have hp : ∀ n ∈ l, n.lists.length = (x.sizes.getD n.dim.toNat []).length ∧ listsErr x n.dim none (x.sizes.getD n.dim.toNat []) n.lists = 0 ∧ 0 ≤ n.all.child := fun n hn => by
  have := hc n hn
  unfold checkErr at this
  simp only at this
  split at this
  ·cases this
  ·split at this
   ·cases this
   ·rename_i h2
    split at this
    ·rename_i h3; exact absurd this h3
    ·rename_i h3
     split at this
     ·cases this
     ·rename_i h4
      refine ⟨Classical.byContradiction fun h => h2 (.inl h), Classical.byContradiction h3, ?_⟩
      have h4 : cellOk x n.dim n.all = true := Classical.byContradiction fun h => h4 (.inr (by simpa using h))
      unfold cellOk at h4
      split at h4
      ·rw [Bool.and_eq_true, decide_eq_true_eq] at h4; omega
      ·rw [Bool.and_eq_true, decide_eq_true_eq] at h4; exact h4.1
 refine ⟨hk, hi, fun n hn => (hp n hn).1, fun n hn t => lists_rise (hp n hn).1 (hp n hn).2.1 t, fun n hn => (hp n hn).2.2, fun s hs k hk' => ?_⟩
 have hm := hk.w.may
 unfold shpMay at hm
 simp only [Bool.and_eq_true, List.all_eq_true] at hm
 have := hm.2 s hs
 unfold sizesMay at this
 simp only [Bool.and_eq_true] at this
 exact row_size this.2 k hk'
theorem addErr_most {x : Shp} {m m' : Int} {l : List Nod} {n : Nod} (hm : m ≤ m') (h : addErr x m l n ≠ 7) : addErr x m' l n = addErr x m l n := by
 unfold addErr at h ⊢
 by_cases h1 : checkErr x n ≠ 0
 ·rw [if_pos h1, if_pos h1]
 ·rw [if_neg h1] at h ⊢
  rw [if_neg h1]
  by_cases h2 : leadsB x l n = false
  ·rw [if_pos h2, if_pos h2]
  ·rw [if_neg h2] at h ⊢
   rw [if_neg h2]
   by_cases h3 : m ≤ l.length
   ·rw [if_pos h3] at h; exact absurd rfl h
   ·rw [if_neg h3, if_neg (by omega)]
section
variable {x : Shp} {f g : MSt → Int × Int → MSt × Int} {d : Int} (hfg : ∀ s p, (f s p).1.e ≠ 7 → g s p = f s p)
include hfg
theorem mCel_most {s : MSt} {key : Int} {p q : Cel} (h : (mCel x f d s key p q).1.e ≠ 7) : mCel x g d s key p q = mCel x f d s key p q := by
 unfold mCel at h ⊢
 split
 ·rfl
 ·rename_i h1
  rw [if_neg h1] at h
  split
  ·rfl
  ·rename_i h2
   rw [if_neg h2] at h
   rw [hfg s _ h]
theorem mList_most : ∀ (r : List (Int × Cel × Cel)) (s : MSt), (mList x f d s r).1.e ≠ 7 → mList x g d s r = mList x f d s r
 | [], _, _ => rfl
 | (key, p, q) :: r, s, h => by
  unfold mList at h ⊢
  have h1 : (mCel x f d s key p q).1.e ≠ 7 := fun e => h (by rw [mList_err (by rw [e]; decide)]; exact e)
  rw [mCel_most hfg h1, mList_most r _ h]
theorem mTiers_most : ∀ (r : List (List (Int × Cel × Cel))) (s : MSt), (mTiers x f d s r).1.e ≠ 7 → mTiers x g d s r = mTiers x f d s r
 | [], _, _ => rfl
 | t :: r, s, h => by
  unfold mTiers at h ⊢
  have h1 : (mList x f d s t).1.e ≠ 7 := fun e => h (by rw [mTiers_err (by rw [e]; decide)]; exact e)
  rw [mList_most hfg t s h1, mTiers_most r _ h]
theorem nodeF_most {a b : List Nod} {m m' : Int} (hm : m ≤ m') {s : MSt} {p : Int × Int} (h : (nodeF x a b m f s p).1.e ≠ 7) : nodeF x a b m' g s p = nodeF x a b m f s p := by
 unfold nodeF at h ⊢
 split
 ·rfl
 ·rename_i h0
  rw [h0] at h
  simp only at h
  split
  ·rfl
  ·rename_i h1
   rw [if_neg h1] at h
   simp only at h ⊢
   generalize max (getP a p.1).dim (getP b p.2).dim = d at *
   generalize mKeysOf (getP a p.1) (getP b p.2) (max (getP a p.1).lists.length (getP b p.2).lists.length) = KS at *
   have e1 : (mTiers x f d s KS).1.e ≠ 7 := fun e => by
    rw [mCel_err (by rw [e]; decide), if_pos (by rw [e]; decide)] at h
    exact h e
   rw [mTiers_most hfg KS s e1]
   generalize mTiers x f d s KS = r at *
   have e2 : (mCel x f d r.1 0 (mAll (getP a p.1) p.1) (mAll (getP b p.2) p.2)).1.e ≠ 7 := fun e => by
    rw [if_pos (by rw [e]; decide)] at h
    exact h e
   rw [mCel_most hfg e2]
   generalize mCel x f d r.1 0 (mAll (getP a p.1) p.1) (mAll (getP b p.2) p.2) = t at *
   split
   ·rfl
   ·rename_i h3
    rw [if_neg h3] at h
    have e3 : addErr x m t.1.N ⟨d, r.2, t.2⟩ ≠ 7 := fun e => by
     rw [if_pos (by rw [e]; decide)] at h
     exact h e
    rw [addErr_most hm e3]
end
theorem mNode_most {x : Shp} {a b : List Nod} {m m' : Int} (hm : m ≤ m') : ∀ (n : Nat) (s : MSt) (p : Int × Int), (mNode x a b m n s p).1.e ≠ 7 → mNode x a b m' n s p = mNode x a b m n s p
 | 0, _, _, _ => rfl
 | n + 1, s, p, h => by
  rw [mNode_succ] at h ⊢
  rw [mNode_succ]
  exact nodeF_most (fun s p => mNode_most hm n s p) hm h
theorem mTop_most {x : Shp} {a b : List Nod} {m m' : Int} (hm : m ≤ m') (h : (mTop x a b m).e ≠ 7) : mTop x a b m' = mTop x a b m := by
 unfold mTop at h ⊢
 split
 ·rfl
 ·rename_i h1
  rw [if_neg h1] at h
  rw [mNode_most hm _ _ _ h]
def MRes (T : MSt) (r : AV) : Prop :=
 (T.e ≠ 0 ∧ ∃ t, r = .tup [.sl t [], .i T.e]) ∨ (T.e = 0 ∧ ∃ t, r = .tup [.sl t (rN T.N), .i 0])
set_option maxHeartbeats 4000000 in
theorem r30merge_sound {x : Shp} {tx ta tb : Tok} {a b : List Nod} (most : Int) (H : AHeap) (ha : Prw x a) (hb : Prw x b) (hm0 : 0 ≤ most) (hm : most ≤ 131072) (hwa : wholeB x a = true) (hwb : wholeB x b = true) :
  Sound Try.prog 44 [.agg [.sl tx (rII x.sizes), .i x.measures], .sl ta (rN a), .sl tb (rN b), .i most] H (fun r G' => AHeap.Ext H G' ∧ MRes (mTop x a b most) r) := by
 have hla := ha.k.w.len
 have hlb := hb.k.w.len
 have p1 := ha.k.w.bounds.1
 by_cases hne : a = [] ∧ b = []
 ·obtain ⟨rfl, rfl⟩ := hne
  have hT : mTop x [] [] most = ⟨[], [], 0⟩ := if_pos ⟨rfl, rfl⟩
  rw [hT]
  have w0 : IntKind.i64.wrap (((0 : Nat) : Int) + ((0 : Nat) : Int)) = 0 := by decide
  refine fn_soundQ hE cf44 (Nat.le_of_ble_eq_true rfl) fun Q hQr hQn => ?_
  ((have hd := trivial; repeat' (first | ((first | apply GdK_st | apply GdK_sf | apply CondK_s) <;> intro hd <;> (try simp only [hd])) | simp (disch := first | assumption | omega | (simp only [nx] <;> omega) | fail) only [hd, hQr, hQn, c44_0, ↓YA, YB, YC, YE, YF, YZ, ↓reduceIte, Nat.reduceEqDiff, Nat.reduceAdd, Nat.reduceMul, Nat.reduceLeDiff, Int.reduceToNat, Int.reduceLE, Int.reduceLT, Int.reduceGT, Int.reduceGE, Int.reduceAdd, Int.reduceSub, Int.reduceNeg, Int.reduceBEq, Int.reduceBNe, List.length_map, List.length_nil, List.map_nil, w0])) <;> (try (have hd_ : True := hd; clear hd_ hd)))
  exact fin_keep ⟨by exact AXT, .inr ⟨rfl, _, rfl⟩⟩
 ·obtain ⟨n, hn⟩ : ∃ n, x.sizes.length = n + 1 := ⟨x.sizes.length - 1, by omega⟩
  have hT : mTop x a b most = (mNode x a b most (n + 1) ⟨[], [], 0⟩ ((a.length : Int) - 1, (b.length : Int) - 1)).1 := by
   unfold mTop; rw [if_neg hne, hn]
  have hl0 : ¬(a.length = 0 ∧ b.length = 0) := fun h => hne ⟨List.length_eq_zero_iff.1 h.1, List.length_eq_zero_iff.1 h.2⟩
  have hV := (rvisit_sound (tx := tx) (ta := ta) (tb := tb) (most := most) ha hb hm n 0 ⟨[], [], 0⟩ ((a.length : Int) - 1, (b.length : Int) - 1) (by omega) (top_at hwa) (top_at hwb) (fun h => hl0 ⟨by have := h.1; omega, by have := h.2; omega⟩) ⟨rfl, hm0, fun n h => by simp at h, fun j n p h => by simp at h⟩).1
  have wS : IntKind.i64.wrap ((a.length : Int) + (b.length : Int)) = (a.length : Int) + (b.length : Int) := wrap_of (by omega) (by omega)
  have wA : IntKind.i64.wrap ((a.length : Int) - 1) = (a.length : Int) - 1 := wrap_of (by omega) (by omega)
  have wB : IntKind.i64.wrap ((b.length : Int) - 1) = (b.length : Int) - 1 := wrap_of (by omega) (by omega)
  have d0 : ((a.length : Int) + (b.length : Int) == 0) = false := by rw [beq_eq_false_iff_ne]; omega
  have hV : ∀ G, Sound Try.prog 72 [.agg [.sl tx (rII x.sizes), .i x.measures], .sl ta (rN a), .sl tb (rN b), .agg [.sl .full [], .sl .full [], .i 0], .i most, .i ((a.length : Int) - 1), .i ((b.length : Int) - 1)] G (fun r G' => AHeap.Ext G G' ∧ ∃ t' u', r = .tup [.agg (eCube t' u' (mNode x a b most (n + 1) ⟨[], [], 0⟩ ((a.length : Int) - 1, (b.length : Int) - 1)).1), .i (mNode x a b most (n + 1) ⟨[], [], 0⟩ ((a.length : Int) - 1, (b.length : Int) - 1)).2]) := fun G => hV .full .full G
  rw [hT]
  generalize mNode x a b most (n + 1) ⟨[], [], 0⟩ ((a.length : Int) - 1, (b.length : Int) - 1) = T at *
  refine fn_soundQ hE cf44 (Nat.le_of_ble_eq_true rfl) fun Q hQr hQn => ?_
  ((have hd := trivial; repeat' (first | ((first | apply GdK_st | apply GdK_sf | apply CondK_s) <;> intro hd <;> (try simp only [hd])) | simp (disch := first | assumption | omega | (simp only [nx] <;> omega) | fail) only [hd, hQr, hQn, c44_0, ↓YA, YB, YC, YE, YF, YZ, ↓reduceIte, Nat.reduceEqDiff, Nat.reduceAdd, Nat.reduceMul, Nat.reduceLeDiff, Int.reduceToNat, Int.reduceLE, Int.reduceLT, Int.reduceGT, Int.reduceGE, Int.reduceAdd, Int.reduceSub, Int.reduceNeg, Int.reduceBEq, Int.reduceBNe, List.length_map, wS, wA, wB, d0])) <;> (try (have hd_ : True := hd; clear hd_ hd)))
  refine CallK.use (hV _) ?_
  rintro r G ⟨hx1, t1, u1, rfl⟩
  have hxG : AHeap.Ext H G := AHeap.Ext.trans (by exact AXT) hx1
  by_cases he : T.1.e = 0
  ·((have hd := trivial; repeat' (first | ((first | apply GdK_st | apply GdK_sf | apply CondK_s) <;> intro hd <;> (try simp only [hd])) | simp (disch := first | assumption | omega | (simp only [nx] <;> omega) | fail) only [hd, hQr, hQn, c44_0, ↓YA, YB, YC, YE, YF, YZ, ↓reduceIte, Nat.reduceEqDiff, Nat.reduceAdd, Nat.reduceMul, Nat.reduceLeDiff, Int.reduceToNat, Int.reduceLE, Int.reduceLT, Int.reduceGT, Int.reduceGE, Int.reduceAdd, Int.reduceSub, Int.reduceNeg, Int.reduceBEq, Int.reduceBNe, eCube, he])) <;> (try (have hd_ : True := hd; clear hd_ hd)))
   exact fin_keep ⟨by exact AXT, .inr ⟨he, t1, rfl⟩⟩
  ·have d1 : (T.1.e != 0) = true := by simpa using he
   ((have hd := trivial; repeat' (first | ((first | apply GdK_st | apply GdK_sf | apply CondK_s) <;> intro hd <;> (try simp only [hd])) | simp (disch := first | assumption | omega | (simp only [nx] <;> omega) | fail) only [hd, hQr, hQn, c44_0, ↓YA, YB, YC, YE, YF, YZ, ↓reduceIte, Nat.reduceEqDiff, Nat.reduceAdd, Nat.reduceMul, Nat.reduceLeDiff, Int.reduceToNat, Int.reduceLE, Int.reduceLT, Int.reduceGT, Int.reduceGE, Int.reduceAdd, Int.reduceSub, Int.reduceNeg, Int.reduceBEq, Int.reduceBNe, eCube, d1])) <;> (try (have hd_ : True := hd; clear hd_ hd)))
   exact fin_keep ⟨by exact AXT, .inl ⟨he, _, rfl⟩⟩
set_option maxHeartbeats 8000000 in
set_option maxRecDepth 100000 in
theorem pairMerges_sound (x : Shp) (l m : List Nod) (most : Int) (H : AHeap) (hli : ∀ n ∈ l, NodIn n) (hmi : ∀ n ∈ m, NodIn n) : Sound Try.prog 9 [.agg (eShp x), .sl .no (rN l), .sl .no (rN m), .i most] H fun r _ => r = .b true := by
 obtain ⟨m4, hm4⟩ : ∃ m4, m4 = if (400 : Int) < most then 400 else most := ⟨_, rfl⟩
 obtain ⟨E, hEE⟩ : ∃ E, E = (mTop x l m m4).e := ⟨_, rfl⟩
 refine fn_soundQ hE cf9 (Nat.le_of_ble_eq_true rfl) fun Q hQr hQn => ?_
 ((have hd := trivial; repeat' (first | ((first | apply GdK_st | apply GdK_sf | apply CondK_s) <;> intro hd <;> (try simp only [hd])) | simp (disch := first | assumption | omega | (simp only [nx] <;> omega) | fail) only [hd, hQr, hQn, c9_0, ↓YA, YB, YC, YE, YF, YZ, ↓reduceIte, Nat.reduceEqDiff, Nat.reduceAdd, Nat.reduceMul, Nat.reduceLeDiff, Int.reduceToNat, Int.reduceLE, Int.reduceLT, Int.reduceGT, Int.reduceGE, Int.reduceAdd, Int.reduceSub, Int.reduceNeg, Int.reduceBEq, Int.reduceBNe])) <;> (try (have hd_ : True := hd; clear hd_ hd)))
 (refine CallK.use (small_sound x _) ?_; rintro _ _ ⟨rfl, k1, rfl⟩)
 have s1 := bfc (small x)
 rcases s1 with s1 | s1
 ·((have hd := trivial; repeat' (first | ((first | apply GdK_st | apply GdK_sf | apply CondK_s) <;> intro hd <;> (try simp only [hd])) | simp (disch := first | assumption | omega | (simp only [nx] <;> omega) | fail) only [hd, hQr, hQn, c9_0, ↓YA, YB, YC, YE, YF, YZ, ↓reduceIte, Nat.reduceEqDiff, Nat.reduceAdd, Nat.reduceMul, Nat.reduceLeDiff, Int.reduceToNat, Int.reduceLE, Int.reduceLT, Int.reduceGT, Int.reduceGE, Int.reduceAdd, Int.reduceSub, Int.reduceNeg, Int.reduceBEq, Int.reduceBNe, s1])) <;> (try (have hd_ : True := hd; clear hd_ hd)))
  (refine CallK.use (awake30u _) ?_; rintro _ _ ⟨rfl, kk, rfl⟩)
  ((have hd := trivial; repeat' (first | ((first | apply GdK_st | apply GdK_sf | apply CondK_s) <;> intro hd <;> (try simp only [hd])) | simp (disch := first | assumption | omega | (simp only [nx] <;> omega) | fail) only [hd, hQr, hQn, c9_0, ↓YA, YB, YC, YE, YF, YZ, ↓reduceIte, Nat.reduceEqDiff, Nat.reduceAdd, Nat.reduceMul, Nat.reduceLeDiff, Int.reduceToNat, Int.reduceLE, Int.reduceLT, Int.reduceGT, Int.reduceGE, Int.reduceAdd, Int.reduceSub, Int.reduceNeg, Int.reduceBEq, Int.reduceBNe])) <;> (try (have hd_ : True := hd; clear hd_ hd)))
  exact fin_keep rfl
 ((have hd := trivial; repeat' (first | ((first | apply GdK_st | apply GdK_sf | apply CondK_s) <;> intro hd <;> (try simp only [hd])) | simp (disch := first | assumption | omega | (simp only [nx] <;> omega) | fail) only [hd, hQr, hQn, c9_0, ↓YA, YB, YC, YE, YF, YZ, ↓reduceIte, Nat.reduceEqDiff, Nat.reduceAdd, Nat.reduceMul, Nat.reduceLeDiff, Int.reduceToNat, Int.reduceLE, Int.reduceLT, Int.reduceGT, Int.reduceGE, Int.reduceAdd, Int.reduceSub, Int.reduceNeg, Int.reduceBEq, Int.reduceBNe, s1])) <;> (try (have hd_ : True := hd; clear hd_ hd)))
 refine CallK.use (few_sound .no l 15 _ (by omega)) ?_
 rintro r H1 ⟨hx1, b1, rfl, f1⟩
 cases b1 with
 | false =>
  ((have hd := trivial; repeat' (first | ((first | apply GdK_st | apply GdK_sf | apply CondK_s) <;> intro hd <;> (try simp only [hd])) | simp (disch := first | assumption | omega | (simp only [nx] <;> omega) | fail) only [hd, hQr, hQn, c9_0, ↓YA, YB, YC, YE, YF, YZ, ↓reduceIte, Nat.reduceEqDiff, Nat.reduceAdd, Nat.reduceMul, Nat.reduceLeDiff, Int.reduceToNat, Int.reduceLE, Int.reduceLT, Int.reduceGT, Int.reduceGE, Int.reduceAdd, Int.reduceSub, Int.reduceNeg, Int.reduceBEq, Int.reduceBNe])) <;> (try (have hd_ : True := hd; clear hd_ hd)))
  (refine CallK.use (awake30u _) ?_; rintro _ _ ⟨rfl, kk, rfl⟩)
  ((have hd := trivial; repeat' (first | ((first | apply GdK_st | apply GdK_sf | apply CondK_s) <;> intro hd <;> (try simp only [hd])) | simp (disch := first | assumption | omega | (simp only [nx] <;> omega) | fail) only [hd, hQr, hQn, c9_0, ↓YA, YB, YC, YE, YF, YZ, ↓reduceIte, Nat.reduceEqDiff, Nat.reduceAdd, Nat.reduceMul, Nat.reduceLeDiff, Int.reduceToNat, Int.reduceLE, Int.reduceLT, Int.reduceGT, Int.reduceGE, Int.reduceAdd, Int.reduceSub, Int.reduceNeg, Int.reduceBEq, Int.reduceBNe])) <;> (try (have hd_ : True := hd; clear hd_ hd)))
  exact fin_keep rfl
 | true =>
 have f1 := f1 rfl
 ((have hd := trivial; repeat' (first | ((first | apply GdK_st | apply GdK_sf | apply CondK_s) <;> intro hd <;> (try simp only [hd])) | simp (disch := first | assumption | omega | (simp only [nx] <;> omega) | fail) only [hd, hQr, hQn, c9_0, ↓YA, YB, YC, YE, YF, YZ, ↓reduceIte, Nat.reduceEqDiff, Nat.reduceAdd, Nat.reduceMul, Nat.reduceLeDiff, Int.reduceToNat, Int.reduceLE, Int.reduceLT, Int.reduceGT, Int.reduceGE, Int.reduceAdd, Int.reduceSub, Int.reduceNeg, Int.reduceBEq, Int.reduceBNe])) <;> (try (have hd_ : True := hd; clear hd_ hd)))
 refine CallK.use (few_sound .no m 15 _ (by omega)) ?_
 rintro r H2 ⟨hx2, b2, rfl, f2⟩
 cases b2 with
 | false =>
  ((have hd := trivial; repeat' (first | ((first | apply GdK_st | apply GdK_sf | apply CondK_s) <;> intro hd <;> (try simp only [hd])) | simp (disch := first | assumption | omega | (simp only [nx] <;> omega) | fail) only [hd, hQr, hQn, c9_0, ↓YA, YB, YC, YE, YF, YZ, ↓reduceIte, Nat.reduceEqDiff, Nat.reduceAdd, Nat.reduceMul, Nat.reduceLeDiff, Int.reduceToNat, Int.reduceLE, Int.reduceLT, Int.reduceGT, Int.reduceGE, Int.reduceAdd, Int.reduceSub, Int.reduceNeg, Int.reduceBEq, Int.reduceBNe])) <;> (try (have hd_ : True := hd; clear hd_ hd)))
  (refine CallK.use (awake30u _) ?_; rintro _ _ ⟨rfl, kk, rfl⟩)
  ((have hd := trivial; repeat' (first | ((first | apply GdK_st | apply GdK_sf | apply CondK_s) <;> intro hd <;> (try simp only [hd])) | simp (disch := first | assumption | omega | (simp only [nx] <;> omega) | fail) only [hd, hQr, hQn, c9_0, ↓YA, YB, YC, YE, YF, YZ, ↓reduceIte, Nat.reduceEqDiff, Nat.reduceAdd, Nat.reduceMul, Nat.reduceLeDiff, Int.reduceToNat, Int.reduceLE, Int.reduceLT, Int.reduceGT, Int.reduceGE, Int.reduceAdd, Int.reduceSub, Int.reduceNeg, Int.reduceBEq, Int.reduceBNe])) <;> (try (have hd_ : True := hd; clear hd_ hd)))
  exact fin_keep rfl
 | true =>
 have f2 := f2 rfl
 have hl := f1.1
 have hm := f2.1
 have hs1 := f1.small
 have hs2 := f2.small
 have hx12 := (hx1.trans0 hx2).ext
 have ga := hx12.get _ _ (by simp only [AHeap.get_bump]; exact AHeap.get_alloc_self : ((H.alloc (.cells (eShp x) 24)).bump k1).get H.next = some (.cells (eShp x) 24))
 ((have hd := trivial; repeat' (first | ((first | apply GdK_st | apply GdK_sf | apply CondK_s) <;> intro hd <;> (try simp only [hd])) | simp (disch := first | assumption | omega | (simp only [nx] <;> omega) | fail) only [hd, hQr, hQn, c9_0, ↓YA, YB, YC, YE, YF, YZ, ↓reduceIte, Nat.reduceEqDiff, Nat.reduceAdd, Nat.reduceMul, Nat.reduceLeDiff, Int.reduceToNat, Int.reduceLE, Int.reduceLT, Int.reduceGT, Int.reduceGE, Int.reduceAdd, Int.reduceSub, Int.reduceNeg, Int.reduceBEq, Int.reduceBNe, ga])) <;> (try (have hd_ : True := hd; clear hd_ hd)))
 refine CallK.use (load_sound .no x l _ (by omega) hs1) ?_
 rintro r H3 ⟨hx3, hr⟩
 have ga3 := hx3.get _ _ ga
 obtain ⟨r1, hr1⟩ : ∃ r1, r = .tup [r1, .i (loadErr x l)] ∧ (loadErr x l = 0 → ∃ id, r1 = .ptr id 0 ∧ ArNew x l 131072 H2 H3 id) := by
  rcases hr with ⟨h1, rfl⟩ | ⟨h1, id, rfl, h2⟩
  ·exact ⟨_, rfl, fun h => absurd h h1⟩
  ·exact ⟨_, by rw [h1], fun _ => ⟨id, rfl, h2⟩⟩
 obtain ⟨rfl, ha⟩ := hr1
 clear hr
 ((have hd := trivial; repeat' (first | ((first | apply GdK_st | apply GdK_sf | apply CondK_s) <;> intro hd <;> (try simp only [hd])) | simp (disch := first | assumption | omega | (simp only [nx] <;> omega) | fail) only [hd, hQr, hQn, c9_0, ↓YA, YB, YC, YE, YF, YZ, ↓reduceIte, Nat.reduceEqDiff, Nat.reduceAdd, Nat.reduceMul, Nat.reduceLeDiff, Int.reduceToNat, Int.reduceLE, Int.reduceLT, Int.reduceGT, Int.reduceGE, Int.reduceAdd, Int.reduceSub, Int.reduceNeg, Int.reduceBEq, Int.reduceBNe, ga3])) <;> (try (have hd_ : True := hd; clear hd_ hd)))
 refine CallK.use (load_sound .no x m _ (by omega) hs2) ?_
 rintro r H4 ⟨hx4, hr⟩
 have ga4 := hx4.get _ _ ga3
 obtain ⟨r2, hr2⟩ : ∃ r2, r = .tup [r2, .i (loadErr x m)] ∧ (loadErr x m = 0 → ∃ id, r2 = .ptr id 0 ∧ ArNew x m 131072 H3 H4 id) := by
  rcases hr with ⟨h1, rfl⟩ | ⟨h1, id, rfl, h2⟩
  ·exact ⟨_, rfl, fun h => absurd h h1⟩
  ·exact ⟨_, by rw [h1], fun _ => ⟨id, rfl, h2⟩⟩
 obtain ⟨rfl, hb⟩ := hr2
 clear hr
 by_cases e1 : loadErr x l = 0
 case neg =>
  have d1 : (loadErr x l != 0) = true := by simpa using e1
  ((have hd := trivial; repeat' (first | ((first | apply GdK_st | apply GdK_sf | apply CondK_s) <;> intro hd <;> (try simp only [hd])) | simp (disch := first | assumption | omega | (simp only [nx] <;> omega) | fail) only [hd, hQr, hQn, c9_0, ↓YA, YB, YC, YE, YF, YZ, ↓reduceIte, Nat.reduceEqDiff, Nat.reduceAdd, Nat.reduceMul, Nat.reduceLeDiff, Int.reduceToNat, Int.reduceLE, Int.reduceLT, Int.reduceGT, Int.reduceGE, Int.reduceAdd, Int.reduceSub, Int.reduceNeg, Int.reduceBEq, Int.reduceBNe, d1])) <;> (try (have hd_ : True := hd; clear hd_ hd)))
  (refine CallK.use (awake30u _) ?_; rintro _ _ ⟨rfl, kk, rfl⟩)
  ((have hd := trivial; repeat' (first | ((first | apply GdK_st | apply GdK_sf | apply CondK_s) <;> intro hd <;> (try simp only [hd])) | simp (disch := first | assumption | omega | (simp only [nx] <;> omega) | fail) only [hd, hQr, hQn, c9_0, ↓YA, YB, YC, YE, YF, YZ, ↓reduceIte, Nat.reduceEqDiff, Nat.reduceAdd, Nat.reduceMul, Nat.reduceLeDiff, Int.reduceToNat, Int.reduceLE, Int.reduceLT, Int.reduceGT, Int.reduceGE, Int.reduceAdd, Int.reduceSub, Int.reduceNeg, Int.reduceBEq, Int.reduceBNe])) <;> (try (have hd_ : True := hd; clear hd_ hd)))
  exact fin_keep rfl
 by_cases e2 : loadErr x m = 0
 case neg =>
  have d1 : (loadErr x l != 0) = false := by simpa using e1
  have d2 : (loadErr x m != 0) = true := by simpa using e2
  ((have hd := trivial; repeat' (first | ((first | apply GdK_st | apply GdK_sf | apply CondK_s) <;> intro hd <;> (try simp only [hd])) | simp (disch := first | assumption | omega | (simp only [nx] <;> omega) | fail) only [hd, hQr, hQn, c9_0, ↓YA, YB, YC, YE, YF, YZ, ↓reduceIte, Nat.reduceEqDiff, Nat.reduceAdd, Nat.reduceMul, Nat.reduceLeDiff, Int.reduceToNat, Int.reduceLE, Int.reduceLT, Int.reduceGT, Int.reduceGE, Int.reduceAdd, Int.reduceSub, Int.reduceNeg, Int.reduceBEq, Int.reduceBNe, d1, d2])) <;> (try (have hd_ : True := hd; clear hd_ hd)))
  (refine CallK.use (awake30u _) ?_; rintro _ _ ⟨rfl, kk, rfl⟩)
  ((have hd := trivial; repeat' (first | ((first | apply GdK_st | apply GdK_sf | apply CondK_s) <;> intro hd <;> (try simp only [hd])) | simp (disch := first | assumption | omega | (simp only [nx] <;> omega) | fail) only [hd, hQr, hQn, c9_0, ↓YA, YB, YC, YE, YF, YZ, ↓reduceIte, Nat.reduceEqDiff, Nat.reduceAdd, Nat.reduceMul, Nat.reduceLeDiff, Int.reduceToNat, Int.reduceLE, Int.reduceLT, Int.reduceGT, Int.reduceGE, Int.reduceAdd, Int.reduceSub, Int.reduceNeg, Int.reduceBEq, Int.reduceBNe])) <;> (try (have hd_ : True := hd; clear hd_ hd)))
  exact fin_keep rfl
 obtain ⟨ia, rfl, ha'⟩ := ha e1
 obtain ⟨ib, rfl, hb'⟩ := hb e2
 have pa := prw_of e1 (by omega) hs1 hli
 have pb := prw_of e2 (by omega) hs2 hmi
 have wa := pa.k.w
 have wb := pb.k.w
 have ha := (LoadQ.arw ha').ext hx4
 have hb := LoadQ.arw hb'
 have da := (load_w e1 (by omega) hs1).2
 have db := (load_w e2 (by omega) hs2).2
 have d1 : (loadErr x l != 0) = false := by simpa using e1
 have d2 : (loadErr x m != 0) = false := by simpa using e2
 obtain ⟨p1, p2, p3⟩ := wa.bounds
 ((have hd := trivial; repeat' (first | ((first | apply GdK_st | apply GdK_sf | apply CondK_s) <;> intro hd <;> (try simp only [hd])) | simp (disch := first | assumption | omega | (simp only [nx] <;> omega) | fail) only [hd, hQr, hQn, c9_0, ↓YA, YB, YC, YE, YF, YZ, ↓reduceIte, Nat.reduceEqDiff, Nat.reduceAdd, Nat.reduceMul, Nat.reduceLeDiff, Int.reduceToNat, Int.reduceLE, Int.reduceLT, Int.reduceGT, Int.reduceGE, Int.reduceAdd, Int.reduceSub, Int.reduceNeg, Int.reduceBEq, Int.reduceBNe, d1, d2, ga4])) <;> (try (have hd_ : True := hd; clear hd_ hd)))
 (refine CallK.use (loads_sound .no x l _ (by omega) hs1) ?_; rintro _ _ ⟨rfl, k3, rfl⟩)
 ((have hd := trivial; repeat' (first | ((first | apply GdK_st | apply GdK_sf | apply CondK_s) <;> intro hd <;> (try simp only [hd])) | simp (disch := first | assumption | omega | (simp only [nx] <;> omega) | fail) only [hd, hQr, hQn, c9_0, ↓YA, YB, YC, YE, YF, YZ, ↓reduceIte, Nat.reduceEqDiff, Nat.reduceAdd, Nat.reduceMul, Nat.reduceLeDiff, Int.reduceToNat, Int.reduceLE, Int.reduceLT, Int.reduceGT, Int.reduceGE, Int.reduceAdd, Int.reduceSub, Int.reduceNeg, Int.reduceBEq, Int.reduceBNe, d1, d2, ga4])) <;> (try (have hd_ : True := hd; clear hd_ hd)))
 (refine CallK.use (loads_sound .no x m _ (by omega) hs2) ?_; rintro _ _ ⟨rfl, k4, rfl⟩)
 have hx5 : AHeap.Ext H4 ((H4.bump k3).bump k4) := by exact AXT
 have ga5 := hx5.get _ _ ga4
 have ha5 := ha.ext hx5
 have hb5 := hb.ext hx5
 generalize (H4.bump k3).bump k4 = H5 at *
 ((have hd := trivial; repeat' (first | ((first | apply GdK_st | apply GdK_sf | apply CondK_s) <;> intro hd <;> (try simp only [hd])) | simp (disch := first | assumption | omega | (simp only [nx] <;> omega) | fail) only [hd, hQr, hQn, c9_0, ↓YA, YB, YC, YE, YF, YZ, ↓reduceIte, Nat.reduceEqDiff, Nat.reduceAdd, Nat.reduceMul, Nat.reduceLeDiff, Int.reduceToNat, Int.reduceLE, Int.reduceLT, Int.reduceGT, Int.reduceGE, Int.reduceAdd, Int.reduceSub, Int.reduceNeg, Int.reduceBEq, Int.reduceBNe, d1, d2, ga5])) <;> (try (have hd_ : True := hd; clear hd_ hd)))
 by_cases hc : wholeB x l = true ∧ wholeB x m = true ∧ 0 ≤ most ∧ most ≤ 131072
 case neg =>
  have hP : Sound Try.prog 43 [.ptr ia 0, .ptr ib 0, .i most] H5 (fun r H' => AHeap.Ext H5 H' ∧ r = .tup [.sc (.pointer none), .i 2]) := (pmerge_sound most ha5 hb5 pa pb).mono fun r H' h => by
   unfold MergeQ at h
   rw [if_neg hc] at h
   exact h
  refine CallK.use hP ?_
  rintro r H6 ⟨hx6, rfl⟩
  have ga6 := hx6.get _ _ ga5
  ((have hd := trivial; repeat' (first | ((first | apply GdK_st | apply GdK_sf | apply CondK_s) <;> intro hd <;> (try simp only [hd])) | simp (disch := first | assumption | omega | (simp only [nx] <;> omega) | fail) only [hd, hQr, hQn, c9_0, ↓YA, YB, YC, YE, YF, YZ, ↓reduceIte, Nat.reduceEqDiff, Nat.reduceAdd, Nat.reduceMul, Nat.reduceLeDiff, Int.reduceToNat, Int.reduceLE, Int.reduceLT, Int.reduceGT, Int.reduceGE, Int.reduceAdd, Int.reduceSub, Int.reduceNeg, Int.reduceBEq, Int.reduceBNe, ga6])) <;> (try (have hd_ : True := hd; clear hd_ hd)))
  have w1 := bfc (wholeB x l)
  rcases w1 with w1 | w1
  ·(refine CallK.use (rwhole_sound .no x l _ (by omega) (by omega) hs1 da) ?_; rintro _ _ ⟨rfl, k6, rfl⟩)
   ((have hd := trivial; repeat' (first | ((first | apply GdK_st | apply GdK_sf | apply CondK_s) <;> intro hd <;> (try simp only [hd])) | simp (disch := first | assumption | omega | (simp only [nx] <;> omega) | fail) only [hd, hQr, hQn, c9_0, ↓YA, YB, YC, YE, YF, YZ, ↓reduceIte, Nat.reduceEqDiff, Nat.reduceAdd, Nat.reduceMul, Nat.reduceLeDiff, Int.reduceToNat, Int.reduceLE, Int.reduceLT, Int.reduceGT, Int.reduceGE, Int.reduceAdd, Int.reduceSub, Int.reduceNeg, Int.reduceBEq, Int.reduceBNe, w1])) <;> (try (have hd_ : True := hd; clear hd_ hd)))
   (refine CallK.use (awake30u _) ?_; rintro _ _ ⟨rfl, kk, rfl⟩)
   ((have hd := trivial; repeat' (first | ((first | apply GdK_st | apply GdK_sf | apply CondK_s) <;> intro hd <;> (try simp only [hd])) | simp (disch := first | assumption | omega | (simp only [nx] <;> omega) | fail) only [hd, hQr, hQn, c9_0, ↓YA, YB, YC, YE, YF, YZ, ↓reduceIte, Nat.reduceEqDiff, Nat.reduceAdd, Nat.reduceMul, Nat.reduceLeDiff, Int.reduceToNat, Int.reduceLE, Int.reduceLT, Int.reduceGT, Int.reduceGE, Int.reduceAdd, Int.reduceSub, Int.reduceNeg, Int.reduceBEq, Int.reduceBNe])) <;> (try (have hd_ : True := hd; clear hd_ hd)))
   exact fin_keep rfl
  (refine CallK.use (rwhole_sound .no x l _ (by omega) (by omega) hs1 da) ?_; rintro _ _ ⟨rfl, k6, rfl⟩)
  ((have hd := trivial; repeat' (first | ((first | apply GdK_st | apply GdK_sf | apply CondK_s) <;> intro hd <;> (try simp only [hd])) | simp (disch := first | assumption | omega | (simp only [nx] <;> omega) | fail) only [hd, hQr, hQn, c9_0, ↓YA, YB, YC, YE, YF, YZ, ↓reduceIte, Nat.reduceEqDiff, Nat.reduceAdd, Nat.reduceMul, Nat.reduceLeDiff, Int.reduceToNat, Int.reduceLE, Int.reduceLT, Int.reduceGT, Int.reduceGE, Int.reduceAdd, Int.reduceSub, Int.reduceNeg, Int.reduceBEq, Int.reduceBNe, w1, ga6])) <;> (try (have hd_ : True := hd; clear hd_ hd)))
  have w2 := bfc (wholeB x m)
  rcases w2 with w2 | w2
  ·(refine CallK.use (rwhole_sound .no x m _ (by omega) (by omega) hs2 db) ?_; rintro _ _ ⟨rfl, k7, rfl⟩)
   ((have hd := trivial; repeat' (first | ((first | apply GdK_st | apply GdK_sf | apply CondK_s) <;> intro hd <;> (try simp only [hd])) | simp (disch := first | assumption | omega | (simp only [nx] <;> omega) | fail) only [hd, hQr, hQn, c9_0, ↓YA, YB, YC, YE, YF, YZ, ↓reduceIte, Nat.reduceEqDiff, Nat.reduceAdd, Nat.reduceMul, Nat.reduceLeDiff, Int.reduceToNat, Int.reduceLE, Int.reduceLT, Int.reduceGT, Int.reduceGE, Int.reduceAdd, Int.reduceSub, Int.reduceNeg, Int.reduceBEq, Int.reduceBNe, w2])) <;> (try (have hd_ : True := hd; clear hd_ hd)))
   (refine CallK.use (awake30u _) ?_; rintro _ _ ⟨rfl, kk, rfl⟩)
   ((have hd := trivial; repeat' (first | ((first | apply GdK_st | apply GdK_sf | apply CondK_s) <;> intro hd <;> (try simp only [hd])) | simp (disch := first | assumption | omega | (simp only [nx] <;> omega) | fail) only [hd, hQr, hQn, c9_0, ↓YA, YB, YC, YE, YF, YZ, ↓reduceIte, Nat.reduceEqDiff, Nat.reduceAdd, Nat.reduceMul, Nat.reduceLeDiff, Int.reduceToNat, Int.reduceLE, Int.reduceLT, Int.reduceGT, Int.reduceGE, Int.reduceAdd, Int.reduceSub, Int.reduceNeg, Int.reduceBEq, Int.reduceBNe])) <;> (try (have hd_ : True := hd; clear hd_ hd)))
   exact fin_keep rfl
  by_cases m0 : most < 0
  ·have m0' : decide (most < 0) = true := decide_eq_true m0
   (refine CallK.use (rwhole_sound .no x m _ (by omega) (by omega) hs2 db) ?_; rintro _ _ ⟨rfl, k7, rfl⟩)
   ((have hd := trivial; repeat' (first | ((first | apply GdK_st | apply GdK_sf | apply CondK_s) <;> intro hd <;> (try simp only [hd])) | simp (disch := first | assumption | omega | (simp only [nx] <;> omega) | fail) only [hd, hQr, hQn, c9_0, ↓YA, YB, YC, YE, YF, YZ, ↓reduceIte, Nat.reduceEqDiff, Nat.reduceAdd, Nat.reduceMul, Nat.reduceLeDiff, Int.reduceToNat, Int.reduceLE, Int.reduceLT, Int.reduceGT, Int.reduceGE, Int.reduceAdd, Int.reduceSub, Int.reduceNeg, Int.reduceBEq, Int.reduceBNe, w2, m0'])) <;> (try (have hd_ : True := hd; clear hd_ hd)))
   (refine CallK.use (awake30u _) ?_; rintro _ _ ⟨rfl, kk, rfl⟩)
   ((have hd := trivial; repeat' (first | ((first | apply GdK_st | apply GdK_sf | apply CondK_s) <;> intro hd <;> (try simp only [hd])) | simp (disch := first | assumption | omega | (simp only [nx] <;> omega) | fail) only [hd, hQr, hQn, c9_0, ↓YA, YB, YC, YE, YF, YZ, ↓reduceIte, Nat.reduceEqDiff, Nat.reduceAdd, Nat.reduceMul, Nat.reduceLeDiff, Int.reduceToNat, Int.reduceLE, Int.reduceLT, Int.reduceGT, Int.reduceGE, Int.reduceAdd, Int.reduceSub, Int.reduceNeg, Int.reduceBEq, Int.reduceBNe])) <;> (try (have hd_ : True := hd; clear hd_ hd)))
   exact fin_keep rfl
  ·have m0' : decide (most < 0) = false := decide_eq_false m0
   have m1' : decide (most > 131072) = true := decide_eq_true (by
    have h : ¬most ≤ 131072 := fun h => hc ⟨w1, w2, by omega, h⟩
    omega)
   (refine CallK.use (rwhole_sound .no x m _ (by omega) (by omega) hs2 db) ?_; rintro _ _ ⟨rfl, k7, rfl⟩)
   ((have hd := trivial; repeat' (first | ((first | apply GdK_st | apply GdK_sf | apply CondK_s) <;> intro hd <;> (try simp only [hd])) | simp (disch := first | assumption | omega | (simp only [nx] <;> omega) | fail) only [hd, hQr, hQn, c9_0, ↓YA, YB, YC, YE, YF, YZ, ↓reduceIte, Nat.reduceEqDiff, Nat.reduceAdd, Nat.reduceMul, Nat.reduceLeDiff, Int.reduceToNat, Int.reduceLE, Int.reduceLT, Int.reduceGT, Int.reduceGE, Int.reduceAdd, Int.reduceSub, Int.reduceNeg, Int.reduceBEq, Int.reduceBNe, w2, m0', m1'])) <;> (try (have hd_ : True := hd; clear hd_ hd)))
   (refine CallK.use (awake30u _) ?_; rintro _ _ ⟨rfl, kk, rfl⟩)
   ((have hd := trivial; repeat' (first | ((first | apply GdK_st | apply GdK_sf | apply CondK_s) <;> intro hd <;> (try simp only [hd])) | simp (disch := first | assumption | omega | (simp only [nx] <;> omega) | fail) only [hd, hQr, hQn, c9_0, ↓YA, YB, YC, YE, YF, YZ, ↓reduceIte, Nat.reduceEqDiff, Nat.reduceAdd, Nat.reduceMul, Nat.reduceLeDiff, Int.reduceToNat, Int.reduceLE, Int.reduceLT, Int.reduceGT, Int.reduceGE, Int.reduceAdd, Int.reduceSub, Int.reduceNeg, Int.reduceBEq, Int.reduceBNe])) <;> (try (have hd_ : True := hd; clear hd_ hd)))
   exact fin_keep rfl
 obtain ⟨w1, w2, m0, m1⟩ := hc
 have m0' : decide (most < 0) = false := decide_eq_false (by omega)
 have m1' : decide (most > 131072) = false := decide_eq_false (by omega)
 have hm40 : 0 ≤ m4 := by rw [hm4]; split <;> omega
 have hm41 : m4 ≤ 131072 := by rw [hm4]; split <;> omega
 have hm42 : m4 ≤ most := by rw [hm4]; split <;> omega
 have hT : (mTop x l m m4).e ≠ 7 → mTop x l m most = mTop x l m m4 := fun h => mTop_most hm42 h
 have hR := fun G => r30merge_sound (tx := .no) (ta := .no) (tb := .no) m4 G pa pb hm40 hm41 w1 w2
 by_cases e0 : (mTop x l m m4).e = 0
 ·have hTT := hT (by rw [e0]; decide)
  have hP : Sound Try.prog 43 [.ptr ia 0, .ptr ib 0, .i most] H5 (fun r H' => AHeap.Ext H5 H' ∧ ∃ id, r = .tup [.ptr id 0, .i 0] ∧ ArA H' id x (mTop x l m m4).N ∧ MOk l m most (mTop x l m m4)) := (pmerge_sound most ha5 hb5 pa pb).mono fun r H' h => by
   unfold MergeQ at h
   rw [if_pos ⟨w1, w2, m0, m1⟩, hTT, if_neg (by simp [e0])] at h
   exact h
  have hR : ∀ G, Sound Try.prog 44 [.agg [.sl .no (rII x.sizes), .i x.measures], .sl .no (rN l), .sl .no (rN m), .i m4] G (fun r G' => AHeap.Ext G G' ∧ ∃ t, r = .tup [.sl t (rN (mTop x l m m4).N), .i 0]) := fun G => (hR G).mono fun r G' h => ⟨h.1, by
   rcases h.2 with h | h
   ·exact absurd e0 h.1
   ·exact h.2⟩
  refine CallK.use hP ?_
  rintro r H6 ⟨hx6, id, rfl, hN, hok⟩
  have ga6 := hx6.get _ _ ga5
  ((have hd := trivial; repeat' (first | ((first | apply GdK_st | apply GdK_sf | apply CondK_s) <;> intro hd <;> (try simp only [hd])) | simp (disch := first | assumption | omega | (simp only [nx] <;> omega) | fail) only [hd, hQr, hQn, c9_0, ↓YA, YB, YC, YE, YF, YZ, ↓reduceIte, Nat.reduceEqDiff, Nat.reduceAdd, Nat.reduceMul, Nat.reduceLeDiff, Int.reduceToNat, Int.reduceLE, Int.reduceLT, Int.reduceGT, Int.reduceGE, Int.reduceAdd, Int.reduceSub, Int.reduceNeg, Int.reduceBEq, Int.reduceBNe, ga6])) <;> (try (have hd_ : True := hd; clear hd_ hd)))
  (refine CallK.use (rwhole_sound .no x l _ (by omega) (by omega) hs1 da) ?_; rintro _ _ ⟨rfl, k6, rfl⟩)
  ((have hd := trivial; repeat' (first | ((first | apply GdK_st | apply GdK_sf | apply CondK_s) <;> intro hd <;> (try simp only [hd])) | simp (disch := first | assumption | omega | (simp only [nx] <;> omega) | fail) only [hd, hQr, hQn, c9_0, ↓YA, YB, YC, YE, YF, YZ, ↓reduceIte, Nat.reduceEqDiff, Nat.reduceAdd, Nat.reduceMul, Nat.reduceLeDiff, Int.reduceToNat, Int.reduceLE, Int.reduceLT, Int.reduceGT, Int.reduceGE, Int.reduceAdd, Int.reduceSub, Int.reduceNeg, Int.reduceBEq, Int.reduceBNe, w1, ga6])) <;> (try (have hd_ : True := hd; clear hd_ hd)))
  (refine CallK.use (rwhole_sound .no x m _ (by omega) (by omega) hs2 db) ?_; rintro _ _ ⟨rfl, k7, rfl⟩)
  ((have hd := trivial; repeat' (first | ((first | apply GdK_st | apply GdK_sf | apply CondK_s) <;> intro hd <;> (try simp only [hd])) | simp (disch := first | assumption | omega | (simp only [nx] <;> omega) | fail) only [hd, hQr, hQn, c9_0, ↓YA, YB, YC, YE, YF, YZ, ↓reduceIte, Nat.reduceEqDiff, Nat.reduceAdd, Nat.reduceMul, Nat.reduceLeDiff, Int.reduceToNat, Int.reduceLE, Int.reduceLT, Int.reduceGT, Int.reduceGE, Int.reduceAdd, Int.reduceSub, Int.reduceNeg, Int.reduceBEq, Int.reduceBNe, w2, m0', m1', ga6, ← hm4])) <;> (try (have hd_ : True := hd; clear hd_ hd)))
  have hlen : (mTop x l m m4).N.length ≤ 1000000 := by
   have := hok.few
   omega
  have hNN : decide ((mTop x l m m4).N = (mTop x l m m4).N) = true := decide_eq_true rfl
  refine CallK.use (hR _) ?_
  rintro r G ⟨hxG, t1, rfl⟩
  have hx7 : AHeap.Ext H6 G := AHeap.Ext.trans (by exact AXT) hxG
  ((have hd := trivial; repeat' (first | ((first | apply GdK_st | apply GdK_sf | apply CondK_s) <;> intro hd <;> (try simp only [hd])) | simp (disch := first | assumption | omega | (simp only [nx] <;> omega) | fail) only [hd, hQr, hQn, c9_0, ↓YA, YB, YC, YE, YF, YZ, ↓reduceIte, Nat.reduceEqDiff, Nat.reduceAdd, Nat.reduceMul, Nat.reduceLeDiff, Int.reduceToNat, Int.reduceLE, Int.reduceLT, Int.reduceGT, Int.reduceGE, Int.reduceAdd, Int.reduceSub, Int.reduceNeg, Int.reduceBEq, Int.reduceBNe])) <;> (try (have hd_ : True := hd; clear hd_ hd)))
  (refine CallK.use (nodes_sound (hN.ext hx7) p1 hlen hok.small) ?_; rintro _ _ ⟨rfl, k8, rfl⟩)
  ((have hd := trivial; repeat' (first | ((first | apply GdK_st | apply GdK_sf | apply CondK_s) <;> intro hd <;> (try simp only [hd])) | simp (disch := first | assumption | omega | (simp only [nx] <;> omega) | fail) only [hd, hQr, hQn, c9_0, ↓YA, YB, YC, YE, YF, YZ, ↓reduceIte, Nat.reduceEqDiff, Nat.reduceAdd, Nat.reduceMul, Nat.reduceLeDiff, Int.reduceToNat, Int.reduceLE, Int.reduceLT, Int.reduceGT, Int.reduceGE, Int.reduceAdd, Int.reduceSub, Int.reduceNeg, Int.reduceBEq, Int.reduceBNe])) <;> (try (have hd_ : True := hd; clear hd_ hd)))
  (refine CallK.use (rall_sound _ _ _ _ _ hlen hok.small) ?_; rintro _ _ ⟨rfl, k9, rfl⟩)
  ((have hd := trivial; repeat' (first | ((first | apply GdK_st | apply GdK_sf | apply CondK_s) <;> intro hd <;> (try simp only [hd])) | simp (disch := first | assumption | omega | (simp only [nx] <;> omega) | fail) only [hd, hQr, hQn, c9_0, ↓YA, YB, YC, YE, YF, YZ, ↓reduceIte, Nat.reduceEqDiff, Nat.reduceAdd, Nat.reduceMul, Nat.reduceLeDiff, Int.reduceToNat, Int.reduceLE, Int.reduceLT, Int.reduceGT, Int.reduceGE, Int.reduceAdd, Int.reduceSub, Int.reduceNeg, Int.reduceBEq, Int.reduceBNe, hNN])) <;> (try (have hd_ : True := hd; clear hd_ hd)))
  (refine CallK.use (awake30u _) ?_; rintro _ _ ⟨rfl, kk, rfl⟩)
  ((have hd := trivial; repeat' (first | ((first | apply GdK_st | apply GdK_sf | apply CondK_s) <;> intro hd <;> (try simp only [hd])) | simp (disch := first | assumption | omega | (simp only [nx] <;> omega) | fail) only [hd, hQr, hQn, c9_0, ↓YA, YB, YC, YE, YF, YZ, ↓reduceIte, Nat.reduceEqDiff, Nat.reduceAdd, Nat.reduceMul, Nat.reduceLeDiff, Int.reduceToNat, Int.reduceLE, Int.reduceLT, Int.reduceGT, Int.reduceGE, Int.reduceAdd, Int.reduceSub, Int.reduceNeg, Int.reduceBEq, Int.reduceBNe])) <;> (try (have hd_ : True := hd; clear hd_ hd)))
  exact fin_keep rfl
 by_cases e7 : (mTop x l m m4).e = 7 ∧ most > 400
 ·have m5 : decide (most > 400) = true := decide_eq_true e7.2
  have hP : Sound Try.prog 43 [.ptr ia 0, .ptr ib 0, .i most] H5 (fun r H' => AHeap.Ext H5 H' ∧ ∃ r0, r = .tup [r0, .i (mTop x l m most).e]) := (pmerge_sound most ha5 hb5 pa pb).mono fun r H' h => by
   unfold MergeQ at h
   rw [if_pos ⟨w1, w2, m0, m1⟩] at h
   refine ⟨h.1, ?_⟩
   have h := h.2
   split at h
   ·exact ⟨_, h⟩
   ·rename_i h0
    obtain ⟨id, h, _⟩ := h
    have h0 : (mTop x l m most).e = 0 := Classical.byContradiction h0
    exact ⟨_, by rw [h0]; exact h⟩
  have hR : ∀ G, Sound Try.prog 44 [.agg [.sl .no (rII x.sizes), .i x.measures], .sl .no (rN l), .sl .no (rN m), .i m4] G (fun r G' => AHeap.Ext G G' ∧ ∃ t, r = .tup [.sl t [], .i 7]) := fun G => (hR G).mono fun r G' h => ⟨h.1, by
   rcases h.2 with h | h
   ·rw [← e7.1]; exact h.2
   ·exact absurd h.1 e0⟩
  refine CallK.use hP ?_
  rintro r H6 ⟨hx6, r0, rfl⟩
  have ga6 := hx6.get _ _ ga5
  ((have hd := trivial; repeat' (first | ((first | apply GdK_st | apply GdK_sf | apply CondK_s) <;> intro hd <;> (try simp only [hd])) | simp (disch := first | assumption | omega | (simp only [nx] <;> omega) | fail) only [hd, hQr, hQn, c9_0, ↓YA, YB, YC, YE, YF, YZ, ↓reduceIte, Nat.reduceEqDiff, Nat.reduceAdd, Nat.reduceMul, Nat.reduceLeDiff, Int.reduceToNat, Int.reduceLE, Int.reduceLT, Int.reduceGT, Int.reduceGE, Int.reduceAdd, Int.reduceSub, Int.reduceNeg, Int.reduceBEq, Int.reduceBNe, ga6])) <;> (try (have hd_ : True := hd; clear hd_ hd)))
  (refine CallK.use (rwhole_sound .no x l _ (by omega) (by omega) hs1 da) ?_; rintro _ _ ⟨rfl, k6, rfl⟩)
  ((have hd := trivial; repeat' (first | ((first | apply GdK_st | apply GdK_sf | apply CondK_s) <;> intro hd <;> (try simp only [hd])) | simp (disch := first | assumption | omega | (simp only [nx] <;> omega) | fail) only [hd, hQr, hQn, c9_0, ↓YA, YB, YC, YE, YF, YZ, ↓reduceIte, Nat.reduceEqDiff, Nat.reduceAdd, Nat.reduceMul, Nat.reduceLeDiff, Int.reduceToNat, Int.reduceLE, Int.reduceLT, Int.reduceGT, Int.reduceGE, Int.reduceAdd, Int.reduceSub, Int.reduceNeg, Int.reduceBEq, Int.reduceBNe, w1, ga6])) <;> (try (have hd_ : True := hd; clear hd_ hd)))
  (refine CallK.use (rwhole_sound .no x m _ (by omega) (by omega) hs2 db) ?_; rintro _ _ ⟨rfl, k7, rfl⟩)
  ((have hd := trivial; repeat' (first | ((first | apply GdK_st | apply GdK_sf | apply CondK_s) <;> intro hd <;> (try simp only [hd])) | simp (disch := first | assumption | omega | (simp only [nx] <;> omega) | fail) only [hd, hQr, hQn, c9_0, ↓YA, YB, YC, YE, YF, YZ, ↓reduceIte, Nat.reduceEqDiff, Nat.reduceAdd, Nat.reduceMul, Nat.reduceLeDiff, Int.reduceToNat, Int.reduceLE, Int.reduceLT, Int.reduceGT, Int.reduceGE, Int.reduceAdd, Int.reduceSub, Int.reduceNeg, Int.reduceBEq, Int.reduceBNe, w2, m0', m1', ga6, ← hm4])) <;> (try (have hd_ : True := hd; clear hd_ hd)))
  refine CallK.use (hR _) ?_
  rintro r G ⟨hxG, t1, rfl⟩
  ((have hd := trivial; repeat' (first | ((first | apply GdK_st | apply GdK_sf | apply CondK_s) <;> intro hd <;> (try simp only [hd])) | simp (disch := first | assumption | omega | (simp only [nx] <;> omega) | fail) only [hd, hQr, hQn, c9_0, ↓YA, YB, YC, YE, YF, YZ, ↓reduceIte, Nat.reduceEqDiff, Nat.reduceAdd, Nat.reduceMul, Nat.reduceLeDiff, Int.reduceToNat, Int.reduceLE, Int.reduceLT, Int.reduceGT, Int.reduceGE, Int.reduceAdd, Int.reduceSub, Int.reduceNeg, Int.reduceBEq, Int.reduceBNe, m5])) <;> (try (have hd_ : True := hd; clear hd_ hd)))
  (refine CallK.use (awake30u _) ?_; rintro _ _ ⟨rfl, kk, rfl⟩)
  ((have hd := trivial; repeat' (first | ((first | apply GdK_st | apply GdK_sf | apply CondK_s) <;> intro hd <;> (try simp only [hd])) | simp (disch := first | assumption | omega | (simp only [nx] <;> omega) | fail) only [hd, hQr, hQn, c9_0, ↓YA, YB, YC, YE, YF, YZ, ↓reduceIte, Nat.reduceEqDiff, Nat.reduceAdd, Nat.reduceMul, Nat.reduceLeDiff, Int.reduceToNat, Int.reduceLE, Int.reduceLT, Int.reduceGT, Int.reduceGE, Int.reduceAdd, Int.reduceSub, Int.reduceNeg, Int.reduceBEq, Int.reduceBNe])) <;> (try (have hd_ : True := hd; clear hd_ hd)))
  exact fin_keep rfl
 have hTT : mTop x l m most = mTop x l m m4 := by
  by_cases h4 : most > 400
  ·exact hT fun h => e7 ⟨h, h4⟩
  ·rw [hm4, if_neg h4]
 have hP : Sound Try.prog 43 [.ptr ia 0, .ptr ib 0, .i most] H5 (fun r H' => AHeap.Ext H5 H' ∧ r = .tup [.sc (.pointer none), .i E]) := (pmerge_sound most ha5 hb5 pa pb).mono fun r H' h => by
  unfold MergeQ at h
  rw [if_pos ⟨w1, w2, m0, m1⟩, hTT, if_pos e0, ← hEE] at h
  exact h
 have hR : ∀ G, Sound Try.prog 44 [.agg [.sl .no (rII x.sizes), .i x.measures], .sl .no (rN l), .sl .no (rN m), .i m4] G (fun r G' => AHeap.Ext G G' ∧ ∃ t, r = .tup [.sl t [], .i E]) := fun G => (hR G).mono fun r G' h => ⟨h.1, by
  rcases h.2 with h | h
  ·rw [hEE]; exact h.2
  ·exact absurd h.1 e0⟩
 rw [← hEE] at e0 e7
 clear hEE
 have q1 : (E != 0) = true := by simpa using e0
 have q2 : (E == E) = true := by simp
 refine CallK.use hP ?_
 rintro r H6 ⟨hx6, rfl⟩
 have ga6 := hx6.get _ _ ga5
 ((have hd := trivial; repeat' (first | ((first | apply GdK_st | apply GdK_sf | apply CondK_s) <;> intro hd <;> (try simp only [hd])) | simp (disch := first | assumption | omega | (simp only [nx] <;> omega) | fail) only [hd, hQr, hQn, c9_0, ↓YA, YB, YC, YE, YF, YZ, ↓reduceIte, Nat.reduceEqDiff, Nat.reduceAdd, Nat.reduceMul, Nat.reduceLeDiff, Int.reduceToNat, Int.reduceLE, Int.reduceLT, Int.reduceGT, Int.reduceGE, Int.reduceAdd, Int.reduceSub, Int.reduceNeg, Int.reduceBEq, Int.reduceBNe, ga6])) <;> (try (have hd_ : True := hd; clear hd_ hd)))
 (refine CallK.use (rwhole_sound .no x l _ (by omega) (by omega) hs1 da) ?_; rintro _ _ ⟨rfl, k6, rfl⟩)
 ((have hd := trivial; repeat' (first | ((first | apply GdK_st | apply GdK_sf | apply CondK_s) <;> intro hd <;> (try simp only [hd])) | simp (disch := first | assumption | omega | (simp only [nx] <;> omega) | fail) only [hd, hQr, hQn, c9_0, ↓YA, YB, YC, YE, YF, YZ, ↓reduceIte, Nat.reduceEqDiff, Nat.reduceAdd, Nat.reduceMul, Nat.reduceLeDiff, Int.reduceToNat, Int.reduceLE, Int.reduceLT, Int.reduceGT, Int.reduceGE, Int.reduceAdd, Int.reduceSub, Int.reduceNeg, Int.reduceBEq, Int.reduceBNe, w1, ga6])) <;> (try (have hd_ : True := hd; clear hd_ hd)))
 (refine CallK.use (rwhole_sound .no x m _ (by omega) (by omega) hs2 db) ?_; rintro _ _ ⟨rfl, k7, rfl⟩)
 ((have hd := trivial; repeat' (first | ((first | apply GdK_st | apply GdK_sf | apply CondK_s) <;> intro hd <;> (try simp only [hd])) | simp (disch := first | assumption | omega | (simp only [nx] <;> omega) | fail) only [hd, hQr, hQn, c9_0, ↓YA, YB, YC, YE, YF, YZ, ↓reduceIte, Nat.reduceEqDiff, Nat.reduceAdd, Nat.reduceMul, Nat.reduceLeDiff, Int.reduceToNat, Int.reduceLE, Int.reduceLT, Int.reduceGT, Int.reduceGE, Int.reduceAdd, Int.reduceSub, Int.reduceNeg, Int.reduceBEq, Int.reduceBNe, w2, m0', m1', ga6, ← hm4])) <;> (try (have hd_ : True := hd; clear hd_ hd)))
 refine CallK.use (hR _) ?_
 rintro r G ⟨hxG, t1, rfl⟩
 by_cases h7 : E = 7
 ·have m5 : decide (most > 400) = false := decide_eq_false fun h => e7 ⟨h7, h⟩
  subst h7
  ((have hd := trivial; repeat' (first | ((first | apply GdK_st | apply GdK_sf | apply CondK_s) <;> intro hd <;> (try simp only [hd])) | simp (disch := first | assumption | omega | (simp only [nx] <;> omega) | fail) only [hd, hQr, hQn, c9_0, ↓YA, YB, YC, YE, YF, YZ, ↓reduceIte, Nat.reduceEqDiff, Nat.reduceAdd, Nat.reduceMul, Nat.reduceLeDiff, Int.reduceToNat, Int.reduceLE, Int.reduceLT, Int.reduceGT, Int.reduceGE, Int.reduceAdd, Int.reduceSub, Int.reduceNeg, Int.reduceBEq, Int.reduceBNe, m5])) <;> (try (have hd_ : True := hd; clear hd_ hd)))
  (refine CallK.use (awake30u _) ?_; rintro _ _ ⟨rfl, kk, rfl⟩)
  ((have hd := trivial; repeat' (first | ((first | apply GdK_st | apply GdK_sf | apply CondK_s) <;> intro hd <;> (try simp only [hd])) | simp (disch := first | assumption | omega | (simp only [nx] <;> omega) | fail) only [hd, hQr, hQn, c9_0, ↓YA, YB, YC, YE, YF, YZ, ↓reduceIte, Nat.reduceEqDiff, Nat.reduceAdd, Nat.reduceMul, Nat.reduceLeDiff, Int.reduceToNat, Int.reduceLE, Int.reduceLT, Int.reduceGT, Int.reduceGE, Int.reduceAdd, Int.reduceSub, Int.reduceNeg, Int.reduceBEq, Int.reduceBNe])) <;> (try (have hd_ : True := hd; clear hd_ hd)))
  exact fin_keep rfl
 ·have q7 : (E == 7) = false := by simpa using h7
  ((have hd := trivial; repeat' (first | ((first | apply GdK_st | apply GdK_sf | apply CondK_s) <;> intro hd <;> (try simp only [hd])) | simp (disch := first | assumption | omega | (simp only [nx] <;> omega) | fail) only [hd, hQr, hQn, c9_0, ↓YA, YB, YC, YE, YF, YZ, ↓reduceIte, Nat.reduceEqDiff, Nat.reduceAdd, Nat.reduceMul, Nat.reduceLeDiff, Int.reduceToNat, Int.reduceLE, Int.reduceLT, Int.reduceGT, Int.reduceGE, Int.reduceAdd, Int.reduceSub, Int.reduceNeg, Int.reduceBEq, Int.reduceBNe, q7, q1, q2])) <;> (try (have hd_ : True := hd; clear hd_ hd)))
  (refine CallK.use (awake30u _) ?_; rintro _ _ ⟨rfl, kk, rfl⟩)
  ((have hd := trivial; repeat' (first | ((first | apply GdK_st | apply GdK_sf | apply CondK_s) <;> intro hd <;> (try simp only [hd])) | simp (disch := first | assumption | omega | (simp only [nx] <;> omega) | fail) only [hd, hQr, hQn, c9_0, ↓YA, YB, YC, YE, YF, YZ, ↓reduceIte, Nat.reduceEqDiff, Nat.reduceAdd, Nat.reduceMul, Nat.reduceLeDiff, Int.reduceToNat, Int.reduceLE, Int.reduceLT, Int.reduceGT, Int.reduceGE, Int.reduceAdd, Int.reduceSub, Int.reduceNeg, Int.reduceBEq, Int.reduceBNe])) <;> (try (have hd_ : True := hd; clear hd_ hd)))
  exact fin_keep rfl
end Go.Proofs.Ytgnpihhakogeeaa
