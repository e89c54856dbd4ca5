/- Texts of the walk, joined: Wm Wn Wo Wp Wq. -/
import Derived.Test.YtgnpihhakogeeaaMr
import Derived.Test.YtgnpihhakogeeaaMp
namespace Go.Proofs.Ytgnpihhakogeeaa
set_option linter.unusedSimpArgs false
set_option linter.unusedVariables false
open Go.RowKit
structure ExtM (S : List Nat) (H H' : AHeap) : Prop where
 next : H.next ≤ H'.next
 get : ∀ i o, i ∉ S → H.get i = some o → H'.get i = some o
theorem ExtM.trans {S : List Nat} {H H' H'' : AHeap} (h : ExtM S H H') (k : ExtM S H' H'') : ExtM S H H'' := ⟨Nat.le_trans h.next k.next, fun i o hi e => k.get i o hi (h.get i o hi e)⟩
theorem ExtM.of {S : List Nat} {H H' : AHeap} (h : AHeap.Ext H H') : ExtM S H H' := ⟨h.next, fun i o _ e => h.get i o e⟩
theorem ExtM.set {S : List Nat} {id : Nat} {H H' : AHeap} {o : AObj} (h : ExtM S H H') (hi : id ∈ S ∨ H.next ≤ id) : ExtM S H (H'.set id o) := ⟨h.next, fun i o hl e => by
 have hne : i ≠ id := by
  rintro rfl
  rcases hi with hi | hi
  ·exact hl hi
  ·have := AHeap.lt e; omega
 rw [AHeap.get_set_ne hne]; exact h.get i o hl e⟩
structure Mrg (base mg aid bid oid tk mid : Nat) (x : Shp) (tok : Tok) (a b : List Nod) (most : Int) (s : MSt) (G : AHeap) : Prop where
 o : G.get mg = some (.cells [.ptr aid 0, .ptr bid 0, .ptr oid 0, .mp mid, .i s.e] 123)
 aa : ArA G aid x a
 ab : ArA G bid x b
 out : ArO G oid tk x tok s.N most
 mp : ∃ M, G.get mid = some (.map (.row [.int .i64, .int .i64]) (eMap k2 AV.i M) false) ∧ ∀ p, aGet p M = (s.P.findIdx? (· == p)).map fun j : Nat => (j : Int)
 l1 : aid < base
 l2 : bid < base
 l3 : base ≤ mg
 l4 : base ≤ oid
 l5 : base ≤ tk
 l6 : base ≤ mid
 ok : MOk a b most s
section
variable {base mg aid bid oid tk mid : Nat} {x : Shp} {tok : Tok} {a b : List Nod} {most : Int} {s : MSt} {G G' : AHeap}
theorem Mrg.ext (h : Mrg base mg aid bid oid tk mid x tok a b most s G) (hx : AHeap.Ext G G') : Mrg base mg aid bid oid tk mid x tok a b most s G' := by
 obtain ⟨M, hM, hq⟩ := h.mp
 exact ⟨hx.get _ _ h.o, h.aa.ext hx, h.ab.ext hx, ⟨h.out.ne, hx.get _ _ h.out.cell, hx.get _ _ h.out.row⟩, ⟨M, hx.get _ _ hM, hq⟩, h.l1, h.l2, h.l3, h.l4, h.l5, h.l6, h.ok⟩
theorem Mrg.err (h : Mrg base mg aid bid oid tk mid x tok a b most s G) (e : Int) : Mrg base mg aid bid oid tk mid x tok a b most ⟨s.N, s.P, e⟩ (G.set mg (.cells [.ptr aid 0, .ptr bid 0, .ptr oid 0, .mp mid, .i e] 123)) := by
 obtain ⟨M, hM, hq⟩ := h.mp
 have hl := AHeap.lt h.o
 have n1 : oid ≠ mg := fun e => by have := h.out.cell; rw [e, h.o] at this; simp [eArN] at this
 have n2 : tk ≠ mg := fun e => by have := h.out.row; rw [e, h.o] at this; cases this
 have n3 : mid ≠ mg := fun e => by rw [e, h.o] at hM; cases hM
 have l1 := h.l1
 have l2 := h.l2
 have l3 := h.l3
 refine ⟨AHeap.get_set_self hl, ?_, ?_, ⟨h.out.ne, by rw [AHeap.get_set_ne n1]; exact h.out.cell, by rw [AHeap.get_set_ne n2]; exact h.out.row⟩, ⟨M, by rw [AHeap.get_set_ne n3]; exact hM, hq⟩, h.l1, h.l2, h.l3, h.l4, h.l5, h.l6, ⟨h.ok.len, h.ok.few, h.ok.small, h.ok.dim⟩⟩
 ·obtain ⟨t, nt, m, e⟩ := h.aa
  exact ⟨t, nt, m, by rw [AHeap.get_set_ne (by omega)]; exact e⟩
 ·obtain ⟨t, nt, m, e⟩ := h.ab
  exact ⟨t, nt, m, by rw [AHeap.get_set_ne (by omega)]; exact e⟩
theorem Mrg.set {H : AHeap} {s' : MSt} {id : Nat} {o : AObj} (hM : Mrg base mg aid bid oid tk mid x tok a b most s' H) (hM2 : Mrg base mg aid bid oid tk mid x tok a b most s G) (hi : H.next ≤ id) : Mrg base mg aid bid oid tk mid x tok a b most s (G.set id o) := by
 obtain ⟨Mp, hMp, _⟩ := hM.mp
 have q1 := AHeap.lt hM.o
 have q2 := AHeap.lt hM.out.cell
 have q3 := AHeap.lt hM.out.row
 have q4 := AHeap.lt hMp
 obtain ⟨M2, hM3, hq⟩ := hM2.mp
 have l1 := hM.l1
 have l2 := hM.l2
 have l3 := hM.l3
 refine ⟨by rw [AHeap.get_set_ne (by omega)]; exact hM2.o, ?_, ?_, ⟨hM2.out.ne, by rw [AHeap.get_set_ne (by omega)]; exact hM2.out.cell, by rw [AHeap.get_set_ne (by omega)]; exact hM2.out.row⟩, ⟨M2, by rw [AHeap.get_set_ne (by omega)]; exact hM3, hq⟩, hM.l1, hM.l2, hM.l3, hM.l4, hM.l5, hM.l6, hM2.ok⟩
 ·obtain ⟨t, nt, m, e⟩ := hM2.aa
  exact ⟨t, nt, m, by rw [AHeap.get_set_ne (by omega)]; exact e⟩
 ·obtain ⟨t, nt, m, e⟩ := hM2.ab
  exact ⟨t, nt, m, by rw [AHeap.get_set_ne (by omega)]; exact e⟩
end
def halfOf (c : Cel) (b : Bool) : Cel := if b = true then c else noC
theorem halfOf_child (c : Cel) (b : Bool) : (halfOf c b).child = halfC c b := by cases b <;> rfl
def NodK (base mg aid bid oid tk mid : Nat) (x : Shp) (tok : Tok) (a b : List Nod) (most : Int) (f : MSt → Int × Int → MSt × Int) (s : MSt) (p : Int × Int) : Prop :=
 ∀ G, Mrg base mg aid bid oid tk mid x tok a b most s G → Sound Try.prog 71 [.ptr mg 0, .agg [.i p.1, .i p.2]] G (fun r G' => ExtM [mg, oid, tk, mid] G G' ∧ Mrg base mg aid bid oid tk mid x tok a b most (f s p).1 G' ∧ ∃ v, r = .i v ∧ ((f s p).1.e = 0 → v = (f s p).2))
set_option maxHeartbeats 4000000 in
theorem pcell_sound {base mg aid bid oid tk mid : Nat} {x : Shp} {tok : Tok} {a b : List Nod} {most : Int} {s : MSt} {H : AHeap} {f : MSt → Int × Int → MSt × Int} {d key : Int} {c1 c2 : Cel} {b1 b2 : Bool}
  (hM : Mrg base mg aid bid oid tk mid x tok a b most s H) (he : s.e = 0) (hf : lastB x d = false → NodK base mg aid bid oid tk mid x tok a b most f s (halfC c1 b1, halfC c2 b2)) (i1 : AgIn c1.agg) (i2 : AgIn c2.agg) (z1 : b1 = false → c1.agg = noC.agg) (z2 : b2 = false → c2.agg = noC.agg) :
  Sound Try.prog 94 [.ptr mg 0, .b (lastB x d), .i key, .agg (eHalf c1 b1), .agg (eHalf c2 b2)] H (fun r H' => ExtM [mg, oid, tk, mid] H H' ∧ Mrg base mg aid bid oid tk mid x tok a b most (mCel x f d s key (halfOf c1 b1) (halfOf c2 b2)).1 H' ∧ ∃ c, r = .agg (eCel c) ∧ ((mCel x f d s key (halfOf c1 b1) (halfOf c2 b2)).1.e = 0 → c = (mCel x f d s key (halfOf c1 b1) (halfOf c2 b2)).2)) := by
 have hb := bfd (lastB x d)
 have e13 : ∀ c b, (eHalf c b).length = 13 := fun _ _ => rfl
 have et : ∀ c b, (eHalf c b).take 13 = eHalf c b := fun _ _ => rfl
 have ea : ∀ c b, ((eHalf c b).drop 2).take 10 = eAg c.agg := fun _ _ => rfl
 refine fn_soundQ hE cf94 (Nat.le_of_ble_eq_true rfl) fun Q hQr hQn => ?_
 rcases hb with hb | hb
 ·have hc : mCel x f d s key (halfOf c1 b1) (halfOf c2 b2) = ((f s (halfC c1 b1, halfC c2 b2)).1, ⟨key, (f s (halfC c1 b1, halfC c2 b2)).2, ⟨0, 0, 0, 0, 0, 0, 0, 0, 0, 0⟩⟩) := by
   unfold mCel
   rw [if_neg (by simp [he]), hb, if_neg (by simp), halfOf_child, halfOf_child]
  rw [hc] at hQr hQn
  ((have hd := trivial; repeat' (first | ((first | apply GdK_st | apply GdK_sf | apply CondK_s) <;> intro hd <;> (try simp only [hd])) | simp (disch := first | assumption | omega | (simp only [nx] <;> omega) | fail) only [hd, hQr, hQn, c94_0, ↓YA, YB, YC, YE, YF, YZ, ↓reduceIte, Nat.reduceEqDiff, Nat.reduceAdd, Nat.reduceMul, Nat.reduceLeDiff, Int.reduceToNat, Int.reduceLE, Int.reduceLT, Int.reduceGT, Int.reduceGE, Int.reduceAdd, Int.reduceSub, Int.reduceNeg, Int.reduceBEq, Int.reduceBNe, hb, e13, et])) <;> (try (have hd_ : True := hd; clear hd_ hd)))
  (refine CallK.use (half_sound c1 b1 _) ?_; rintro _ _ ⟨rfl, k1, rfl⟩)
  ((have hd := trivial; repeat' (first | ((first | apply GdK_st | apply GdK_sf | apply CondK_s) <;> intro hd <;> (try simp only [hd])) | simp (disch := first | assumption | omega | (simp only [nx] <;> omega) | fail) only [hd, hQr, hQn, c94_0, ↓YA, YB, YC, YE, YF, YZ, ↓reduceIte, Nat.reduceEqDiff, Nat.reduceAdd, Nat.reduceMul, Nat.reduceLeDiff, Int.reduceToNat, Int.reduceLE, Int.reduceLT, Int.reduceGT, Int.reduceGE, Int.reduceAdd, Int.reduceSub, Int.reduceNeg, Int.reduceBEq, Int.reduceBNe, hb, e13, et])) <;> (try (have hd_ : True := hd; clear hd_ hd)))
  (refine CallK.use (half_sound c2 b2 _) ?_; rintro _ _ ⟨rfl, k2, rfl⟩)
  ((have hd := trivial; repeat' (first | ((first | apply GdK_st | apply GdK_sf | apply CondK_s) <;> intro hd <;> (try simp only [hd])) | simp (disch := first | assumption | omega | (simp only [nx] <;> omega) | fail) only [hd, hQr, hQn, c94_0, ↓YA, YB, YC, YE, YF, YZ, ↓reduceIte, Nat.reduceEqDiff, Nat.reduceAdd, Nat.reduceMul, Nat.reduceLeDiff, Int.reduceToNat, Int.reduceLE, Int.reduceLT, Int.reduceGT, Int.reduceGE, Int.reduceAdd, Int.reduceSub, Int.reduceNeg, Int.reduceBEq, Int.reduceBNe, hb, e13, et])) <;> (try (have hd_ : True := hd; clear hd_ hd)))
  have hx1 : AHeap.Ext H (((((H.alloc (.cells (eHalf c1 b1) 151)).alloc (.cells (eHalf c2 b2) 151)).alloc (.cells [.i 0, .i 0, .i 0, .i 0, .i 0, .i 0, .i 0, .i 0, .i 0, .i 0, .i 0, .i 0] 43)).bump k1).bump k2) := by exact AXT
  have h10 : (((((H.alloc (.cells (eHalf c1 b1) 151)).alloc (.cells (eHalf c2 b2) 151)).alloc (.cells [.i 0, .i 0, .i 0, .i 0, .i 0, .i 0, .i 0, .i 0, .i 0, .i 0, .i 0, .i 0] 43)).bump k1).bump k2).get (H.next + 1 + 1) = some (.cells [.i 0, .i 0, .i 0, .i 0, .i 0, .i 0, .i 0, .i 0, .i 0, .i 0, .i 0, .i 0] 43) := AHeap.get_alloc_self (H := (H.alloc _).alloc _)
  obtain ⟨Mp, hMp, _⟩ := hM.mp
  have q1 := AHeap.lt hM.o
  have q2 := AHeap.lt hM.out.cell
  have q3 := AHeap.lt hM.out.row
  have q4 := AHeap.lt hMp
  refine CallK.use (hf hb _ (hM.ext hx1)) ?_
  rintro r G2 ⟨hx2, hM2, v, rfl, hv⟩
  have h10 := hx2.get _ _ (by simp; omega) h10
  have l10 := AHeap.lt h10
  ((have hd := trivial; repeat' (first | ((first | apply GdK_st | apply GdK_sf | apply CondK_s) <;> intro hd <;> (try simp only [hd])) | simp (disch := first | assumption | omega | (simp only [nx] <;> omega) | fail) only [hd, hQr, hQn, c94_0, ↓YA, YB, YC, YE, YF, YZ, ↓reduceIte, Nat.reduceEqDiff, Nat.reduceAdd, Nat.reduceMul, Nat.reduceLeDiff, Int.reduceToNat, Int.reduceLE, Int.reduceLT, Int.reduceGT, Int.reduceGE, Int.reduceAdd, Int.reduceSub, Int.reduceNeg, Int.reduceBEq, Int.reduceBNe, hb, h10])) <;> (try (have hd_ : True := hd; clear hd_ hd)))
  exact fin_keep ⟨((ExtM.of hx1).trans hx2).set (.inr (by omega)), hM.set hM2 (by omega), ⟨key, v, ⟨0, 0, 0, 0, 0, 0, 0, 0, 0, 0⟩⟩, rfl, fun h => by rw [hv h]⟩
 ·have ho : ∀ (c : Cel) (b : Bool), (b = false → c.agg = noC.agg) → (halfOf c b).agg = c.agg := by
   intro c b h
   cases b
   ·exact (h rfl).symm
   ·rfl
  cases hj : joinA c1.agg c2.agg with
  | some g =>
   have hc : mCel x f d s key (halfOf c1 b1) (halfOf c2 b2) = (s, ⟨key, 0, g⟩) := by
    unfold mCel
    rw [if_neg (by simp [he]), hb, if_pos rfl, ho _ _ z1, ho _ _ z2, hj]
   rw [hc] at hQr hQn
   have hA : ∀ G, Sound Try.prog 108 [.agg (eAg c1.agg), .agg (eAg c2.agg)] G (Pure G (.tup [.agg (eAg g), .b true])) := by
    intro G
    have := ajoin_sound c1.agg c2.agg G i1 i2
    rw [hj] at this
    exact this
   ((have hd := trivial; repeat' (first | ((first | apply GdK_st | apply GdK_sf | apply CondK_s) <;> intro hd <;> (try simp only [hd])) | simp (disch := first | assumption | omega | (simp only [nx] <;> omega) | fail) only [hd, hQr, hQn, c94_0, ↓YA, YB, YC, YE, YF, YZ, ↓reduceIte, Nat.reduceEqDiff, Nat.reduceAdd, Nat.reduceMul, Nat.reduceLeDiff, Int.reduceToNat, Int.reduceLE, Int.reduceLT, Int.reduceGT, Int.reduceGE, Int.reduceAdd, Int.reduceSub, Int.reduceNeg, Int.reduceBEq, Int.reduceBNe, hb, e13, et, ea])) <;> (try (have hd_ : True := hd; clear hd_ hd)))
   (refine CallK.use (hA _) ?_; rintro _ _ ⟨rfl, k1, rfl⟩)
   ((have hd := trivial; repeat' (first | ((first | apply GdK_st | apply GdK_sf | apply CondK_s) <;> intro hd <;> (try simp only [hd])) | simp (disch := first | assumption | omega | (simp only [nx] <;> omega) | fail) only [hd, hQr, hQn, c94_0, ↓YA, YB, YC, YE, YF, YZ, ↓reduceIte, Nat.reduceEqDiff, Nat.reduceAdd, Nat.reduceMul, Nat.reduceLeDiff, Int.reduceToNat, Int.reduceLE, Int.reduceLT, Int.reduceGT, Int.reduceGE, Int.reduceAdd, Int.reduceSub, Int.reduceNeg, Int.reduceBEq, Int.reduceBNe, hb, e13, et, ea])) <;> (try (have hd_ : True := hd; clear hd_ hd)))
   have hx1 : AHeap.Ext H (((((H.alloc (.cells (eHalf c1 b1) 151)).alloc (.cells (eHalf c2 b2) 151)).alloc (.cells [.i 0, .i 0, .i 0, .i 0, .i 0, .i 0, .i 0, .i 0, .i 0, .i 0, .i 0, .i 0] 43)).bump k1).alloc (.cells (eAg g) 41)) := by exact AXT
   exact fin_keep ⟨(ExtM.of hx1).set (.inr (by omega)), hM.set (hM.ext hx1) (by omega), ⟨key, 0, g⟩, rfl, fun _ => rfl⟩
  | none =>
   have hc : mCel x f d s key (halfOf c1 b1) (halfOf c2 b2) = (⟨s.N, s.P, 12⟩, cel0) := by
    unfold mCel
    rw [if_neg (by simp [he]), hb, if_pos rfl, ho _ _ z1, ho _ _ z2, hj]
   rw [hc] at hQr hQn
   have hA : ∀ G, Sound Try.prog 108 [.agg (eAg c1.agg), .agg (eAg c2.agg)] G (Pure G (.tup [.agg (eAg ag0), .b false])) := by
    intro G
    have := ajoin_sound c1.agg c2.agg G i1 i2
    rw [hj] at this
    exact this
   ((have hd := trivial; repeat' (first | ((first | apply GdK_st | apply GdK_sf | apply CondK_s) <;> intro hd <;> (try simp only [hd])) | simp (disch := first | assumption | omega | (simp only [nx] <;> omega) | fail) only [hd, hQr, hQn, c94_0, ↓YA, YB, YC, YE, YF, YZ, ↓reduceIte, Nat.reduceEqDiff, Nat.reduceAdd, Nat.reduceMul, Nat.reduceLeDiff, Int.reduceToNat, Int.reduceLE, Int.reduceLT, Int.reduceGT, Int.reduceGE, Int.reduceAdd, Int.reduceSub, Int.reduceNeg, Int.reduceBEq, Int.reduceBNe, hb, e13, et, ea])) <;> (try (have hd_ : True := hd; clear hd_ hd)))
   (refine CallK.use (hA _) ?_; rintro _ _ ⟨rfl, k1, rfl⟩)
   have hx1 : AHeap.Ext H (((((H.alloc (.cells (eHalf c1 b1) 151)).alloc (.cells (eHalf c2 b2) 151)).alloc (.cells [.i 0, .i 0, .i 0, .i 0, .i 0, .i 0, .i 0, .i 0, .i 0, .i 0, .i 0, .i 0] 43)).bump k1).alloc (.cells (eAg ag0) 41)) := by exact AXT
   have hM2 := hM.ext hx1
   have hg := hM2.o
   have lg := AHeap.lt hg
   have q1 := AHeap.lt hM.o
   have hs : ∀ o, ((((((H.alloc (.cells (eHalf c1 b1) 151)).alloc (.cells (eHalf c2 b2) 151)).alloc (.cells [.i 0, .i 0, .i 0, .i 0, .i 0, .i 0, .i 0, .i 0, .i 0, .i 0, .i 0, .i 0] 43)).bump k1).alloc (.cells (eAg ag0) 41)).set mg o).get (H.next + 1 + 1 + 1 + k1) = some (.cells (eAg ag0) 41) := fun o => by
    rw [AHeap.get_set_ne (by omega)]
    exact AHeap.get_alloc_self (H := ((((H.alloc (.cells (eHalf c1 b1) 151)).alloc (.cells (eHalf c2 b2) 151)).alloc (.cells [.i 0, .i 0, .i 0, .i 0, .i 0, .i 0, .i 0, .i 0, .i 0, .i 0, .i 0, .i 0] 43)).bump k1))
   have e10 : (eAg ag0).length = 10 := rfl
   have t10 : (eAg ag0).take 10 = eAg ag0 := rfl
   have h0 := hM.o
   ((have hd := trivial; repeat' (first | ((first | apply GdK_st | apply GdK_sf | apply CondK_s) <;> intro hd <;> (try simp only [hd])) | simp (disch := first | assumption | omega | (simp only [nx] <;> omega) | fail) only [hd, hQr, hQn, c94_0, ↓YA, YB, YC, YE, YF, YZ, ↓reduceIte, Nat.reduceEqDiff, Nat.reduceAdd, Nat.reduceMul, Nat.reduceLeDiff, Int.reduceToNat, Int.reduceLE, Int.reduceLT, Int.reduceGT, Int.reduceGE, Int.reduceAdd, Int.reduceSub, Int.reduceNeg, Int.reduceBEq, Int.reduceBNe, hb, e13, et, ea, h0, hs, he, e10, t10])) <;> (try (have hd_ : True := hd; clear hd_ hd)))
   exact fin_keep ⟨((ExtM.of hx1).set (.inl (by simp))).set (.inr (by omega)), hM.set (hM2.err 12) (by omega), ⟨key, 0, ag0⟩, rfl, fun h => absurd h (by decide)⟩
theorem mKeys_fuel : ∀ (n : Nat) (xs ys : List Cel), xs.length + ys.length ≤ n → mKeys (n + 1) xs ys = mKeys n xs ys
 | 0, [], [], _ => rfl
 | _ + 1, [], [], _ => rfl
 | 0, p :: xs, _, h => by simp at h
 | 0, [], q :: ys, h => by simp at h
 | n + 1, p :: xs, [], h => by
  show _ :: mKeys (n + 1) xs [] = _ :: mKeys n xs []
  rw [mKeys_fuel n xs [] (by simp at h ⊢; omega)]
 | n + 1, [], q :: ys, h => by
  show _ :: mKeys (n + 1) [] ys = _ :: mKeys n [] ys
  rw [mKeys_fuel n [] ys (by simp at h ⊢; omega)]
 | n + 1, p :: xs, q :: ys, h => by
  show (if p.key < q.key then _ :: mKeys (n + 1) xs (q :: ys) else if q.key < p.key then _ :: mKeys (n + 1) (p :: xs) ys else _ :: mKeys (n + 1) xs ys) = (if p.key < q.key then _ :: mKeys n xs (q :: ys) else if q.key < p.key then _ :: mKeys n (p :: xs) ys else _ :: mKeys n xs ys)
  rw [mKeys_fuel n xs (q :: ys) (by simp at h ⊢; omega), mKeys_fuel n (p :: xs) ys (by simp at h ⊢; omega), mKeys_fuel n xs ys (by simp at h ⊢; omega)]
set_option maxHeartbeats 4000000 in
theorem plist_sound {base mg aid bid oid tk mid : Nat} {x : Shp} {tok t u : Tok} {a b : List Nod} {most : Int} {s : MSt} {H : AHeap} {f : MSt → Int × Int → MSt × Int} {d : Int} {X Y : List Cel}
  (hM : Mrg base mg aid bid oid tk mid x tok a b most s H) (hX : X.length ≤ 1000000) (hY : Y.length ≤ 1000000) (hin : ∀ c, c ∈ X ∨ c ∈ Y → AgIn c.agg ∧ 0 ≤ c.key ∧ c.key ≤ 9223372036854775807)
  (hf : lastB x d = false → ∀ s c1 c2, s.e = 0 → (c1 ∈ X ∧ c2 ∈ Y) ∨ (c1 ∈ X ∧ c2 = noC) ∨ (c1 = noC ∧ c2 ∈ Y) → NodK base mg aid bid oid tk mid x tok a b most f s (c1.child, c2.child)) :
  Sound Try.prog 92 [.ptr mg 0, .b (lastB x d), .sl t (rC X), .sl u (rC Y)] H (fun r H' => ExtM [mg, oid, tk, mid] H H' ∧ Mrg base mg aid bid oid tk mid x tok a b most (mList x f d s (mKeys (X.length + Y.length) X Y)).1 H' ∧ ∃ l to, r = .sl to (rC l) ∧ ((mList x f d s (mKeys (X.length + Y.length) X Y)).1.e = 0 → l = (mList x f d s (mKeys (X.length + Y.length) X Y)).2)) := by
 refine fn_soundQ hE cf92 (Nat.le_of_ble_eq_true rfl) fun Q hQr hQn => ?_
 generalize hbl : lastB x d = bl at hQr hQn
 ((have hd := trivial; repeat' (first | ((first | apply GdK_st | apply GdK_sf | apply CondK_s) <;> intro hd <;> (try simp only [hd])) | simp (disch := first | assumption | omega | (simp only [nx] <;> omega) | fail) only [hd, hQr, hQn, c92_0, ↓YA, YB, YC, YE, YF, YZ, ↓reduceIte, Nat.reduceEqDiff, Nat.reduceAdd, Nat.reduceMul, Nat.reduceLeDiff, Int.reduceToNat, Int.reduceLE, Int.reduceLT, Int.reduceGT, Int.reduceGE, Int.reduceAdd, Int.reduceSub, Int.reduceNeg, Int.reduceBEq, Int.reduceBNe, hbl])) <;> (try (have hd_ : True := hd; clear hd_ hd)))
 unfold c92_1
 rw [AW_blk]
 obtain ⟨Mp, hMp, _⟩ := hM.mp
 have q1 := AHeap.lt hM.o
 have q2 := AHeap.lt hM.out.cell
 have q3 := AHeap.lt hM.out.row
 have q4 := AHeap.lt hMp
 have hx0 : AHeap.Ext H (H.alloc (.tok 0 43 12)) := by exact AXT
 refine AW_loopI (fun n F G => ∃ s' xs ys out t1 u1, Mrg base mg aid bid oid tk mid x tok a b most s' G ∧ ExtM [mg, oid, tk, mid] H G ∧ G.get H.next = some (.tok out.length 43 12) ∧ out.length + n ≤ 2000000 ∧ (∀ c ∈ xs, c ∈ X) ∧ (∀ c ∈ ys, c ∈ Y) ∧ n = xs.length + ys.length ∧ (mList x f d s (mKeys (X.length + Y.length) X Y)).1 = (mList x f d s' (mKeys n xs ys)).1 ∧ ((mList x f d s (mKeys (X.length + Y.length) X Y)).1.e = 0 → (mList x f d s (mKeys (X.length + Y.length) X Y)).2 = out ++ (mList x f d s' (mKeys n xs ys)).2) ∧ Fr.get F 0 = .ptr mg 0 ∧ Fr.get F 1 = .b bl ∧ Fr.get F 2 = .sl t1 (rC xs) ∧ Fr.get F 3 = .sl u1 (rC ys) ∧ Fr.get F 9 = .sl (.own H.next) (rC out)) (X.length + Y.length) (GStep.tok 9 43 12 rfl) ⟨s, X, Y, [], t, u, hM.ext hx0, .of hx0, AHeap.get_alloc_self, by simp only [List.length_nil]; omega, fun _ h => h, fun _ h => h, rfl, rfl, fun _ => rfl, rfl, rfl, rfl, rfl, rfl⟩ ?_
 rintro n F G ⟨s', xs, ys, out, t1, u1, hM', hx', ht, hlen, hxs, hys, rfl, hq1, hq2, f0, f1, f2, f3, f9⟩
 have h0 := hM'.o
 have hC : ∀ (c1 c2 : Cel) (b1 b2 : Bool) (key : Int) G1, s'.e = 0 → Mrg base mg aid bid oid tk mid x tok a b most s' G1 → (lastB x d = false → NodK base mg aid bid oid tk mid x tok a b most f s' (halfC c1 b1, halfC c2 b2)) → AgIn c1.agg → AgIn c2.agg → (b1 = false → c1.agg = noC.agg) → (b2 = false → c2.agg = noC.agg) → Sound Try.prog 94 [.ptr mg 0, .b bl, .i key, .agg (eCel c1 ++ [.b b1]), .agg (eCel c2 ++ [.b b2])] G1 (fun r H' => ExtM [mg, oid, tk, mid] G1 H' ∧ Mrg base mg aid bid oid tk mid x tok a b most (mCel x f d s' key (halfOf c1 b1) (halfOf c2 b2)).1 H' ∧ ∃ c, r = .agg (eCel c) ∧ ((mCel x f d s' key (halfOf c1 b1) (halfOf c2 b2)).1.e = 0 → c = (mCel x f d s' key (halfOf c1 b1) (halfOf c2 b2)).2)) := by
  intro c1 c2 b1 b2 key G1 he h1 h2 h3 h4 h5 h6
  have := pcell_sound (key := key) h1 he h2 h3 h4 h5 h6
  rw [hbl] at this
  exact this
 have l0 := AHeap.lt h0
 have lt := AHeap.lt ht
 have z0 : (((0 : Nat) : Int) == 0) = true := rfl
 have g0 : decide (((0 : Nat) : Int) > 0) = false := rfl
 have z1 : ∀ n : Nat, (((n + 1 : Nat) : Int) == 0) = false := fun n => by simp; omega
 have w0 : decide (IntKind.i64.wrap (((0 : Nat) : Int) + ((0 : Nat) : Int)) > 0) = false := by decide
 have e1 : ∀ c, (eCel c ++ [AV.sc (Value.bool false)]).length = 13 := fun _ => rfl
 have e2 : ∀ c, (eCel c ++ [AV.sc (Value.bool false)]).take 12 = eCel c := fun _ => rfl
 have e3 : ∀ c, (eCel c ++ [AV.sc (Value.bool false)]).drop 13 = [] := fun _ => rfl
 have e4 : ∀ c, (eCel c ++ [AV.sc (Value.bool true)]).length = 13 := fun _ => rfl
 have e5 : ∀ c, (eCel c ++ [AV.sc (Value.bool true)]).take 13 = eCel c ++ [AV.sc (Value.bool true)] := fun _ => rfl
 have e6 : ∀ c, (eCel c ++ [AV.sc (Value.bool true)])[0]? = some (.i c.key) := fun _ => rfl
 by_cases he : s'.e = 0
 ·cases xs with
  | nil =>
   cases ys with
   | nil =>
    have w00 : decide (((0 : Nat) : Int) + ((0 : Nat) : Int) > 0) = false := rfl
    ((have hd := trivial; repeat' (first | ((first | apply GdK_st | apply GdK_sf | apply CondK_s) <;> intro hd <;> (try simp only [hd])) | simp (disch := first | assumption | omega | (simp only [nx] <;> omega) | fail) only [hd, hQr, hQn, c92_0, ↓YA, YB, YC, YE, YF, YZ, ↓reduceIte, Nat.reduceEqDiff, Nat.reduceAdd, Nat.reduceMul, Nat.reduceLeDiff, Int.reduceToNat, Int.reduceLE, Int.reduceLT, Int.reduceGT, Int.reduceGE, Int.reduceAdd, Int.reduceSub, Int.reduceNeg, Int.reduceBEq, Int.reduceBNe, f0, f1, f2, f3, f9, List.length_map, List.length_nil, h0, he, w0, w00])) <;> (try (have hd_ : True := hd; clear hd_ hd)))
    exact fin_keep ⟨hx', by rw [hq1]; exact hM', out, _, rfl, fun h => by rw [hq2 h]; simp [mKeys, mList]⟩
   | cons p ys =>
    have w1 : decide (IntKind.i64.wrap (((0 : Nat) : Int) + ((ys.length + 1 : Nat) : Int)) > 0) = true := by
     simp only [List.length_cons, List.length_nil] at hlen
     rw [wrap_of (by omega) (by omega)]; simp
    have la : allLen 12 (eCel p :: ys.map eCel) = true := allLen_map (f := eCel) (fun _ => rfl) (p :: ys)
    have tk1 : ((eCel p :: ys.map eCel).take (ys.length + 1)).drop 1 = ys.map eCel := by
     rw [List.take_of_length_le (by simp)]; rfl
    have n01 : (1 : Nat) ≤ ys.length + 1 := by omega
    have i01 : (1 : Int).toNat = 1 := rfl
    have hp := hin p (.inr (hys _ (by simp)))
    have ifk : (if p.key > 0 then p.key else 0) = p.key := by split <;> omega
    have i0 : AgIn cel0.agg := ⟨by decide, by decide, by decide, by decide⟩
    ((have hd := trivial; repeat' (first | ((first | apply GdK_st | apply GdK_sf | apply CondK_s) <;> intro hd <;> (try simp only [hd])) | simp (disch := first | assumption | omega | (simp only [nx] <;> omega) | fail) only [hd, hQr, hQn, c92_0, ↓YA, YB, YC, YE, YF, YZ, ↓reduceIte, Nat.reduceEqDiff, Nat.reduceAdd, Nat.reduceMul, Nat.reduceLeDiff, Int.reduceToNat, Int.reduceLE, Int.reduceLT, Int.reduceGT, Int.reduceGE, Int.reduceAdd, Int.reduceSub, Int.reduceNeg, Int.reduceBEq, Int.reduceBNe, f0, f1, f2, f3, f9, List.length_map, List.length_nil, List.length_cons, h0, he, w1, z0, g0, z1, e1, e2, e3, bndA, AX.ev, la, tk1, n01, or_true, i01, e4, e5, e6, ifk])) <;> (try (have hd_ : True := hd; clear hd_ hd)))
    have hB : Mrg base mg aid bid oid tk mid x tok a b most s' ((G.alloc (.cells (eCel cel0 ++ [.b false]) 151)).alloc (.cells (eCel p ++ [.b true]) 151)) := hM'.ext (by exact AXT)
    have hX1 : ExtM [mg, oid, tk, mid] G ((G.alloc (.cells (eCel cel0 ++ [.b false]) 151)).alloc (.cells (eCel p ++ [.b true]) 151)) := ExtM.of (by exact AXT)
    refine CallK.use (hC cel0 p false true p.key _ he hB (fun h => hf h s' noC p he (.inr (.inr ⟨rfl, hys _ (by simp)⟩))) i0 hp.1 (fun _ => rfl) (fun h => by cases h)) ?_
    rintro r G2 ⟨hx2, hM2, c, rfl, hc⟩
    have ht2 := (hX1.trans hx2).get _ _ (by simp; omega) ht
    have lb : allLen 12 (out.map eCel) = true := allLen_map (f := eCel) (fun _ => rfl) out
    have lc : allLen 12 [eCel c] = true := rfl
    have hn1 : out.length + 1 ≤ maxLen := by simp only [List.length_cons, List.length_nil] at hlen; unfold maxLen; omega
    have hn2 : (out.length + 1) * 96 ≤ 140737488355328 := by simp only [List.length_cons, List.length_nil] at hlen; omega
    ((have hd := trivial; repeat' (first | ((first | apply GdK_st | apply GdK_sf | apply CondK_s) <;> intro hd <;> (try simp only [hd])) | simp (disch := first | assumption | omega | (simp only [nx] <;> omega) | fail) only [hd, hQr, hQn, c92_0, ↓YA, YB, YC, YE, YF, YZ, ↓reduceIte, Nat.reduceEqDiff, Nat.reduceAdd, Nat.reduceMul, Nat.reduceLeDiff, Int.reduceToNat, Int.reduceLE, Int.reduceLT, Int.reduceGT, Int.reduceGE, Int.reduceAdd, Int.reduceSub, Int.reduceNeg, Int.reduceBEq, Int.reduceBNe, ht2, f9, lb, lc, hn1, hn2, List.length_map, List.length_cons, List.length_nil, and_self])) <;> (try (have hd_ : True := hd; clear hd_ hd)))
    refine ⟨ys.length, by omega, (mCel x f d s' p.key noC p).1, [], ys, out ++ [c], t1, sliceTok u1 (ys.length + 1) 1 (ys.length + 1) none, hM.set hM2 (Nat.le_refl _), ((hx'.trans hX1).trans hx2).set (.inr (Nat.le_refl _)), ?_, ?_, hxs, fun c h => hys c (List.mem_cons_of_mem _ h), by simp, (by rw [hq1, show ([] : List Cel).length + (p :: ys).length = ys.length + 1 by simp]; rfl), fun h => ?_, f0, f1, f2, ?_, ?_⟩
    ·rw [AHeap.get_set_self (AHeap.lt ht2)]; simp
    ·simp only [List.length_append, List.length_cons, List.length_nil] at hlen ⊢; omega
    ·have hz : (mCel x f d s' p.key noC p).1.e = 0 := by
      refine Classical.byContradiction fun h2 => h2 ?_
      have := mList_err (x := x) (f := f) (d := d) (r := mKeys ys.length [] ys) h2
      rw [hq1, show ([] : List Cel).length + (p :: ys).length = ys.length + 1 by simp] at h
      rw [← this]; exact h
     rw [hq2 h, hc hz, List.append_assoc, show ([] : List Cel).length + (p :: ys).length = ys.length + 1 by simp]; rfl
    ·rw [List.take_of_length_le (by simp)]
    ·simp [rC]
  | cons p xs =>
   cases ys with
   | nil => 
    have w1 : decide (IntKind.i64.wrap (((xs.length + 1 : Nat) : Int) + ((0 : Nat) : Int)) > 0) = true := by
     simp only [List.length_cons, List.length_nil] at hlen
     rw [wrap_of (by omega) (by omega)]; simp
    have la : allLen 12 (eCel p :: xs.map eCel) = true := allLen_map (f := eCel) (fun _ => rfl) (p :: xs)
    have tk1 : ((eCel p :: xs.map eCel).take (xs.length + 1)).drop 1 = xs.map eCel := by
     rw [List.take_of_length_le (by simp)]; rfl
    have n01 : (1 : Nat) ≤ xs.length + 1 := by omega
    have i01 : (1 : Int).toNat = 1 := rfl
    have hp := hin p (.inl (hxs _ (by simp)))
    have ifk : (if 0 > p.key then 0 else p.key) = p.key := if_neg (by omega)
    have i0 : AgIn cel0.agg := ⟨by decide, by decide, by decide, by decide⟩
    ((have hd := trivial; repeat' (first | ((first | apply GdK_st | apply GdK_sf | apply CondK_s) <;> intro hd <;> (try simp only [hd])) | simp (disch := first | assumption | omega | (simp only [nx] <;> omega) | fail) only [hd, hQr, hQn, c92_0, ↓YA, YB, YC, YE, YF, YZ, ↓reduceIte, Nat.reduceEqDiff, Nat.reduceAdd, Nat.reduceMul, Nat.reduceLeDiff, Int.reduceToNat, Int.reduceLE, Int.reduceLT, Int.reduceGT, Int.reduceGE, Int.reduceAdd, Int.reduceSub, Int.reduceNeg, Int.reduceBEq, Int.reduceBNe, f0, f1, f2, f3, f9, List.length_map, List.length_nil, List.length_cons, h0, he, w1, z0, g0, z1, e1, e2, e3, bndA, AX.ev, la, tk1, n01, or_true, i01, e4, e5, e6, ifk])) <;> (try (have hd_ : True := hd; clear hd_ hd)))
    have hB : Mrg base mg aid bid oid tk mid x tok a b most s' (((G.alloc (.cells (eCel cel0 ++ [.b false]) 151)).alloc (.cells (eCel cel0 ++ [.b false]) 151)).set G.next (.cells (eCel p ++ [.b true]) 151)) := hM'.set (hM'.ext (by exact AXT)) (Nat.le_refl _)
    have hX1 : ExtM [mg, oid, tk, mid] G (((G.alloc (.cells (eCel cel0 ++ [.b false]) 151)).alloc (.cells (eCel cel0 ++ [.b false]) 151)).set G.next (.cells (eCel p ++ [.b true]) 151)) := (ExtM.of (by exact AXT)).set (.inr (Nat.le_refl _))
    refine CallK.use (hC p cel0 true false p.key _ he hB (fun h => hf h s' p noC he (.inr (.inl ⟨hxs _ (by simp), rfl⟩))) hp.1 i0 (fun h => by cases h) (fun _ => rfl)) ?_
    rintro r G2 ⟨hx2, hM2, c, rfl, hc⟩
    have ht2 := (hX1.trans hx2).get _ _ (by simp; omega) ht
    have lb : allLen 12 (out.map eCel) = true := allLen_map (f := eCel) (fun _ => rfl) out
    have lc : allLen 12 [eCel c] = true := rfl
    have hn1 : out.length + 1 ≤ maxLen := by simp only [List.length_cons, List.length_nil] at hlen; unfold maxLen; omega
    have hn2 : (out.length + 1) * 96 ≤ 140737488355328 := by simp only [List.length_cons, List.length_nil] at hlen; omega
    ((have hd := trivial; repeat' (first | ((first | apply GdK_st | apply GdK_sf | apply CondK_s) <;> intro hd <;> (try simp only [hd])) | simp (disch := first | assumption | omega | (simp only [nx] <;> omega) | fail) only [hd, hQr, hQn, c92_0, ↓YA, YB, YC, YE, YF, YZ, ↓reduceIte, Nat.reduceEqDiff, Nat.reduceAdd, Nat.reduceMul, Nat.reduceLeDiff, Int.reduceToNat, Int.reduceLE, Int.reduceLT, Int.reduceGT, Int.reduceGE, Int.reduceAdd, Int.reduceSub, Int.reduceNeg, Int.reduceBEq, Int.reduceBNe, ht2, f9, lb, lc, hn1, hn2, List.length_map, List.length_cons, List.length_nil, and_self])) <;> (try (have hd_ : True := hd; clear hd_ hd)))
    refine ⟨xs.length, by omega, (mCel x f d s' p.key p noC).1, xs, [], out ++ [c], sliceTok t1 (xs.length + 1) 1 (xs.length + 1) none, u1, hM.set hM2 (Nat.le_refl _), ((hx'.trans hX1).trans hx2).set (.inr (Nat.le_refl _)), ?_, ?_, fun c h => hxs c (List.mem_cons_of_mem _ h), hys, rfl, hq1.trans rfl, fun h => ?_, f0, f1, ?_, f3, ?_⟩
    ·rw [AHeap.get_set_self (AHeap.lt ht2)]; simp
    ·simp only [List.length_append, List.length_cons, List.length_nil] at hlen ⊢; omega
    ·have hz : (mCel x f d s' p.key p noC).1.e = 0 := by
      refine Classical.byContradiction fun h2 => h2 ?_
      have := mList_err (x := x) (f := f) (d := d) (r := mKeys xs.length xs []) h2
      rw [hq1] at h
      rw [← this]; exact h
     rw [hq2 h, hc hz, List.append_assoc]; rfl
    ·rw [List.take_of_length_le (by simp)]
    ·simp [rC]
   | cons q ys =>
    have w1 : decide (IntKind.i64.wrap (((xs.length + 1 : Nat) : Int) + ((ys.length + 1 : Nat) : Int)) > 0) = true := by
     simp only [List.length_cons, List.length_nil] at hlen
     rw [wrap_of (by omega) (by omega)]; simp; omega
    have g1 : ∀ n : Nat, decide (((n + 1 : Nat) : Int) > 0) = true := fun n => by simp
    have w2 : decide (((xs.length + 1 : Nat) : Int) + ((ys.length + 1 : Nat) : Int) > 0) = true := by simp; omega
    have la : allLen 12 (eCel p :: xs.map eCel) = true := allLen_map (f := eCel) (fun _ => rfl) (p :: xs)
    have la2 : allLen 12 (eCel q :: ys.map eCel) = true := allLen_map (f := eCel) (fun _ => rfl) (q :: ys)
    have tk1 : ((eCel p :: xs.map eCel).take (xs.length + 1)).drop 1 = xs.map eCel := by
     rw [List.take_of_length_le (by simp)]; rfl
    have tk2 : ((eCel q :: ys.map eCel).take (ys.length + 1)).drop 1 = ys.map eCel := by
     rw [List.take_of_length_le (by simp)]; rfl
    have n01 : (1 : Nat) ≤ xs.length + 1 := by omega
    have n02 : (1 : Nat) ≤ ys.length + 1 := by omega
    have i01 : (1 : Int).toNat = 1 := rfl
    have hp := hin p (.inl (hxs _ (by simp)))
    have hq := hin q (.inr (hys _ (by simp)))
    have ifk : (if 0 > p.key then 0 else p.key) = p.key := if_neg (by omega)
    have ifq : (if q.key > 0 then q.key else 0) = q.key := by split <;> omega
    have i0 : AgIn cel0.agg := ⟨by decide, by decide, by decide, by decide⟩
    have k0 : ∀ c, (eCel c)[0]? = some (.i c.key) := fun _ => rfl
    have hn0 : (p :: xs).length + (q :: ys).length = (xs.length + ys.length + 1) + 1 := by simp only [List.length_cons]; omega
    rw [hn0] at hq1 hq2
    have hn1 : out.length + 1 ≤ maxLen := by simp only [List.length_cons, List.length_nil] at hlen; unfold maxLen; omega
    have hn2 : (out.length + 1) * 96 ≤ 140737488355328 := by simp only [List.length_cons, List.length_nil] at hlen; omega
    have lb : allLen 12 (out.map eCel) = true := allLen_map (f := eCel) (fun _ => rfl) out
    have lc : ∀ c, allLen 12 [eCel c] = true := fun _ => rfl
    by_cases c1 : p.key < q.key
    ·have d1 : decide (p.key < q.key) = true := decide_eq_true c1
     have hk : mKeys (xs.length + ys.length + 1 + 1) (p :: xs) (q :: ys) = (p.key, p, noC) :: mKeys (xs.length + (q :: ys).length) xs (q :: ys) := if_pos c1
     rw [hk] at hq1 hq2
     ((have hd := trivial; repeat' (first | ((first | apply GdK_st | apply GdK_sf | apply CondK_s) <;> intro hd <;> (try simp only [hd])) | simp (disch := first | assumption | omega | (simp only [nx] <;> omega) | fail) only [hd, hQr, hQn, c92_0, ↓YA, YB, YC, YE, YF, YZ, ↓reduceIte, Nat.reduceEqDiff, Nat.reduceAdd, Nat.reduceMul, Nat.reduceLeDiff, Int.reduceToNat, Int.reduceLE, Int.reduceLT, Int.reduceGT, Int.reduceGE, Int.reduceAdd, Int.reduceSub, Int.reduceNeg, Int.reduceBEq, Int.reduceBNe, f0, f1, f2, f3, f9, List.length_map, List.length_nil, List.length_cons, h0, he, w1, w2, z0, g0, g1, z1, e1, e2, e3, bndA, AX.ev, la, tk1, n01, or_true, i01, e4, e5, e6, ifk, k0, d1])) <;> (try (have hd_ : True := hd; clear hd_ hd)))
     have hB : Mrg base mg aid bid oid tk mid x tok a b most s' (((G.alloc (.cells (eCel cel0 ++ [.b false]) 151)).alloc (.cells (eCel cel0 ++ [.b false]) 151)).set G.next (.cells (eCel p ++ [.b true]) 151)) := hM'.set (hM'.ext (by exact AXT)) (Nat.le_refl _)
     have hX1 : ExtM [mg, oid, tk, mid] G (((G.alloc (.cells (eCel cel0 ++ [.b false]) 151)).alloc (.cells (eCel cel0 ++ [.b false]) 151)).set G.next (.cells (eCel p ++ [.b true]) 151)) := (ExtM.of (by exact AXT)).set (.inr (Nat.le_refl _))
     refine CallK.use (hC p cel0 true false p.key _ he hB (fun h => hf h s' p noC he (.inr (.inl ⟨hxs _ (by simp), rfl⟩))) hp.1 i0 (fun h => by cases h) (fun _ => rfl)) ?_
     rintro r G2 ⟨hx2, hM2, c, rfl, hc⟩
     have ht2 := (hX1.trans hx2).get _ _ (by simp; omega) ht
     ((have hd := trivial; repeat' (first | ((first | apply GdK_st | apply GdK_sf | apply CondK_s) <;> intro hd <;> (try simp only [hd])) | simp (disch := first | assumption | omega | (simp only [nx] <;> omega) | fail) only [hd, hQr, hQn, c92_0, ↓YA, YB, YC, YE, YF, YZ, ↓reduceIte, Nat.reduceEqDiff, Nat.reduceAdd, Nat.reduceMul, Nat.reduceLeDiff, Int.reduceToNat, Int.reduceLE, Int.reduceLT, Int.reduceGT, Int.reduceGE, Int.reduceAdd, Int.reduceSub, Int.reduceNeg, Int.reduceBEq, Int.reduceBNe, ht2, f9, lb, lc, hn1, hn2, List.length_map, List.length_cons, List.length_nil, and_self])) <;> (try (have hd_ : True := hd; clear hd_ hd)))
     refine ⟨xs.length + (q :: ys).length, by simp only [List.length_cons]; omega, (mCel x f d s' p.key p noC).1, xs, q :: ys, out ++ [c], sliceTok t1 (xs.length + 1) 1 (xs.length + 1) none, u1, hM.set hM2 (Nat.le_refl _), ((hx'.trans hX1).trans hx2).set (.inr (Nat.le_refl _)), ?_, ?_, fun c h => hxs c (List.mem_cons_of_mem _ h), hys, rfl, hq1.trans rfl, fun h => ?_, f0, f1, ?_, f3, ?_⟩
     ·rw [AHeap.get_set_self (AHeap.lt ht2)]; simp
     ·simp only [List.length_append, List.length_cons, List.length_nil] at hlen ⊢; omega
     ·have hz : (mCel x f d s' p.key p noC).1.e = 0 := by
       refine Classical.byContradiction fun h2 => h2 ?_
       have := mList_err (x := x) (f := f) (d := d) (r := mKeys (xs.length + (q :: ys).length) xs (q :: ys)) h2
       rw [hq1] at h
       rw [← this]; exact h
      rw [hq2 h, hc hz, List.append_assoc]; rfl
     ·rw [List.take_of_length_le (by simp)]
     ·simp [rC]
    have d1 : decide (p.key < q.key) = false := decide_eq_false c1
    by_cases c2 : q.key < p.key
    ·have d2 : decide (q.key < p.key) = true := decide_eq_true c2
     have hk : mKeys (xs.length + ys.length + 1 + 1) (p :: xs) (q :: ys) = (q.key, noC, q) :: mKeys (xs.length + ys.length + 1) (p :: xs) ys := (if_neg c1).trans (if_pos c2)
     rw [hk] at hq1 hq2
     ((have hd := trivial; repeat' (first | ((first | apply GdK_st | apply GdK_sf | apply CondK_s) <;> intro hd <;> (try simp only [hd])) | simp (disch := first | assumption | omega | (simp only [nx] <;> omega) | fail) only [hd, hQr, hQn, c92_0, ↓YA, YB, YC, YE, YF, YZ, ↓reduceIte, Nat.reduceEqDiff, Nat.reduceAdd, Nat.reduceMul, Nat.reduceLeDiff, Int.reduceToNat, Int.reduceLE, Int.reduceLT, Int.reduceGT, Int.reduceGE, Int.reduceAdd, Int.reduceSub, Int.reduceNeg, Int.reduceBEq, Int.reduceBNe, f0, f1, f2, f3, f9, List.length_map, List.length_nil, List.length_cons, h0, he, w1, w2, z0, g0, g1, z1, e1, e2, e3, bndA, AX.ev, la2, tk2, n02, or_true, i01, e4, e5, e6, ifq, k0, d1, d2])) <;> (try (have hd_ : True := hd; clear hd_ hd)))
     have hB : Mrg base mg aid bid oid tk mid x tok a b most s' ((G.alloc (.cells (eCel cel0 ++ [.b false]) 151)).alloc (.cells (eCel q ++ [.b true]) 151)) := hM'.ext (by exact AXT)
     have hX1 : ExtM [mg, oid, tk, mid] G ((G.alloc (.cells (eCel cel0 ++ [.b false]) 151)).alloc (.cells (eCel q ++ [.b true]) 151)) := ExtM.of (by exact AXT)
     refine CallK.use (hC cel0 q false true q.key _ he hB (fun h => hf h s' noC q he (.inr (.inr ⟨rfl, hys _ (by simp)⟩))) i0 hq.1 (fun _ => rfl) (fun h => by cases h)) ?_
     rintro r G2 ⟨hx2, hM2, c, rfl, hc⟩
     have ht2 := (hX1.trans hx2).get _ _ (by simp; omega) ht
     ((have hd := trivial; repeat' (first | ((first | apply GdK_st | apply GdK_sf | apply CondK_s) <;> intro hd <;> (try simp only [hd])) | simp (disch := first | assumption | omega | (simp only [nx] <;> omega) | fail) only [hd, hQr, hQn, c92_0, ↓YA, YB, YC, YE, YF, YZ, ↓reduceIte, Nat.reduceEqDiff, Nat.reduceAdd, Nat.reduceMul, Nat.reduceLeDiff, Int.reduceToNat, Int.reduceLE, Int.reduceLT, Int.reduceGT, Int.reduceGE, Int.reduceAdd, Int.reduceSub, Int.reduceNeg, Int.reduceBEq, Int.reduceBNe, ht2, f9, lb, lc, hn1, hn2, List.length_map, List.length_cons, List.length_nil, and_self])) <;> (try (have hd_ : True := hd; clear hd_ hd)))
     refine ⟨xs.length + ys.length + 1, by omega, (mCel x f d s' q.key noC q).1, p :: xs, ys, out ++ [c], t1, sliceTok u1 (ys.length + 1) 1 (ys.length + 1) none, hM.set hM2 (Nat.le_refl _), ((hx'.trans hX1).trans hx2).set (.inr (Nat.le_refl _)), ?_, ?_, hxs, fun c h => hys c (List.mem_cons_of_mem _ h), by simp only [List.length_cons]; omega, hq1.trans rfl, fun h => ?_, f0, f1, f2, ?_, ?_⟩
     ·rw [AHeap.get_set_self (AHeap.lt ht2)]; simp
     ·simp only [List.length_append, List.length_cons, List.length_nil] at hlen ⊢; omega
     ·have hz : (mCel x f d s' q.key noC q).1.e = 0 := by
       refine Classical.byContradiction fun h2 => h2 ?_
       have := mList_err (x := x) (f := f) (d := d) (r := mKeys (xs.length + ys.length + 1) (p :: xs) ys) h2
       rw [hq1] at h
       rw [← this]; exact h
      rw [hq2 h, hc hz, List.append_assoc]; rfl
     ·rw [List.take_of_length_le (by simp)]
     ·simp [rC]
    have d2 : decide (q.key < p.key) = false := decide_eq_false c2
    have hk : mKeys (xs.length + ys.length + 1 + 1) (p :: xs) (q :: ys) = (p.key, p, q) :: mKeys (xs.length + ys.length) xs ys := by
     rw [← mKeys_fuel _ xs ys (Nat.le_refl _)]
     exact (if_neg c1).trans (if_neg c2)
    rw [hk] at hq1 hq2
    have ifb : (if q.key > p.key then q.key else p.key) = p.key := if_neg (by omega)
    ((have hd := trivial; repeat' (first | ((first | apply GdK_st | apply GdK_sf | apply CondK_s) <;> intro hd <;> (try simp only [hd])) | simp (disch := first | assumption | omega | (simp only [nx] <;> omega) | fail) only [hd, hQr, hQn, c92_0, ↓YA, YB, YC, YE, YF, YZ, ↓reduceIte, Nat.reduceEqDiff, Nat.reduceAdd, Nat.reduceMul, Nat.reduceLeDiff, Int.reduceToNat, Int.reduceLE, Int.reduceLT, Int.reduceGT, Int.reduceGE, Int.reduceAdd, Int.reduceSub, Int.reduceNeg, Int.reduceBEq, Int.reduceBNe, f0, f1, f2, f3, f9, List.length_map, List.length_nil, List.length_cons, h0, he, w1, w2, z0, g0, g1, z1, e1, e2, e3, bndA, AX.ev, la, tk1, n01, la2, tk2, n02, or_true, i01, e4, e5, e6, ifb, k0, d1, d2])) <;> (try (have hd_ : True := hd; clear hd_ hd)))
    have hB : Mrg base mg aid bid oid tk mid x tok a b most s' ((((G.alloc (.cells (eCel cel0 ++ [.b false]) 151)).alloc (.cells (eCel cel0 ++ [.b false]) 151)).set G.next (.cells (eCel p ++ [.b true]) 151)).set (G.next + 1) (.cells (eCel q ++ [.b true]) 151)) := hM'.set (hM'.set (hM'.ext (by exact AXT)) (Nat.le_refl _)) (Nat.le_succ _)
    have hX1 : ExtM [mg, oid, tk, mid] G ((((G.alloc (.cells (eCel cel0 ++ [.b false]) 151)).alloc (.cells (eCel cel0 ++ [.b false]) 151)).set G.next (.cells (eCel p ++ [.b true]) 151)).set (G.next + 1) (.cells (eCel q ++ [.b true]) 151)) := ((ExtM.of (by exact AXT)).set (.inr (Nat.le_refl _))).set (.inr (Nat.le_succ _))
    refine CallK.use (hC p q true true p.key _ he hB (fun h => hf h s' p q he (.inl ⟨hxs _ (by simp), hys _ (by simp)⟩)) hp.1 hq.1 (fun h => by cases h) (fun h => by cases h)) ?_
    rintro r G2 ⟨hx2, hM2, c, rfl, hc⟩
    have ht2 := (hX1.trans hx2).get _ _ (by simp; omega) ht
    ((have hd := trivial; repeat' (first | ((first | apply GdK_st | apply GdK_sf | apply CondK_s) <;> intro hd <;> (try simp only [hd])) | simp (disch := first | assumption | omega | (simp only [nx] <;> omega) | fail) only [hd, hQr, hQn, c92_0, ↓YA, YB, YC, YE, YF, YZ, ↓reduceIte, Nat.reduceEqDiff, Nat.reduceAdd, Nat.reduceMul, Nat.reduceLeDiff, Int.reduceToNat, Int.reduceLE, Int.reduceLT, Int.reduceGT, Int.reduceGE, Int.reduceAdd, Int.reduceSub, Int.reduceNeg, Int.reduceBEq, Int.reduceBNe, ht2, f9, lb, lc, hn1, hn2, List.length_map, List.length_cons, List.length_nil, and_self])) <;> (try (have hd_ : True := hd; clear hd_ hd)))
    refine ⟨xs.length + ys.length, by omega, (mCel x f d s' p.key p q).1, xs, ys, out ++ [c], sliceTok t1 (xs.length + 1) 1 (xs.length + 1) none, sliceTok u1 (ys.length + 1) 1 (ys.length + 1) none, hM.set hM2 (Nat.le_refl _), ((hx'.trans hX1).trans hx2).set (.inr (Nat.le_refl _)), ?_, ?_, fun c h => hxs c (List.mem_cons_of_mem _ h), fun c h => hys c (List.mem_cons_of_mem _ h), rfl, hq1.trans rfl, fun h => ?_, f0, f1, ?_, ?_, ?_⟩
    ·rw [AHeap.get_set_self (AHeap.lt ht2)]; simp
    ·simp only [List.length_append, List.length_cons, List.length_nil] at hlen ⊢; omega
    ·have hz : (mCel x f d s' p.key p q).1.e = 0 := by
      refine Classical.byContradiction fun h2 => h2 ?_
      have := mList_err (x := x) (f := f) (d := d) (r := mKeys (xs.length + ys.length) xs ys) h2
      rw [hq1] at h
      rw [← this]; exact h
     rw [hq2 h, hc hz, List.append_assoc]; rfl
    ·rw [List.take_of_length_le (by simp)]
    ·rw [List.take_of_length_le (by simp)]
    ·simp [rC]
 ·have hen : (s'.e == 0) = false := by simp; exact he
  have hz := mList_err (x := x) (f := f) (d := d) (r := mKeys (xs.length + ys.length) xs ys) he
  ((have hd := trivial; repeat' (first | ((first | apply GdK_st | apply GdK_sf | apply CondK_s) <;> intro hd <;> (try simp only [hd])) | simp (disch := first | assumption | omega | (simp only [nx] <;> omega) | fail) only [hd, hQr, hQn, c92_0, ↓YA, YB, YC, YE, YF, YZ, ↓reduceIte, Nat.reduceEqDiff, Nat.reduceAdd, Nat.reduceMul, Nat.reduceLeDiff, Int.reduceToNat, Int.reduceLE, Int.reduceLT, Int.reduceGT, Int.reduceGE, Int.reduceAdd, Int.reduceSub, Int.reduceNeg, Int.reduceBEq, Int.reduceBNe, f0, f1, f2, f3, f9, List.length_map, h0, hen])) <;> (try (have hd_ : True := hd; clear hd_ hd)))
  all_goals exact fin_keep ⟨hx', by rw [hq1, hz]; exact hM', out, _, rfl, fun h => absurd (by rw [hq1, hz] at h; exact h) he⟩
theorem Rise.len {hi : Int} : ∀ {l : List Cel} {lo : Int}, Rise hi lo l → lo ≤ hi → (l.length : Int) ≤ hi - lo
 | [], lo, _, h => by simp; omega
 | c :: r, lo, h, _ => by
  have := Rise.len h.2.2.2 (by have := h.2.1; omega)
  have h1 := h.1
  simp only [List.length_cons]
  omega
theorem Rise.key {hi : Int} : ∀ {l : List Cel} {lo : Int}, Rise hi lo l → ∀ c ∈ l, lo ≤ c.key ∧ c.key < hi ∧ 0 ≤ c.child
 | [], _, _, _, h => by simp at h
 | p :: r, lo, h, c, hc => by
  rcases List.mem_cons.1 hc with rfl | hc
  ·exact ⟨h.1, h.2.1, h.2.2.1⟩
  ·have := Rise.key h.2.2.2 c hc
   have h1 := h.1
   omega
structure Prw (x : Shp) (l : List Nod) : Prop where
 k : Wlk x l
 inn : ∀ n ∈ l, NodIn n
 lens : ∀ n ∈ l, n.lists.length = (x.sizes.getD n.dim.toNat []).length
 rise : ∀ n ∈ l, ∀ t : Nat, Rise ((x.sizes.getD n.dim.toNat []).getD t 0) 0 (n.lists.getD t [])
 allc : ∀ n ∈ l, 0 ≤ n.all.child
 size : ∀ s ∈ x.sizes, ∀ k ∈ s, 1 ≤ k ∧ k ≤ 200
def At (l : List Nod) (D : Nat) (i : Int) : Prop := i = -1 ∨ (0 ≤ i ∧ i < l.length ∧ (nodAt l i).dim = D)
theorem getP_at {l : List Nod} {D : Nat} {i : Int} (h : At l D i) (hi : i ≠ -1) : getP l i ∈ l ∧ (getP l i).dim = D ∧ getP l i = nodAt l i := by
 rcases h with h | ⟨h1, h2, h3⟩
 ·exact absurd h hi
 ·obtain ⟨b, rfl⟩ : ∃ b : Nat, i = b := ⟨i.toNat, by omega⟩
  have hb : b < l.length := by omega
  have e : getP l (b : Int) = nodAt l b := if_neg hi
  rw [e]
  refine ⟨?_, h3, rfl⟩
  rw [nodAt_nat hb]
  exact List.getElem_mem hb
theorem getP_none {l : List Nod} : getP l (-1) = nod0 := if_pos rfl
theorem getD_size {x : Shp} {l : List Nod} (h : Prw x l) (d t : Nat) : 0 ≤ (x.sizes.getD d []).getD t 0 ∧ (x.sizes.getD d []).getD t 0 ≤ 200 := by
 by_cases h1 : d < x.sizes.length
 ·have e : x.sizes.getD d [] = x.sizes[d] := by rw [List.getD_eq_getElem?_getD, List.getElem?_eq_getElem h1]; rfl
  rw [e]
  by_cases h2 : t < x.sizes[d].length
  ·have e2 : x.sizes[d].getD t 0 = x.sizes[d][t] := by rw [List.getD_eq_getElem?_getD, List.getElem?_eq_getElem h2]; rfl
   have := h.size _ (List.getElem_mem h1) _ (List.getElem_mem h2)
   rw [e2]; omega
  ·have e2 : x.sizes[d].getD t 0 = 0 := by rw [List.getD_eq_getElem?_getD, List.getElem?_eq_none (by omega)]; rfl
   rw [e2]; omega
 ·have e : x.sizes.getD d [] = [] := by rw [List.getD_eq_getElem?_getD, List.getElem?_eq_none (by omega)]; rfl
  rw [e]; exact ⟨Int.le_refl _, show (0 : Int) ≤ 200 by decide⟩
theorem nod0_getD (t : Nat) : nod0.lists.getD t [] = [] := rfl
theorem getP_lists {x : Shp} {l : List Nod} {D : Nat} {i : Int} (h : Prw x l) (ha : At l D i) : (getP l i).lists.length ≤ 4 ∧ (∀ t : Nat, ((getP l i).lists.getD t []).length ≤ 200) ∧ (∀ t : Nat, ∀ c ∈ (getP l i).lists.getD t [], AgIn c.agg ∧ 0 ≤ c.key ∧ c.key ≤ 9223372036854775807 ∧ 0 ≤ c.child ∧ c ∈ each (getP l i)) ∧ AgIn (getP l i).all.agg := by
 by_cases hi : i = -1
 ·subst hi
  rw [getP_none]
  exact ⟨Nat.zero_le _, fun t => by rw [nod0_getD]; exact Nat.zero_le _, fun t c hc => by rw [nod0_getD] at hc; simp at hc, ⟨by decide, by decide, by decide, by decide⟩⟩
 ·obtain ⟨hm, hd, _⟩ := getP_at ha hi
  have hr := h.rise _ hm
  have hin := h.inn _ hm
  have hl := h.lens _ hm
  obtain ⟨b1, b2, b3⟩ := h.k.w.bounds
  refine ⟨?_, fun t => ?_, fun t c hc => ?_, hin.2.agg⟩
  ·rw [hl, List.getD_eq_getElem?_getD]
   cases e : x.sizes[(getP l i).dim.toNat]? with
   | none => exact Nat.zero_le _
   | some s => exact b3 s (List.mem_of_getElem? e)
  ·have := getD_size h (getP l i).dim.toNat t
   have := (hr t).len this.1
   omega
  ·have := getD_size h (getP l i).dim.toNat t
   have hk := (hr t).key c hc
   have hmem : (getP l i).lists.getD t [] ∈ (getP l i).lists := by
    rw [List.getD_eq_getElem?_getD] at hc ⊢
    cases e : (getP l i).lists[t]? with
    | none => rw [e] at hc; simp at hc
    | some c' => exact List.mem_of_getElem? e
   exact ⟨(hin.1 _ hmem c hc).agg, hk.1, by omega, hk.2.2, List.mem_append_left _ (List.mem_flatten.2 ⟨_, hmem, hc⟩)⟩
theorem mKeys_len : ∀ (n : Nat) (xs ys : List Cel), (mKeys n xs ys).length ≤ xs.length + ys.length
 | 0, _, _ => by simp [mKeys]
 | _ + 1, [], [] => by simp [mKeys]
 | n + 1, p :: xs, [] => by have := mKeys_len n xs []; simp [mKeys] at this ⊢; omega
 | n + 1, [], q :: ys => by have := mKeys_len n [] ys; simp [mKeys] at this ⊢; omega
 | n + 1, p :: xs, q :: ys => by
  have h1 := mKeys_len n xs (q :: ys)
  have h2 := mKeys_len n (p :: xs) ys
  have h3 := mKeys_len n xs ys
  unfold mKeys
  simp only [List.length_cons] at h1 h2 ⊢
  split
  ·simp only [List.length_cons]; omega
  ·split <;> simp only [List.length_cons] <;> omega
theorem mList_len {x : Shp} {f : MSt → Int × Int → MSt × Int} {d : Int} : ∀ (r : List (Int × Cel × Cel)) (s : MSt), (mList x f d s r).2.length = r.length
 | [], _ => rfl
 | (key, p, q) :: r, s => by unfold mList; simp only [List.length_cons, mList_len r]
theorem mTiers_len {x : Shp} {f : MSt → Int × Int → MSt × Int} {d : Int} : ∀ (r : List (List (Int × Cel × Cel))) (s : MSt), (mTiers x f d s r).2.length = r.length
 | [], _ => rfl
 | t :: r, s => by unfold mTiers; simp only [List.length_cons, mTiers_len r]
theorem mTiers_mem {x : Shp} {f : MSt → Int × Int → MSt × Int} {d : Int} {m : Nat} : ∀ (r : List (List (Int × Cel × Cel))) (s : MSt), (∀ t ∈ r, t.length ≤ m) → ∀ l ∈ (mTiers x f d s r).2, l.length ≤ m
 | [], _, _, l, h => by simp [mTiers] at h
 | t :: r, s, hr, l, h => by
  unfold mTiers at h
  rcases List.mem_cons.1 h with rfl | h
  ·rw [mList_len]; exact hr _ List.mem_cons_self
  ·exact mTiers_mem r _ (fun t ht => hr t (List.mem_cons_of_mem _ ht)) l h
theorem flatC_len {l : List (List Cel)} {m : Nat} (h : ∀ c ∈ l, c.length ≤ m) : l.flatten.length ≤ l.length * m := by
 induction l with
 | nil => simp
 | cons c r ih =>
  have h1 := h c List.mem_cons_self
  have h2 := ih fun d hd => h d (List.mem_cons_of_mem _ hd)
  simp only [List.flatten_cons, List.length_append, List.length_cons, Nat.add_mul]
  omega
theorem findIdx_snoc {p q : Int × Int} {P : List (Int × Int)} (h : P.findIdx? (· == p) = none) : (P ++ [p]).findIdx? (· == q) = if q = p then some P.length else P.findIdx? (· == q) := by
 rw [List.findIdx?_append]
 by_cases e : q = p
 ·subst e
  rw [h, if_pos rfl]
  simp
 ·rw [if_neg e]
  cases hq : P.findIdx? (· == q) with
  | some j => rfl
  | none =>
   have : (p == q) = false := by rw [beq_eq_false_iff_ne]; exact fun h => e h.symm
   simp [this]
section
variable {R : MSt → MSt → Prop} (hr : ∀ s, R s s) (ht : ∀ s t u, R s t → R t u → R s u) (hE : ∀ s e, R s ⟨s.N, s.P, e⟩) {x : Shp} {f : MSt → Int × Int → MSt × Int} {d : Int}
include hr hE
theorem mCel_rel {s : MSt} {key : Int} {p q : Cel} (hf : lastB x d = false → s.e = 0 → R s (f s (p.child, q.child)).1) : R s (mCel x f d s key p q).1 := by
 unfold mCel
 split
 ·exact hr s
 ·split
  ·split
   ·exact hr s
   ·exact hE s 12
  ·rename_i h1 h2
   exact hf (by simpa using h2) (Classical.byContradiction h1)
include ht
theorem mList_rel : ∀ (r : List (Int × Cel × Cel)) (s : MSt), (lastB x d = false → ∀ s, s.e = 0 → ∀ key p q, (key, p, q) ∈ r → R s (f s (p.child, q.child)).1) → R s (mList x f d s r).1
 | [], s, _ => hr s
 | (key, p, q) :: r, s, hf => ht _ _ _ (mCel_rel hr hE fun h he => hf h s he key p q List.mem_cons_self) (mList_rel r _ fun h s he k p q hm => hf h s he k p q (List.mem_cons_of_mem _ hm))
theorem mTiers_rel : ∀ (r : List (List (Int × Cel × Cel))) (s : MSt), (lastB x d = false → ∀ s, s.e = 0 → ∀ t ∈ r, ∀ key p q, (key, p, q) ∈ t → R s (f s (p.child, q.child)).1) → R s (mTiers x f d s r).1
 | [], s, _ => hr s
 | t :: r, s, hf => ht _ _ _ (mList_rel hr ht hE t s fun h s he => hf h s he t List.mem_cons_self) (mTiers_rel r _ fun h s he u hu => hf h s he u (List.mem_cons_of_mem _ hu))
end
theorem mKeys_mem : ∀ {n : Nat} {xs ys : List Cel} {key : Int} {p q : Cel}, (key, p, q) ∈ mKeys n xs ys → (p ∈ xs ∧ q ∈ ys) ∨ (p ∈ xs ∧ q = noC) ∨ (p = noC ∧ q ∈ ys)
 | 0, _, _, _, _, _, h => by simp [mKeys] at h
 | _ + 1, [], [], _, _, _, h => by simp [mKeys] at h
 | n + 1, u :: xs, [], key, p, q, h => by
  simp only [mKeys, List.mem_cons, Prod.mk.injEq] at h
  rcases h with ⟨_, rfl, rfl⟩ | h
  ·exact .inr (.inl ⟨List.mem_cons_self, rfl⟩)
  ·rcases mKeys_mem h with ⟨_, h⟩ | ⟨h, e⟩ | ⟨_, h⟩
   ·simp at h
   ·exact .inr (.inl ⟨List.mem_cons_of_mem _ h, e⟩)
   ·simp at h
 | n + 1, [], v :: ys, key, p, q, h => by
  simp only [mKeys, List.mem_cons, Prod.mk.injEq] at h
  rcases h with ⟨_, rfl, rfl⟩ | h
  ·exact .inr (.inr ⟨rfl, List.mem_cons_self⟩)
  ·rcases mKeys_mem h with ⟨h, _⟩ | ⟨h, _⟩ | ⟨e, h⟩
   ·simp at h
   ·simp at h
   ·exact .inr (.inr ⟨e, List.mem_cons_of_mem _ h⟩)
 | n + 1, u :: xs, v :: ys, key, p, q, h => by
  unfold mKeys at h
  split at h
  ·rcases List.mem_cons.1 h with h | h
   ·simp only [Prod.mk.injEq] at h
    obtain ⟨_, rfl, rfl⟩ := h
    exact .inr (.inl ⟨List.mem_cons_self, rfl⟩)
   ·rcases mKeys_mem h with ⟨a, b⟩ | ⟨a, e⟩ | ⟨e, b⟩
    ·exact .inl ⟨List.mem_cons_of_mem _ a, b⟩
    ·exact .inr (.inl ⟨List.mem_cons_of_mem _ a, e⟩)
    ·exact .inr (.inr ⟨e, b⟩)
  ·split at h
   ·rcases List.mem_cons.1 h with h | h
    ·simp only [Prod.mk.injEq] at h
     obtain ⟨_, rfl, rfl⟩ := h
     exact .inr (.inr ⟨rfl, List.mem_cons_self⟩)
    ·rcases mKeys_mem h with ⟨a, b⟩ | ⟨a, e⟩ | ⟨e, b⟩
     ·exact .inl ⟨a, List.mem_cons_of_mem _ b⟩
     ·exact .inr (.inl ⟨a, e⟩)
     ·exact .inr (.inr ⟨e, List.mem_cons_of_mem _ b⟩)
   ·rcases List.mem_cons.1 h with h | h
    ·simp only [Prod.mk.injEq] at h
     obtain ⟨_, rfl, rfl⟩ := h
     exact .inl ⟨List.mem_cons_self, List.mem_cons_self⟩
    ·rcases mKeys_mem h with ⟨a, b⟩ | ⟨a, e⟩ | ⟨e, b⟩
     ·exact .inl ⟨List.mem_cons_of_mem _ a, List.mem_cons_of_mem _ b⟩
     ·exact .inr (.inl ⟨List.mem_cons_of_mem _ a, e⟩)
     ·exact .inr (.inr ⟨e, List.mem_cons_of_mem _ b⟩)
theorem at_max {a b : List Nod} {D : Nat} {i j : Int} (ha : At a D i) (hb : At b D j) (h : ¬(i = -1 ∧ j = -1)) : (if (getP b j).dim > (getP a i).dim then (getP b j).dim else (getP a i).dim) = (D : Int) ∧ max (getP a i).dim (getP b j).dim = (D : Int) := by
 have h0 : nod0.dim = 0 := rfl
 have key : ∀ u v : Int, (u = D ∧ v = D) ∨ (u = 0 ∧ v = D) ∨ (u = D ∧ v = 0) → (if v > u then v else u) = (D : Int) ∧ max u v = (D : Int) := fun u v h => by
  rcases h with ⟨rfl, rfl⟩ | ⟨rfl, rfl⟩ | ⟨rfl, rfl⟩
  ·exact ⟨by split <;> omega, by omega⟩
  ·exact ⟨by split <;> omega, by omega⟩
  ·exact ⟨by split <;> omega, by omega⟩
 refine key _ _ ?_
 by_cases h1 : i = -1
 ·have h2 : j ≠ -1 := fun e => h ⟨h1, e⟩
  exact .inr (.inl ⟨by rw [h1, getP_none, h0], (getP_at hb h2).2.1⟩)
 ·by_cases h2 : j = -1
  ·exact .inr (.inr ⟨(getP_at ha h1).2.1, by rw [h2, getP_none, h0]⟩)
  ·exact .inl ⟨(getP_at ha h1).2.1, (getP_at hb h2).2.1⟩
theorem at_child {x : Shp} {l : List Nod} {D : Nat} {i : Int} (h : Prw x l) (ha : At l D i) (hi : i ≠ -1) (hb : lastB x (D : Int) = false) {c : Cel} (hc : c ∈ each (getP l i)) : At l (D + 1) c.child := by
 obtain ⟨_, hd, hn⟩ := getP_at ha hi
 rcases ha with h1 | ⟨h1, h2, h3⟩
 ·exact absurd h1 hi
 ·obtain ⟨b, rfl⟩ : ∃ b : Nat, i = b := ⟨i.toNat, by omega⟩
  rw [hn] at hc
  have hbl : b < l.length := by omega
  have hk := h.k.w.child _ (List.getElem_mem hbl) (by rw [← nodAt_nat hbl, h3]; exact hb) c (by rw [← nodAt_nat hbl]; exact hc)
  refine .inr ⟨hk.1, hk.2, ?_⟩
  rw [h.k.dim b hbl (by rw [h3]; exact hb) c hc, h3]; omega
theorem at_list {x : Shp} {l : List Nod} {D t : Nat} {i : Int} (h : Prw x l) (ha : At l D i) (hb : lastB x (D : Int) = false) {c : Cel} (hc : c ∈ (getP l i).lists.getD t []) : At l (D + 1) c.child ∧ c.child ≠ -1 := by
 by_cases hi : i = -1
 ·subst hi; rw [getP_none, nod0_getD] at hc; simp at hc
 ·obtain ⟨_, _, h3, _⟩ := getP_lists h ha
  have := h3 t c hc
  exact ⟨at_child h ha hi hb this.2.2.2.2, by omega⟩
def nodeF (x : Shp) (a b : List Nod) (most : Int) (f : MSt → Int × Int → MSt × Int) (s : MSt) (p : Int × Int) : MSt × Int := match s.P.findIdx? (· == p) with
  | some j => (s, (j : Int))
  | none => if s.e ≠ 0 then (s, 0) else
   let X := getP a p.1
   let Y := getP b p.2
   let d := max X.dim Y.dim
   let r := mTiers x f d s (mKeysOf X Y (max X.lists.length Y.lists.length))
   let t := mCel x f d r.1 0 (mAll X p.1) (mAll Y p.2)
   if t.1.e ≠ 0 then (t.1, 0) else
   if addErr x most t.1.N ⟨d, r.2, t.2⟩ ≠ 0 then (⟨t.1.N, t.1.P, addErr x most t.1.N ⟨d, r.2, t.2⟩⟩, 0) else
   (⟨t.1.N ++ [⟨d, r.2, t.2⟩], t.1.P ++ [p], 0⟩, (t.1.N.length : Int))
theorem mNode_succ (x : Shp) (a b : List Nod) (most : Int) (n : Nat) : mNode x a b most (n + 1) = nodeF x a b most (mNode x a b most n) := rfl
def dimP (a b : List Nod) (q : Int × Int) : Int := max (getP a q.1).dim (getP b q.2).dim
def SubM (a b : List Nod) (D : Int) (s t : MSt) : Prop := ∀ q ∈ t.P, q ∈ s.P ∨ D ≤ dimP a b q
theorem SubM.refl (a b : List Nod) (D : Int) (s : MSt) : SubM a b D s s := fun _ h => .inl h
theorem SubM.trans (a b : List Nod) (D : Int) (s t u : MSt) (h : SubM a b D s t) (k : SubM a b D t u) : SubM a b D s u := fun q hq => (k q hq).elim (h q) .inr
theorem keys_at {x : Shp} {a b : List Nod} {D t n : Nat} {i j key : Int} {p q : Cel} (ha : Prw x a) (hb : Prw x b) (h1 : At a D i) (h2 : At b D j) (hl : lastB x (D : Int) = false) (h : (key, p, q) ∈ mKeys n ((getP a i).lists.getD t []) ((getP b j).lists.getD t [])) : At a (D + 1) p.child ∧ At b (D + 1) q.child ∧ ¬(p.child = -1 ∧ q.child = -1) := by
 have hn1 : noC.child = -1 := rfl
 rcases mKeys_mem h with ⟨hu, hv⟩ | ⟨hu, rfl⟩ | ⟨rfl, hv⟩
 ·obtain ⟨a1, a2⟩ := at_list ha h1 hl hu
  obtain ⟨a3, a4⟩ := at_list hb h2 hl hv
  exact ⟨a1, a3, fun h => a2 h.1⟩
 ·obtain ⟨a1, a2⟩ := at_list ha h1 hl hu
  exact ⟨a1, .inl hn1, fun h => a2 h.1⟩
 ·obtain ⟨a3, a4⟩ := at_list hb h2 hl hv
  exact ⟨.inl hn1, a3, fun h => a4 h.2⟩
theorem all_at1 {x : Shp} {l : List Nod} {D : Nat} {i : Int} (hl : Prw x l) (hi : At l D i) (hb : lastB x (D : Int) = false) : At l (D + 1) (mAll (getP l i) i).child ∧ ((mAll (getP l i) i).child = -1 → i = -1) := by
 by_cases h : i = -1
 ·subst h; exact ⟨.inl rfl, fun _ => rfl⟩
 ·have e2 : mAll (getP l i) i = (getP l i).all := if_neg h
  obtain ⟨hm, _, _⟩ := getP_at hi h
  have := hl.allc _ hm
  rw [e2]
  exact ⟨at_child hl hi h hb (List.mem_append_right _ (by simp)), fun h => by omega⟩
theorem node_sub {x : Shp} {a b : List Nod} {f : MSt → Int × Int → MSt × Int} {s : MSt} {D : Nat} {i j : Int} (ha : Prw x a) (hb : Prw x b) (h1 : At a D i) (h2 : At b D j) (h3 : ¬(i = -1 ∧ j = -1))
  (hs : lastB x (D : Int) = false → ∀ s q, s.e = 0 → At a (D + 1) q.1 → At b (D + 1) q.2 → ¬(q.1 = -1 ∧ q.2 = -1) → SubM a b (D + 1) s (f s q).1) (T : Nat) :
  SubM a b (D + 1) s (mCel x f D (mTiers x f D s (mKeysOf (getP a i) (getP b j) T)).1 0 (mAll (getP a i) i) (mAll (getP b j) j)).1 := by
 refine SubM.trans _ _ _ _ _ _ (mTiers_rel (SubM.refl a b (D + 1)) (SubM.trans a b (D + 1)) (fun s e q h => .inl h) _ s fun hl s he t ht key p q hm => ?_) (mCel_rel (SubM.refl a b (D + 1)) (fun s e q h => .inl h) fun hl he => ?_)
 ·unfold mKeysOf at ht
  obtain ⟨k, _, rfl⟩ := List.mem_map.1 ht
  obtain ⟨a1, a2, a3⟩ := keys_at ha hb h1 h2 hl hm
  exact hs hl s _ he a1 a2 a3
 ·obtain ⟨a1, a2⟩ := all_at1 ha h1 hl
  obtain ⟨a3, a4⟩ := all_at1 hb h2 hl
  exact hs hl _ _ he a1 a3 fun h => h3 ⟨a2 h.1, a4 h.2⟩
theorem nodeF_sub {x : Shp} {a b : List Nod} {most : Int} {f : MSt → Int × Int → MSt × Int} {s : MSt} {D : Nat} {i j : Int} (ha : Prw x a) (hb : Prw x b) (h1 : At a D i) (h2 : At b D j) (h3 : ¬(i = -1 ∧ j = -1))
  (hs : lastB x (D : Int) = false → ∀ s q, s.e = 0 → At a (D + 1) q.1 → At b (D + 1) q.2 → ¬(q.1 = -1 ∧ q.2 = -1) → SubM a b (D + 1) s (f s q).1) : SubM a b D s (nodeF x a b most f s (i, j)).1 := by
 have hd : dimP a b (i, j) = D := (at_max h1 h2 h3).2
 have h := node_sub (s := s) ha hb h1 h2 h3 hs (max (getP a i).lists.length (getP b j).lists.length)
 have h' : SubM a b D s _ := fun q hq => (h q hq).imp id fun h => by omega
 unfold nodeF
 split
 ·exact SubM.refl _ _ _ _
 ·split
  ·exact SubM.refl _ _ _ _
  ·simp only [(at_max h1 h2 h3).2]
   split
   ·exact h'
   ·split
    ·exact h'
    ·intro q hq
     rcases List.mem_append.1 hq with hq | hq
     ·exact h' q hq
     ·rw [List.mem_singleton.1 hq, hd]; exact .inr (Int.le_refl _)
def nodeT (x : Shp) (most : Int) (D : Nat) (p : Int × Int) (t : MSt × Cel) (ls : List (List Cel)) : MSt × Int :=
 if t.1.e ≠ 0 then (t.1, 0) else
 if addErr x most t.1.N ⟨D, ls, t.2⟩ ≠ 0 then (⟨t.1.N, t.1.P, addErr x most t.1.N ⟨D, ls, t.2⟩⟩, 0) else
 (⟨t.1.N ++ [⟨D, ls, t.2⟩], t.1.P ++ [p], 0⟩, (t.1.N.length : Int))
theorem half_all (n : Nod) (i : Int) : halfOf n.all (i != -1) = mAll n i := by
 unfold halfOf mAll
 by_cases h : i = -1
 ·simp [h]
 ·simp [h]
structure NodI (mg oid tk mid i3 i7 i8 i9 i10 : Nat) (i j : Int) (t1 t2 : Tok) (X Y : Nod) (D : Nat) (ts : List (Tok × List Cel)) (H S : AHeap) : Prop where
 ext : ExtM [mg, oid, tk, mid] H S
 g3 : S.get i3 = some (.cells [.i i, .i j] 125)
 g7 : S.get i7 = some (.cells (eNod t1 X) 45)
 g8 : S.get i8 = some (.cells (eNod t2 Y) 45)
 g9 : S.get i9 = some (.cells (eNodT (.own i10) D ts cel0) 45)
 gt : S.get i10 = some (.tok ts.length 83 1)
theorem NodI.mono {mg oid tk mid i3 i7 i8 i9 i10 : Nat} {i j : Int} {t1 t2 : Tok} {X Y : Nod} {D : Nat} {ts : List (Tok × List Cel)} {H S S' : AHeap} (h : NodI mg oid tk mid i3 i7 i8 i9 i10 i j t1 t2 X Y D ts H S) (hx : ExtM [mg, oid, tk, mid] S S') (hn : ∀ k ∈ [i3, i7, i8, i9, i10], k ∉ [mg, oid, tk, mid]) : NodI mg oid tk mid i3 i7 i8 i9 i10 i j t1 t2 X Y D ts H S' :=
 ⟨h.ext.trans hx, hx.get _ _ (hn _ (by simp)) h.g3, hx.get _ _ (hn _ (by simp)) h.g7, hx.get _ _ (hn _ (by simp)) h.g8, hx.get _ _ (hn _ (by simp)) h.g9, hx.get _ _ (hn _ (by simp)) h.gt⟩
theorem mTiers_step {x : Shp} {f : MSt → Int × Int → MSt × Int} {d : Int} {KS : List (List (Int × Cel × Cel))} {k : Nat} (hk : k < KS.length) {s s' : MSt} {done : List (List Cel)}
  (h1 : (mTiers x f d s KS).1 = (mTiers x f d s' (KS.drop k)).1) (h2 : (mTiers x f d s KS).1.e = 0 → (mTiers x f d s KS).2 = done ++ (mTiers x f d s' (KS.drop k)).2) {l : List Cel} (hl : (mList x f d s' KS[k]).1.e = 0 → l = (mList x f d s' KS[k]).2) :
  (mTiers x f d s KS).1 = (mTiers x f d (mList x f d s' KS[k]).1 (KS.drop (k + 1))).1 ∧ ((mTiers x f d s KS).1.e = 0 → (mTiers x f d s KS).2 = (done ++ [l]) ++ (mTiers x f d (mList x f d s' KS[k]).1 (KS.drop (k + 1))).2) := by
 rw [List.drop_eq_getElem_cons hk] at h1 h2
 refine ⟨h1, fun h => ?_⟩
 have hz : (mList x f d s' KS[k]).1.e = 0 := by
  refine Classical.byContradiction fun h3 => h3 ?_
  have := mTiers_err (x := x) (f := f) (d := d) (r := KS.drop (k + 1)) h3
  rw [h1] at h
  rw [← this]; exact h
 rw [h2 h, hl hz, List.append_assoc]; rfl
theorem Mrg.add {base mg aid bid oid tk mid : Nat} {x : Shp} {tok : Tok} {a b : List Nod} {most : Int} {s : MSt} {G G' : AHeap} {n : Nod} {p : Int × Int} {M : List ((Int × Int) × Int)} (h : Mrg base mg aid bid oid tk mid x tok a b most s G) (he : s.e = 0) (hx : Ext2 oid tk G G') (hO : ArO G' oid tk x tok (s.N ++ [n]) most)
  (hMp : G.get mid = some (.map (.row [.int .i64, .int .i64]) (eMap k2 AV.i M) false)) (hq : ∀ p, aGet p M = (s.P.findIdx? (· == p)).map fun j : Nat => (j : Int)) (hf : s.P.findIdx? (· == p) = none) (ea : addErr x most s.N n = 0) (hs : smallN n) (hd : n.dim = max (getP a p.1).dim (getP b p.2).dim) :
  Mrg base mg aid bid oid tk mid x tok a b most ⟨s.N ++ [n], s.P ++ [p], 0⟩ (G'.set mid (.map (.row [.int .i64, .int .i64]) (eMap k2 AV.i (aSet p (s.N.length : Int) M)) false)) := by
 have h0 := h.o
 have n1 : mg ≠ oid := fun e => by have := h.out.cell; rw [← e, h0] at this; simp [eArN] at this
 have n2 : mg ≠ tk := fun e => by have := h.out.row; rw [← e, h0] at this; cases this
 have n3 : mg ≠ mid := fun e => by rw [e, hMp] at h0; cases h0
 have n4 : mid ≠ oid := fun e => by have := h.out.cell; rw [← e, hMp] at this; cases this
 have n5 : mid ≠ tk := fun e => by have := h.out.row; rw [← e, hMp] at this; cases this
 have l1 := h.l1
 have l2 := h.l2
 have l4 := h.l4
 have l5 := h.l5
 have l6 := h.l6
 have hN : (s.N.length : Int) < most := by
  unfold addErr at ea
  split at ea
  ·omega
  ·split at ea
   ·omega
   ·split at ea <;> omega
 have lm := AHeap.lt (hx.get _ _ n4 n5 hMp)
 refine ⟨?_, ?_, ?_, ⟨hO.ne, ?_, ?_⟩, ⟨_, AHeap.get_set_self lm, fun q => ?_⟩, l1, l2, h.l3, l4, l5, l6, ⟨?_, ?_, ?_, ?_⟩⟩
 ·rw [AHeap.get_set_ne n3, hx.get _ _ n1 n2 h0, he]
 ·obtain ⟨t, nt, m, e⟩ := h.aa
  exact ⟨t, nt, m, by rw [AHeap.get_set_ne (by omega)]; exact hx.get _ _ (by omega) (by omega) e⟩
 ·obtain ⟨t, nt, m, e⟩ := h.ab
  exact ⟨t, nt, m, by rw [AHeap.get_set_ne (by omega)]; exact hx.get _ _ (by omega) (by omega) e⟩
 ·rw [AHeap.get_set_ne n4.symm]; exact hO.cell
 ·rw [AHeap.get_set_ne n5.symm]; exact hO.row
 ·rw [aGet_set, findIdx_snoc hf]
  by_cases e : q = p
  ·rw [if_pos e, if_pos e, h.ok.len]; rfl
  ·rw [if_neg e, if_neg e]; exact hq q
 ·simp [h.ok.len]
 ·simp only [List.length_append, List.length_cons, List.length_nil]; omega
 ·intro m hm
  rcases List.mem_append.1 hm with hm | hm
  ·exact h.ok.small m hm
  ·rw [List.mem_singleton.1 hm]; exact hs
 ·intro j m q hj hp
  have hl := h.ok.len
  by_cases hjl : j < s.N.length
  ·have e1 : (s.N ++ [n])[j]? = s.N[j]? := List.getElem?_append_left hjl
   have e2 : (s.P ++ [p])[j]? = s.P[j]? := List.getElem?_append_left (by omega)
   exact h.ok.dim j m q (e1.symm.trans hj) (e2.symm.trans hp)
  ·have hjl2 : j < (s.N ++ [n]).length := (List.getElem?_eq_some_iff.1 hj).1
   simp only [List.length_append, List.length_cons, List.length_nil] at hjl2
   obtain rfl : j = s.N.length := by omega
   have e1 : (s.N ++ [n])[s.N.length]? = some n := by simp
   have e2 : (s.P ++ [p])[s.N.length]? = some p := by rw [← hl]; simp
   have h1 : some n = some m := e1.symm.trans hj
   have h2 : some p = some q := e2.symm.trans hp
   injection h1 with h1
   injection h2 with h2
   rw [← h1, ← h2]; exact hd
set_option maxHeartbeats 4000000 in
theorem pnode_step {base mg aid bid oid tk mid : Nat} {x : Shp} {tok : Tok} {a b : List Nod} {most : Int} {f : MSt → Int × Int → MSt × Int} {s : MSt} {D : Nat} (i j : Int) (ha : Prw x a) (hb : Prw x b) (hm : most ≤ 131072) (hD : D < x.sizes.length) (h1 : At a D i) (h2 : At b D j) (h3 : ¬(i = -1 ∧ j = -1))
  (hf : lastB x (D : Int) = false → ∀ s q, s.e = 0 → At a (D + 1) q.1 → At b (D + 1) q.2 → ¬(q.1 = -1 ∧ q.2 = -1) → NodK base mg aid bid oid tk mid x tok a b most f s q)
  (hs : lastB x (D : Int) = false → ∀ s q, s.e = 0 → At a (D + 1) q.1 → At b (D + 1) q.2 → ¬(q.1 = -1 ∧ q.2 = -1) → SubM a b (D + 1) s (f s q).1) : NodK base mg aid bid oid tk mid x tok a b most (nodeF x a b most f) s (i, j) := by
 intro H hM
 obtain ⟨M, hMp, hq⟩ := hM.mp
 have h0 := hM.o
 have hfd := mFind_map (vf := AV.i) k2_eq (i, j) M
 have hqp := hq (i, j)
 have l0 := AHeap.lt h0
 have l1 := AHeap.lt hMp
 cases e : s.P.findIdx? (· == (i, j)) with
 | some k =>
  have hR : nodeF x a b most f s (i, j) = (s, (k : Int)) := by unfold nodeF; rw [e]
  rw [hR]
  rw [e, Option.map_some] at hqp
  rw [hqp] at hfd
  refine fn_soundQ hE cf71 (Nat.le_of_ble_eq_true rfl) fun Q hQr hQn => ?_
  ((have hd := trivial; repeat' (first | ((first | apply GdK_st | apply GdK_sf | apply CondK_s) <;> intro hd <;> (try simp only [hd])) | simp (disch := first | assumption | omega | (simp only [nx] <;> omega) | fail) only [hd, hQr, hQn, c71_0, ↓YA, YB, YC, YE, YF, YZ, ↓reduceIte, Nat.reduceEqDiff, Nat.reduceAdd, Nat.reduceMul, Nat.reduceLeDiff, Int.reduceToNat, Int.reduceLE, Int.reduceLT, Int.reduceGT, Int.reduceGE, Int.reduceAdd, Int.reduceSub, Int.reduceNeg, Int.reduceBEq, Int.reduceBNe, h0, hMp, k2_of, hfd, Option.map_some])) <;> (try (have hd_ : True := hd; clear hd_ hd)))
  exact fin_keep ⟨.of (by exact AXT), hM.ext (by exact AXT), k, rfl, fun _ => rfl⟩
 | none =>
  rw [e, Option.map_none] at hqp
  rw [hqp] at hfd
  by_cases he : s.e = 0
  ·obtain ⟨hmx, hmx2⟩ := at_max h1 h2 h3
   obtain ⟨p1, p2, p3⟩ := ha.k.w.bounds
   refine fn_soundQ hE cf71 (Nat.le_of_ble_eq_true rfl) fun Q hQr hQn => ?_
   ((have hd := trivial; repeat' (first | ((first | apply GdK_st | apply GdK_sf | apply CondK_s) <;> intro hd <;> (try simp only [hd])) | simp (disch := first | assumption | omega | (simp only [nx] <;> omega) | fail) only [hd, hQr, hQn, c71_0, ↓YA, YB, YC, YE, YF, YZ, ↓reduceIte, Nat.reduceEqDiff, Nat.reduceAdd, Nat.reduceMul, Nat.reduceLeDiff, Int.reduceToNat, Int.reduceLE, Int.reduceLT, Int.reduceGT, Int.reduceGE, Int.reduceAdd, Int.reduceSub, Int.reduceNeg, Int.reduceBEq, Int.reduceBNe, h0, hMp, k2_of, hfd, he, Option.map_none])) <;> (try (have hd_ : True := hd; clear hd_ hd)))
   have hx0 : AHeap.Ext H (H.alloc (.cells [.i i, .i j] 125)) := by exact AXT
   have g3 : (H.alloc (.cells [.i i, .i j] 125)).get H.next = some (.cells [.i i, .i j] 125) := AHeap.get_alloc_self
   refine CallK.use (pget_sound ((hM.ext hx0).aa) ha.k.w i) ?_
   rintro r G1 ⟨hx1, t1, rfl⟩
   have hM1 := (hM.ext hx0).ext hx1
   have h01 := hM1.o
   have g31 := hx1.get _ _ g3
   ((have hd := trivial; repeat' (first | ((first | apply GdK_st | apply GdK_sf | apply CondK_s) <;> intro hd <;> (try simp only [hd])) | simp (disch := first | assumption | omega | (simp only [nx] <;> omega) | fail) only [hd, hQr, hQn, c71_0, ↓YA, YB, YC, YE, YF, YZ, ↓reduceIte, Nat.reduceEqDiff, Nat.reduceAdd, Nat.reduceMul, Nat.reduceLeDiff, Int.reduceToNat, Int.reduceLE, Int.reduceLT, Int.reduceGT, Int.reduceGE, Int.reduceAdd, Int.reduceSub, Int.reduceNeg, Int.reduceBEq, Int.reduceBNe, h01, g31])) <;> (try (have hd_ : True := hd; clear hd_ hd)))
   refine CallK.use (pget_sound hM1.ab hb.k.w j) ?_
   rintro r G2 ⟨hx2, t2, rfl⟩
   have hM2 := hM1.ext hx2
   have h02 := hM2.o
   have g32 := hx2.get _ _ g31
   have e14 : ∀ t n, (eNod t n).length = 14 := fun _ _ => rfl
   have e15 : ∀ t n, (eNod t n).take 14 = eNod t n := fun _ _ => rfl
   have e0 : ∀ t n, (eNod t n)[0]? = some (.i n.dim) := fun _ _ => rfl
   have l2 := AHeap.lt h02
   have l3 := AHeap.lt g32
   have ed : ∀ t n, (eNod t n).drop 14 = [] := fun _ _ => rfl
   generalize hX : getP a i = X at *
   generalize hY : getP b j = Y at *
   ((have hd := trivial; repeat' (first | ((first | apply GdK_st | apply GdK_sf | apply CondK_s) <;> intro hd <;> (try simp only [hd])) | simp (disch := first | assumption | omega | (simp only [nx] <;> omega) | fail) only [hd, hQr, hQn, c71_0, ↓YA, YB, YC, YE, YF, YZ, ↓reduceIte, Nat.reduceEqDiff, Nat.reduceAdd, Nat.reduceMul, Nat.reduceLeDiff, Int.reduceToNat, Int.reduceLE, Int.reduceLT, Int.reduceGT, Int.reduceGE, Int.reduceAdd, Int.reduceSub, Int.reduceNeg, Int.reduceBEq, Int.reduceBNe, h02, g32, e14, e15, e0, ed, hmx])) <;> (try (have hd_ : True := hd; clear hd_ hd)))
   obtain ⟨b1, b2, b3, b4⟩ := getP_lists ha h1
   obtain ⟨c1, c2, c3, c4⟩ := getP_lists hb h2
   rw [hX] at b1 b2 b3 b4
   rw [hY] at c1 c2 c3 c4
   have hxz : AHeap.Ext G2 (((((G2.alloc (.cells [.i 0, .sl .full [], .i 0, .i 0, .i 0, .i 0, .i 0, .i 0, .i 0, .i 0, .i 0, .i 0, .i 0, .i 0] 45)).alloc (.cells [.i 0, .sl .full [], .i 0, .i 0, .i 0, .i 0, .i 0, .i 0, .i 0, .i 0, .i 0, .i 0, .i 0, .i 0] 45)).set G2.next (.cells (eNod t1 X) 45)).set (G2.next + 1) (.cells (eNod t2 Y) 45)).alloc (.cells [.i D, .sl .full [], .i 0, .i 0, .i 0, .i 0, .i 0, .i 0, .i 0, .i 0, .i 0, .i 0, .i 0, .i 0] 45)) := by exact AXT
   have g7 : (((((G2.alloc (.cells [.i 0, .sl .full [], .i 0, .i 0, .i 0, .i 0, .i 0, .i 0, .i 0, .i 0, .i 0, .i 0, .i 0, .i 0] 45)).alloc (.cells [.i 0, .sl .full [], .i 0, .i 0, .i 0, .i 0, .i 0, .i 0, .i 0, .i 0, .i 0, .i 0, .i 0, .i 0] 45)).set G2.next (.cells (eNod t1 X) 45)).set (G2.next + 1) (.cells (eNod t2 Y) 45)).alloc (.cells [.i D, .sl .full [], .i 0, .i 0, .i 0, .i 0, .i 0, .i 0, .i 0, .i 0, .i 0, .i 0, .i 0, .i 0] 45)).get G2.next = some (.cells (eNod t1 X) 45) := by
    rw [AHeap.get_alloc_ne (by simp only [nx]; omega), AHeap.get_set_ne (by omega), AHeap.get_set_self (by simp only [nx]; omega)]
   have g8 : (((((G2.alloc (.cells [.i 0, .sl .full [], .i 0, .i 0, .i 0, .i 0, .i 0, .i 0, .i 0, .i 0, .i 0, .i 0, .i 0, .i 0] 45)).alloc (.cells [.i 0, .sl .full [], .i 0, .i 0, .i 0, .i 0, .i 0, .i 0, .i 0, .i 0, .i 0, .i 0, .i 0, .i 0] 45)).set G2.next (.cells (eNod t1 X) 45)).set (G2.next + 1) (.cells (eNod t2 Y) 45)).alloc (.cells [.i D, .sl .full [], .i 0, .i 0, .i 0, .i 0, .i 0, .i 0, .i 0, .i 0, .i 0, .i 0, .i 0, .i 0] 45)).get (G2.next + 1) = some (.cells (eNod t2 Y) 45) := by
    rw [AHeap.get_alloc_ne (by simp only [nx]; omega), AHeap.get_set_self (by simp only [nx]; omega)]
   have g9 : (((((G2.alloc (.cells [.i 0, .sl .full [], .i 0, .i 0, .i 0, .i 0, .i 0, .i 0, .i 0, .i 0, .i 0, .i 0, .i 0, .i 0] 45)).alloc (.cells [.i 0, .sl .full [], .i 0, .i 0, .i 0, .i 0, .i 0, .i 0, .i 0, .i 0, .i 0, .i 0, .i 0, .i 0] 45)).set G2.next (.cells (eNod t1 X) 45)).set (G2.next + 1) (.cells (eNod t2 Y) 45)).alloc (.cells [.i D, .sl .full [], .i 0, .i 0, .i 0, .i 0, .i 0, .i 0, .i 0, .i 0, .i 0, .i 0, .i 0, .i 0] 45)).get (G2.next + 1 + 1) = some (.cells (eNodT .full D [] cel0) 45) := AHeap.get_alloc_self (H := ((((G2.alloc _).alloc _).set _ _).set _ _))
   have hM3 := hM2.ext hxz
   have g33 := hxz.get _ _ g32
   have hX3 : AHeap.Ext H _ := ((hx0.trans hx1).trans hx2).trans hxz
   have hn3 := hX3.next
   have hn2 := hx2.next
   have hn1 := hx1.next
   generalize ((((G2.alloc (.cells [.i 0, .sl .full [], .i 0, .i 0, .i 0, .i 0, .i 0, .i 0, .i 0, .i 0, .i 0, .i 0, .i 0, .i 0] 45)).alloc (.cells [.i 0, .sl .full [], .i 0, .i 0, .i 0, .i 0, .i 0, .i 0, .i 0, .i 0, .i 0, .i 0, .i 0, .i 0] 45)).set G2.next (.cells (eNod t1 X) 45)).set (G2.next + 1) (.cells (eNod t2 Y) 45)).alloc (.cells [.i D, .sl .full [], .i 0, .i 0, .i 0, .i 0, .i 0, .i 0, .i 0, .i 0, .i 0, .i 0, .i 0, .i 0] 45) = G3 at *
   obtain ⟨_, _, _, ge⟩ := hM3.out.ara.eAr
   refine CallK.use (shape_yes ge ha.k.w.may) ?_
   rintro r G4 ⟨hx4, t4, rfl⟩
   have g94 := hx4.get _ _ g9
   unfold eNodT at g94
   ((have hd := trivial; repeat' (first | ((first | apply GdK_st | apply GdK_sf | apply CondK_s) <;> intro hd <;> (try simp only [hd])) | simp (disch := first | assumption | omega | (simp only [nx] <;> omega) | fail) only [hd, hQr, hQn, c71_0, ↓YA, YB, YC, YE, YF, YZ, ↓reduceIte, Nat.reduceEqDiff, Nat.reduceAdd, Nat.reduceMul, Nat.reduceLeDiff, Int.reduceToNat, Int.reduceLE, Int.reduceLT, Int.reduceGT, Int.reduceGE, Int.reduceAdd, Int.reduceSub, Int.reduceNeg, Int.reduceBEq, Int.reduceBNe, g94])) <;> (try (have hd_ : True := hd; clear hd_ hd)))
   (refine CallK.use (last_sound t4 x (D : Int) _ (by omega)) ?_; rintro _ _ ⟨rfl, k5, rfl⟩)
   have hx5 : AHeap.Ext G3 (G4.bump k5) := by exact AXT
   have hM5 := hM3.ext hx5
   have h05 := hM5.o
   have g35 := hx5.get _ _ g33
   have g75 := hx5.get _ _ g7
   have g85 := hx5.get _ _ g8
   have g95 := hx5.get _ _ g9
   have hX5 := hX3.trans hx5
   generalize G4.bump k5 = G5 at *
   have e1 : ∀ t n, (eNod t n)[1]? = some (.sl t (rL n.lists)) := fun _ _ => rfl
   have l5 := AHeap.lt h05
   have l9 := AHeap.lt g95
   obtain ⟨T, hT⟩ : ∃ T : Nat, max X.lists.length Y.lists.length = T := ⟨_, rfl⟩
   have hT4 : T ≤ 4 := by omega
   have ifT : (if (Y.lists.length : Int) > (X.lists.length : Int) then (Y.lists.length : Int) else (X.lists.length : Int)) = (T : Int) := by split <;> omega
   ((have hd := trivial; repeat' (first | ((first | apply GdK_st | apply GdK_sf | apply CondK_s) <;> intro hd <;> (try simp only [hd])) | simp (disch := first | assumption | omega | (simp only [nx] <;> omega) | fail) only [hd, hQr, hQn, c71_0, ↓YA, YB, YC, YE, YF, YZ, ↓reduceIte, Nat.reduceEqDiff, Nat.reduceAdd, Nat.reduceMul, Nat.reduceLeDiff, Int.reduceToNat, Int.reduceLE, Int.reduceLT, Int.reduceGT, Int.reduceGE, Int.reduceAdd, Int.reduceSub, Int.reduceNeg, Int.reduceBEq, Int.reduceBNe, g75, g85, e1, List.length_map, ifT])) <;> (try (have hd_ : True := hd; clear hd_ hd)))
   have hR : nodeF x a b most f s (i, j) = nodeT x most D (i, j) (mCel x f D (mTiers x f D s (mKeysOf X Y T)).1 0 (mAll X i) (mAll Y j)) (mTiers x f D s (mKeysOf X Y T)).2 := by
    unfold nodeF nodeT
    rw [e]
    simp only [hX, hY, hmx2, hT]
    exact if_neg (by simp [he])
   rw [hR] at hQr hQn
   have hsub := node_sub (s := s) ha hb h1 h2 h3 hs T
   rw [hX, hY] at hsub
   have hKm : ∀ t ∈ mKeysOf X Y T, t.length ≤ 400 := fun t ht => by
    unfold mKeysOf at ht
    obtain ⟨k, _, rfl⟩ := List.mem_map.1 ht
    have := mKeys_len ((X.lists.getD k []).length + (Y.lists.getD k []).length) (X.lists.getD k []) (Y.lists.getD k [])
    have := b2 k
    have := c2 k
    omega
   generalize hKS : mKeysOf X Y T = KS at *
   have hKl : KS.length = T := by rw [← hKS]; simp [mKeysOf]
   have hKg : ∀ k (h : k < KS.length), KS[k] = mKeys ((X.lists.getD k []).length + (Y.lists.getD k []).length) (X.lists.getD k []) (Y.lists.getD k []) := fun k h => by
    subst hKS; simp [mKeysOf]
   generalize hbl : lastB x (D : Int) = bl at *
   obtain ⟨Mp5, hMp5, _⟩ := hM5.mp
   have lo5 := AHeap.lt hM5.out.cell
   have lt5 := AHeap.lt hM5.out.row
   have lm5 := AHeap.lt hMp5
   have lg5 := AHeap.lt h05
   have lo0 := AHeap.lt hM.out.cell
   have lt0 := AHeap.lt hM.out.row
   have hnn : ∀ k ∈ [H.next, G2.next, G2.next + 1, G2.next + 1 + 1, G5.next], k ∉ [mg, oid, tk, mid] := fun k hk => by
    simp only [List.mem_cons, List.not_mem_nil, or_false] at hk ⊢
    omega
   refine AW_forI (N := T) (fun k F S => Fr.get F 67 = .i (k : Int) ∧ Fr.get F 66 = .i (T : Int) ∧ Fr.get F 0 = .ptr mg 0 ∧ Fr.get F 3 = .ptr H.next 0 ∧ Fr.get F 7 = .ptr G2.next 0 ∧ Fr.get F 8 = .ptr (G2.next + 1) 0 ∧ Fr.get F 9 = .ptr (G2.next + 1 + 1) 0 ∧ Fr.get F 10 = .b bl ∧
    ∃ s' ts, Mrg base mg aid bid oid tk mid x tok a b most s' S ∧ NodI mg oid tk mid H.next G2.next (G2.next + 1) (G2.next + 1 + 1) G5.next i j t1 t2 X Y D ts H S ∧ ts.length = k ∧ (mTiers x f D s KS).1 = (mTiers x f D s' (KS.drop k)).1 ∧ ((mTiers x f D s KS).1.e = 0 → (mTiers x f D s KS).2 = ts.map (·.2) ++ (mTiers x f D s' (KS.drop k)).2)) (by unfold maxLen; omega) (fun k F G h => ⟨h.1, h.2.1⟩)
    ((GStep.fr (F' := [(67, .i ((0 : Nat) : Int)), (66, .i (T : Int)), (0, .ptr mg 0), (3, .ptr H.next 0), (7, .ptr G2.next 0), (8, .ptr (G2.next + 1) 0), (9, .ptr (G2.next + 1 + 1) 0), (10, .b bl)]) (by simp [Fr.get, Fr.put])).trans (GStep.tokCell (G2.next + 1 + 1) 1 45 83 1 g95 rfl)) ?_ ?_ ?_
   ·refine ⟨rfl, rfl, rfl, rfl, rfl, rfl, rfl, rfl, s, [], ?_, ?_, rfl, rfl, fun _ => rfl⟩
    ·exact (hM.set hM5 (by omega)).ext (AHeap.Ext.alloc (AHeap.Ext.refl _))
    ·have l35 := AHeap.lt g35
     refine ⟨(((ExtM.of hX5).set (.inr (by omega))).trans (ExtM.of (AHeap.Ext.alloc (AHeap.Ext.refl _)))), ?_, ?_, ?_, ?_, AHeap.get_alloc_self (H := G5.set _ _)⟩
     ·rw [AHeap.get_alloc_ne (by simp only [nx]; omega), AHeap.get_set_ne (by omega)]; exact g35
     ·rw [AHeap.get_alloc_ne (by simp only [nx]; omega), AHeap.get_set_ne (by omega)]; exact g75
     ·rw [AHeap.get_alloc_ne (by simp only [nx]; omega), AHeap.get_set_ne (by omega)]; exact g85
     ·rw [AHeap.get_alloc_ne (by simp only [nx]; omega), AHeap.get_set_self l9]; rfl
   ·rintro k F S hk ⟨f67, f66, f0, f3, f7, f8, f9, f10, s', ts, hMS, hN, hts, hr1, hr2⟩
    have hkK : k < KS.length := by omega
    have g7 := hN.g7
    have g8 := hN.g8
    have g9 := hN.g9
    have lg9 := AHeap.lt g9
    unfold eNodT at g9
    have hL : ∀ G, Mrg base mg aid bid oid tk mid x tok a b most s' G → Sound Try.prog 92 [.ptr mg 0, .b bl, .sl .no (rC (X.lists.getD k [])), .sl .no (rC (Y.lists.getD k []))] G (fun r H' => ExtM [mg, oid, tk, mid] G H' ∧ Mrg base mg aid bid oid tk mid x tok a b most (mList x f D s' KS[k]).1 H' ∧ ∃ l to, r = .sl to (rC l) ∧ ((mList x f D s' KS[k]).1.e = 0 → l = (mList x f D s' KS[k]).2)) := fun G hG => by
     rw [hKg k hkK, ← hbl]
     refine plist_sound hG (by have := b2 k; omega) (by have := c2 k; omega) (fun c hc => ?_) (fun hlb s2 u v hs2 huv => ?_)
     ·rcases hc with hc | hc
      ·have := b3 k c hc; exact ⟨this.1, this.2.1, this.2.2.1⟩
      ·have := c3 k c hc; exact ⟨this.1, this.2.1, this.2.2.1⟩
     ·rw [hbl] at hlb
      have hn1 : noC.child = -1 := rfl
      rw [← hX, ← hY] at huv
      rcases huv with ⟨hu, hv⟩ | ⟨hu, rfl⟩ | ⟨rfl, hv⟩
      ·obtain ⟨a1, a2⟩ := at_list ha h1 (hbl.trans hlb) hu
       obtain ⟨a3, a4⟩ := at_list hb h2 (hbl.trans hlb) hv
       exact hf hlb s2 _ hs2 a1 a3 (fun h => a2 h.1)
      ·obtain ⟨a1, a2⟩ := at_list ha h1 (hbl.trans hlb) hu
       exact hf hlb s2 _ hs2 a1 (.inl hn1) (fun h => a2 h.1)
      ·obtain ⟨a3, a4⟩ := at_list hb h2 (hbl.trans hlb) hv
       exact hf hlb s2 _ hs2 (.inl hn1) a3 (fun h => a4 h.2)
    ((have hd := trivial; repeat' (first | ((first | apply GdK_st | apply GdK_sf | apply CondK_s) <;> intro hd <;> (try simp only [hd])) | simp (disch := first | assumption | omega | (simp only [nx] <;> omega) | fail) only [hd, hQr, hQn, c71_0, ↓YA, YB, YC, YE, YF, YZ, ↓reduceIte, Nat.reduceEqDiff, Nat.reduceAdd, Nat.reduceMul, Nat.reduceLeDiff, Int.reduceToNat, Int.reduceLE, Int.reduceLT, Int.reduceGT, Int.reduceGE, Int.reduceAdd, Int.reduceSub, Int.reduceNeg, Int.reduceBEq, Int.reduceBNe, f67, f66, f0, f3, f7, f8, f9, f10, g7, g8, g9, e14, e15])) <;> (try (have hd_ : True := hd; clear hd_ hd)))
    (refine CallK.use (plists_sound t1 X k _ (by omega)) ?_; rintro _ _ ⟨rfl, k6, rfl⟩)
    ((have hd := trivial; repeat' (first | ((first | apply GdK_st | apply GdK_sf | apply CondK_s) <;> intro hd <;> (try simp only [hd])) | simp (disch := first | assumption | omega | (simp only [nx] <;> omega) | fail) only [hd, hQr, hQn, c71_0, ↓YA, YB, YC, YE, YF, YZ, ↓reduceIte, Nat.reduceEqDiff, Nat.reduceAdd, Nat.reduceMul, Nat.reduceLeDiff, Int.reduceToNat, Int.reduceLE, Int.reduceLT, Int.reduceGT, Int.reduceGE, Int.reduceAdd, Int.reduceSub, Int.reduceNeg, Int.reduceBEq, Int.reduceBNe, f67, f66, f0, f3, f7, f8, f9, f10, g7, g8, g9, e14, e15])) <;> (try (have hd_ : True := hd; clear hd_ hd)))
    (refine CallK.use (plists_sound t2 Y k _ (by omega)) ?_; rintro _ _ ⟨rfl, k7, rfl⟩)
    ((have hd := trivial; repeat' (first | ((first | apply GdK_st | apply GdK_sf | apply CondK_s) <;> intro hd <;> (try simp only [hd])) | simp (disch := first | assumption | omega | (simp only [nx] <;> omega) | fail) only [hd, hQr, hQn, c71_0, ↓YA, YB, YC, YE, YF, YZ, ↓reduceIte, Nat.reduceEqDiff, Nat.reduceAdd, Nat.reduceMul, Nat.reduceLeDiff, Int.reduceToNat, Int.reduceLE, Int.reduceLT, Int.reduceGT, Int.reduceGE, Int.reduceAdd, Int.reduceSub, Int.reduceNeg, Int.reduceBEq, Int.reduceBNe, f67, f66, f0, f3, f7, f8, f9, f10, g7, g8, g9, e14, e15])) <;> (try (have hd_ : True := hd; clear hd_ hd)))
    have hS2 : AHeap.Ext S ((S.bump k6).bump k7) := by exact AXT
    refine CallK.use (hL _ (hMS.ext hS2)) ?_
    rintro r S2 ⟨hx6, hM6, l, to, rfl, hl⟩
    have hN6 := hN.mono ((ExtM.of hS2).trans hx6) hnn
    have g96 := hN6.g9
    have gt6 := hN6.gt
    have lg6 := AHeap.lt g96
    have lt6 := AHeap.lt gt6
    unfold eNodT at g96
    have la1 : allLen 1 (rLt ts) = true := allLen_map (f := fun p : Tok × List Cel => [AV.sl p.1 (rC p.2)]) (fun _ => rfl) ts
    have la2 : allLen 1 [[AV.sl to (rC l)]] = true := rfl
    have lm1 : ts.length + 1 ≤ maxLen := by unfold maxLen; omega
    have lm2 : (ts.length + 1) * 24 ≤ 140737488355328 := by omega
    obtain ⟨q1, q2⟩ := mTiers_step hkK hr1 hr2 hl
    ((have hd := trivial; repeat' (first | ((first | apply GdK_st | apply GdK_sf | apply CondK_s) <;> intro hd <;> (try simp only [hd])) | simp (disch := first | assumption | omega | (simp only [nx] <;> omega) | fail) only [hd, hQr, hQn, c71_0, ↓YA, YB, YC, YE, YF, YZ, ↓reduceIte, Nat.reduceEqDiff, Nat.reduceAdd, Nat.reduceMul, Nat.reduceLeDiff, Int.reduceToNat, Int.reduceLE, Int.reduceLT, Int.reduceGT, Int.reduceGE, Int.reduceAdd, Int.reduceSub, Int.reduceNeg, Int.reduceBEq, Int.reduceBNe, f67, f66, f0, f3, f7, f8, f9, f10, g96, gt6, la1, la2, lm1, lm2, List.length_map])) <;> (try (have hd_ : True := hd; clear hd_ hd)))
    refine ⟨_, ts ++ [(to, l)], hM.set (hM.set hM6 (by omega)) (by omega), ⟨(hN6.ext.set (.inr (by omega))).set (.inr (by omega)), ?_, ?_, ?_, ?_, ?_⟩, by simp [hts], q1, fun h => by rw [q2 h]; simp⟩
    ·rw [AHeap.get_set_ne (by omega), AHeap.get_set_ne (by omega)]; exact hN6.g3
    ·rw [AHeap.get_set_ne (by omega), AHeap.get_set_ne (by omega)]; exact hN6.g7
    ·rw [AHeap.get_set_ne (by omega), AHeap.get_set_ne (by omega)]; exact hN6.g8
    ·rw [AHeap.get_set_self (by simp only [nx]; omega)]
     have hap : rLt (ts ++ [(to, l)]) = rLt ts ++ [[.sl to (rC l)]] := List.map_append
     unfold eNodT
     rw [hap]
    ·rw [AHeap.get_set_ne (by omega), AHeap.get_set_self (by omega), List.length_append]; rfl
   ·rintro F S ⟨f67, f66, f0, f3, f7, f8, f9, f10, s', ts, hMS, hN, hts, hr1, hr2⟩
    have hKd : KS.drop T = [] := List.drop_eq_nil_iff.2 (by omega)
    rw [hKd] at hr1 hr2
    have hr1 : (mTiers x f D s KS).1 = s' := hr1
    have hr2 : s'.e = 0 → (mTiers x f D s KS).2 = ts.map (·.2) := fun h => (hr2 (by rw [hr1]; exact h)).trans (List.append_nil _)
    rw [hr1] at hQr hsub
    have h0S := hMS.o
    have g3 := hN.g3
    have g7 := hN.g7
    have g8 := hN.g8
    have g9 := hN.g9
    have lg9 := AHeap.lt g9
    unfold eNodT at g9
    by_cases he2 : s'.e = 0
    ·have hz : ∀ t n, ((eNod t n).drop 2).take 12 = eCel n.all := fun _ _ => rfl
     have hzi : ∀ l : List Nod, ∀ i, (i != -1) = false → (getP l i).all.agg = noC.agg := fun l i h => by
      have h : i = -1 := by simpa using h
      rw [h, getP_none]; rfl
     have hAt : ∀ {l : List Nod} {i : Int}, Prw x l → At l D i → bl = false → At l (D + 1) (halfC (getP l i).all (i != -1)) ∧ (halfC (getP l i).all (i != -1) = -1 → i = -1) := fun {l i} hl hi hb => by
      by_cases h : i = -1
      ·subst h; exact ⟨.inl rfl, fun _ => rfl⟩
      ·have e1 : (i != -1) = true := by simpa using h
       have e2 : halfC (getP l i).all (i != -1) = (getP l i).all.child := by rw [e1]; rfl
       obtain ⟨hm, _, _⟩ := getP_at hi h
       have := hl.allc _ hm
       rw [e2]
       exact ⟨at_child hl hi h (hbl.trans hb) (List.mem_append_right _ (by simp)), fun h => by omega⟩
     have hC : Sound Try.prog 94 [.ptr mg 0, .b bl, .i 0, .agg (eCel X.all ++ [.b (i != -1)]), .agg (eCel Y.all ++ [.b (j != -1)])] S (fun r H' => ExtM [mg, oid, tk, mid] S H' ∧ Mrg base mg aid bid oid tk mid x tok a b most (mCel x f D s' 0 (mAll X i) (mAll Y j)).1 H' ∧ ∃ c, r = .agg (eCel c) ∧ ((mCel x f D s' 0 (mAll X i) (mAll Y j)).1.e = 0 → c = (mCel x f D s' 0 (mAll X i) (mAll Y j)).2)) := by
      have := pcell_sound (key := 0) (f := f) (d := D) (c1 := X.all) (c2 := Y.all) (b1 := i != -1) (b2 := j != -1) hMS he2 (fun hlb => ?_) b4 c4 (by rw [← hX]; exact hzi a i) (by rw [← hY]; exact hzi b j)
      ·rw [hbl, half_all, half_all] at this; exact this
      ·rw [hbl] at hlb
       obtain ⟨a1, a2⟩ := hAt ha h1 hlb
       obtain ⟨a3, a4⟩ := hAt hb h2 hlb
       rw [hX] at a1 a2
       rw [hY] at a3 a4
       exact hf hlb s' _ he2 a1 a3 (fun h => h3 ⟨a2 h.1, a4 h.2⟩)
     have z1 : ∀ c, (eCel c ++ [AV.sc (Value.bool false)]).length = 13 := fun _ => rfl
     have z2 : ∀ c, (eCel c ++ [AV.sc (Value.bool false)]).take 12 = eCel c := fun _ => rfl
     have z3 : ∀ c, (eCel c ++ [AV.sc (Value.bool false)]).drop 13 = [] := fun _ => rfl
     ((have hd := trivial; repeat' (first | ((first | apply GdK_st | apply GdK_sf | apply CondK_s) <;> intro hd <;> (try simp only [hd])) | simp (disch := first | assumption | omega | (simp only [nx] <;> omega) | fail) only [hd, hQr, hQn, c71_0, ↓YA, YB, YC, YE, YF, YZ, ↓reduceIte, Nat.reduceEqDiff, Nat.reduceAdd, Nat.reduceMul, Nat.reduceLeDiff, Int.reduceToNat, Int.reduceLE, Int.reduceLT, Int.reduceGT, Int.reduceGE, Int.reduceAdd, Int.reduceSub, Int.reduceNeg, Int.reduceBEq, Int.reduceBNe, f67, f66, f0, f3, f7, f8, f9, f10, h0S, g3, g7, g8, g9, he2, hz, z1, z2, z3, List.append_nil])) <;> (try (have hd_ : True := hd; clear hd_ hd)))
     refine CallK.use hC ?_
     rintro r S2 ⟨hx6, hM6, c, rfl, hc⟩
     have hN6 := hN.mono hx6 hnn
     have h06 := hM6.o
     have g96 := hN6.g9
     have g36 := hN6.g3
     have lg6 := AHeap.lt g96
     unfold eNodT at g96
     generalize ht : mCel x f D s' 0 (mAll X i) (mAll Y j) = t at *
     by_cases he3 : t.1.e = 0
     ·obtain ⟨n, hn⟩ : ∃ n : Nod, n = ⟨D, ts.map (·.2), c⟩ := ⟨_, rfl⟩
      have hT3 : nodeT x most D (i, j) t (mTiers x f D s KS).2 = (if addErr x most t.1.N n ≠ 0 then (⟨t.1.N, t.1.P, addErr x most t.1.N n⟩, 0) else (⟨t.1.N ++ [n], t.1.P ++ [(i, j)], 0⟩, (t.1.N.length : Int))) := by
       rw [hr2 he2, hn, hc he3]; unfold nodeT; exact if_neg (by simp [he3])
      rw [hT3] at hQr
      have hsn : smallN n := by
       have hm4 : ∀ l ∈ n.lists, l.length ≤ 400 := fun l hl => by
        rw [hn, ← hr2 he2] at hl
        exact mTiers_mem KS s hKm l hl
       have hl4 : n.lists.length = T := by rw [hn]; simp [hts]
       have := flatC_len hm4
       exact ⟨by omega, by rw [hl4] at this; omega, fun l hl => by have := hm4 l hl; omega⟩
      have hff : t.1.P.findIdx? (· == (i, j)) = none := by
       rw [List.findIdx?_eq_none_iff] at e ⊢
       intro q hq
       rcases hsub q hq with h | h
       ·exact e q h
       ·rw [beq_eq_false_iff_ne]
        rintro rfl
        have hdd : dimP a b (i, j) = D := (at_max h1 h2 h3).2
        omega
      have hlen : t.1.N.length ≤ 200000 := by have := hM6.ok.few; omega
      have yd : (eCel cel0).drop 12 = [] := rfl
      have yl : (eCel c).length = 12 := rfl
      have yt : (eCel c).take 12 = eCel c := rfl
      obtain ⟨S3, hS3⟩ : ∃ S3, S3 = S2.set (G2.next + 1 + 1) (.cells (.i D :: .sl (.own G5.next) (rLt ts) :: eCel c) 45) := ⟨_, rfl⟩
      have hM7 : Mrg base mg aid bid oid tk mid x tok a b most t.1 S3 := by rw [hS3]; exact hM.set hM6 (by omega)
      have hN7 : ExtM [mg, oid, tk, mid] H S3 := by rw [hS3]; exact hN6.ext.set (.inr (by omega))
      have g37 : S3.get H.next = some (.cells [.i i, .i j] 125) := by rw [hS3, AHeap.get_set_ne (by omega)]; exact g36
      have h07 := hM7.o
      obtain ⟨M7, hMp7, hq7⟩ := hM7.mp
      have l37 := AHeap.lt g37
      have hoid := AHeap.lt hM.out.cell
      have htk := AHeap.lt hM.out.row
      have hA : Sound Try.prog 47 [.ptr oid 0, .agg (.i D :: .sl (.own G5.next) (rLt ts) :: eCel c)] S3 (AddQ x most t.1.N n oid tk tok S3) := by
       refine Sound.wknA (add_sound .no n hM7.out ha.k.w.may hlen hsn) rfl fun k u v hu hv => ?_
       match k with
       | 0 => simp at hu hv; subst hu hv; exact .refl _
       | 1 =>
        simp only [List.getElem?_cons_zero, List.getElem?_cons_succ, Option.some.injEq] at hu hv
        subst hu hv
        rw [hn]
        exact wkn_node _ _ _ _
       | k + 2 => simp at hu
      by_cases ea : addErr x most t.1.N n = 0
      ·rw [if_neg (by simp [ea])] at hQr
       have hs7 := mSet_map (vf := AV.i) k2_eq (i, j) (t.1.N.length : Int) M7
       ((have hd := trivial; repeat' (first | ((first | apply GdK_st | apply GdK_sf | apply CondK_s) <;> intro hd <;> (try simp only [hd])) | simp (disch := first | assumption | omega | (simp only [nx] <;> omega) | fail) only [hd, hQr, hQn, c71_0, ↓YA, YB, YC, YE, YF, YZ, ↓reduceIte, Nat.reduceEqDiff, Nat.reduceAdd, Nat.reduceMul, Nat.reduceLeDiff, Int.reduceToNat, Int.reduceLE, Int.reduceLT, Int.reduceGT, Int.reduceGE, Int.reduceAdd, Int.reduceSub, Int.reduceNeg, Int.reduceBEq, Int.reduceBNe, f67, f66, f0, f3, f7, f8, f9, f10, h06, g96, he3, yd, yl, yt, List.append_nil])) <;> (try (have hd_ : True := hd; clear hd_ hd)))
       rw [← hS3]
       refine CallK.use hA ?_
       rintro r S4 (⟨ne, rfl, hx4⟩ | ⟨_, rfl, hO, hx4⟩)
       ·exact absurd ea ne
       ·have n1 : mg ≠ oid := fun e => by have := hM7.out.cell; rw [← e, h07] at this; simp [eArN] at this
        have n2 : mg ≠ tk := fun e => by have := hM7.out.row; rw [← e, h07] at this; cases this
        have n3 : mid ≠ oid := fun e => by have := hM7.out.cell; rw [← e, hMp7] at this; cases this
        have n4 : mid ≠ tk := fun e => by have := hM7.out.row; rw [← e, hMp7] at this; cases this
        have h08 := hx4.get _ _ n1 n2 h07
        have hMp8 := hx4.get _ _ n3 n4 hMp7
        have g38 := hx4.get _ _ (by omega) (by omega) g37
        ((have hd := trivial; repeat' (first | ((first | apply GdK_st | apply GdK_sf | apply CondK_s) <;> intro hd <;> (try simp only [hd])) | simp (disch := first | assumption | omega | (simp only [nx] <;> omega) | fail) only [hd, hQr, hQn, c71_0, ↓YA, YB, YC, YE, YF, YZ, ↓reduceIte, Nat.reduceEqDiff, Nat.reduceAdd, Nat.reduceMul, Nat.reduceLeDiff, Int.reduceToNat, Int.reduceLE, Int.reduceLT, Int.reduceGT, Int.reduceGE, Int.reduceAdd, Int.reduceSub, Int.reduceNeg, Int.reduceBEq, Int.reduceBNe, f67, f66, f0, f3, f7, f8, f9, f10, h08, hMp8, g38, k2_of, hs7])) <;> (try (have hd_ : True := hd; clear hd_ hd)))
        have hd : n.dim = max (getP a i).dim (getP b j).dim := by rw [hn, (at_max h1 h2 h3).2]
        exact fin_keep ⟨⟨Nat.le_trans hN7.next hx4.next, fun k o hk h => by
         simp only [List.mem_cons, List.not_mem_nil, or_false, not_or] at hk
         rw [AHeap.get_set_ne hk.2.2.2]
         exact hx4.get _ _ hk.2.1 hk.2.2.1 (hN7.get _ _ (by simp only [List.mem_cons, List.not_mem_nil, or_false, not_or]; exact hk) h)⟩, hM7.add he3 hx4 hO hMp7 hq7 hff ea hsn hd, _, rfl, fun _ => rfl⟩
      ·rw [if_pos ea] at hQr
       have d2 : (addErr x most t.1.N n != 0) = true := by simpa using ea
       ((have hd := trivial; repeat' (first | ((first | apply GdK_st | apply GdK_sf | apply CondK_s) <;> intro hd <;> (try simp only [hd])) | simp (disch := first | assumption | omega | (simp only [nx] <;> omega) | fail) only [hd, hQr, hQn, c71_0, ↓YA, YB, YC, YE, YF, YZ, ↓reduceIte, Nat.reduceEqDiff, Nat.reduceAdd, Nat.reduceMul, Nat.reduceLeDiff, Int.reduceToNat, Int.reduceLE, Int.reduceLT, Int.reduceGT, Int.reduceGE, Int.reduceAdd, Int.reduceSub, Int.reduceNeg, Int.reduceBEq, Int.reduceBNe, f67, f66, f0, f3, f7, f8, f9, f10, h06, g96, he3, yd, yl, yt, List.append_nil])) <;> (try (have hd_ : True := hd; clear hd_ hd)))
       rw [← hS3]
       refine CallK.use hA ?_
       rintro r S4 (⟨_, rfl, hx4⟩ | ⟨ez, rfl, hO, hx4⟩)
       ·have h08 := hx4.get _ _ h07
        have hM8 := hM7.ext hx4
        ((have hd := trivial; repeat' (first | ((first | apply GdK_st | apply GdK_sf | apply CondK_s) <;> intro hd <;> (try simp only [hd])) | simp (disch := first | assumption | omega | (simp only [nx] <;> omega) | fail) only [hd, hQr, hQn, c71_0, ↓YA, YB, YC, YE, YF, YZ, ↓reduceIte, Nat.reduceEqDiff, Nat.reduceAdd, Nat.reduceMul, Nat.reduceLeDiff, Int.reduceToNat, Int.reduceLE, Int.reduceLT, Int.reduceGT, Int.reduceGE, Int.reduceAdd, Int.reduceSub, Int.reduceNeg, Int.reduceBEq, Int.reduceBNe, f67, f66, f0, f3, f7, f8, f9, f10, h08, d2])) <;> (try (have hd_ : True := hd; clear hd_ hd)))
        exact fin_keep ⟨(hN7.trans (ExtM.of hx4)).set (.inl (by simp)), hM8.err _, 0, rfl, fun h => absurd h ea⟩
       ·exact absurd ez ea
     ·have d2 : (t.1.e != 0) = true := by simpa using he3
      have hT2 : ∀ ls, nodeT x most D (i, j) t ls = (t.1, 0) := fun ls => if_pos he3
      rw [hT2] at hQr
      ((have hd := trivial; repeat' (first | ((first | apply GdK_st | apply GdK_sf | apply CondK_s) <;> intro hd <;> (try simp only [hd])) | simp (disch := first | assumption | omega | (simp only [nx] <;> omega) | fail) only [hd, hQr, hQn, c71_0, ↓YA, YB, YC, YE, YF, YZ, ↓reduceIte, Nat.reduceEqDiff, Nat.reduceAdd, Nat.reduceMul, Nat.reduceLeDiff, Int.reduceToNat, Int.reduceLE, Int.reduceLT, Int.reduceGT, Int.reduceGE, Int.reduceAdd, Int.reduceSub, Int.reduceNeg, Int.reduceBEq, Int.reduceBNe, f67, f66, f0, f3, f7, f8, f9, f10, h06, g96, d2])) <;> (try (have hd_ : True := hd; clear hd_ hd)))
      exact fin_keep ⟨hN6.ext.set (.inr (by omega)), hM.set hM6 (by omega), 0, rfl, fun _ => rfl⟩
    ·have d1 : (s'.e == 0) = false := by simpa using he2
     have d2 : (s'.e != 0) = true := by simpa using he2
     have hT2 : ∀ c d ls, nodeT x most D (i, j) (mCel x f D s' 0 c d) ls = (s', 0) := fun c d ls => by rw [mCel_err he2]; exact if_pos he2
     rw [hT2] at hQr
     ((have hd := trivial; repeat' (first | ((first | apply GdK_st | apply GdK_sf | apply CondK_s) <;> intro hd <;> (try simp only [hd])) | simp (disch := first | assumption | omega | (simp only [nx] <;> omega) | fail) only [hd, hQr, hQn, c71_0, ↓YA, YB, YC, YE, YF, YZ, ↓reduceIte, Nat.reduceEqDiff, Nat.reduceAdd, Nat.reduceMul, Nat.reduceLeDiff, Int.reduceToNat, Int.reduceLE, Int.reduceLT, Int.reduceGT, Int.reduceGE, Int.reduceAdd, Int.reduceSub, Int.reduceNeg, Int.reduceBEq, Int.reduceBNe, f67, f66, f0, f3, f7, f8, f9, f10, h0S, g3, g7, g8, g9, d1, d2])) <;> (try (have hd_ : True := hd; clear hd_ hd)))
     exact fin_keep ⟨hN.ext, hMS, 0, rfl, fun _ => rfl⟩
  ·have d1 : (s.e != 0) = true := by simpa using he
   have hR : nodeF x a b most f s (i, j) = (s, 0) := by unfold nodeF; rw [e]; exact if_pos he
   rw [hR]
   refine fn_soundQ hE cf71 (Nat.le_of_ble_eq_true rfl) fun Q hQr hQn => ?_
   ((have hd := trivial; repeat' (first | ((first | apply GdK_st | apply GdK_sf | apply CondK_s) <;> intro hd <;> (try simp only [hd])) | simp (disch := first | assumption | omega | (simp only [nx] <;> omega) | fail) only [hd, hQr, hQn, c71_0, ↓YA, YB, YC, YE, YF, YZ, ↓reduceIte, Nat.reduceEqDiff, Nat.reduceAdd, Nat.reduceMul, Nat.reduceLeDiff, Int.reduceToNat, Int.reduceLE, Int.reduceLT, Int.reduceGT, Int.reduceGE, Int.reduceAdd, Int.reduceSub, Int.reduceNeg, Int.reduceBEq, Int.reduceBNe, h0, hMp, k2_of, hfd, d1, Option.map_none])) <;> (try (have hd_ : True := hd; clear hd_ hd)))
   exact fin_keep ⟨.of (by exact AXT), hM.ext (by exact AXT), 0, rfl, fun _ => rfl⟩
theorem pnode_sound {base mg aid bid oid tk mid : Nat} {x : Shp} {tok : Tok} {a b : List Nod} {most : Int} (ha : Prw x a) (hb : Prw x b) (hm : most ≤ 131072) :
  ∀ (n D : Nat) (s : MSt) (p : Int × Int), D + n + 1 = x.sizes.length → At a D p.1 → At b D p.2 → ¬(p.1 = -1 ∧ p.2 = -1) → NodK base mg aid bid oid tk mid x tok a b most (mNode x a b most (n + 1)) s p ∧ SubM a b D s (mNode x a b most (n + 1) s p).1
 | 0, D, s, (i, j), hD, h1, h2, h3 => by
  have hl : lastB x (D : Int) = true := by unfold lastB; simp; omega
  rw [mNode_succ]
  exact ⟨pnode_step i j ha hb hm (by omega) h1 h2 h3 (fun h => by rw [hl] at h; cases h) (fun h => by rw [hl] at h; cases h), nodeF_sub ha hb h1 h2 h3 (fun h => by rw [hl] at h; cases h)⟩
 | n + 1, D, s, (i, j), hD, h1, h2, h3 => by
  have ih := pnode_sound (base := base) (mg := mg) (aid := aid) (bid := bid) (oid := oid) (tk := tk) (mid := mid) (tok := tok) ha hb hm n (D + 1)
  rw [mNode_succ]
  exact ⟨pnode_step i j ha hb hm (by omega) h1 h2 h3 (fun _ s q _ q1 q2 q3 => (ih s q (by omega) q1 q2 q3).1) (fun _ s q _ q1 q2 q3 => (ih s q (by omega) q1 q2 q3).2), nodeF_sub ha hb h1 h2 h3 (fun _ s q _ q1 q2 q3 => (ih s q (by omega) q1 q2 q3).2)⟩
theorem Sound.gstep {P : Program} {f : FuncId} {args : List AV} {H H1 : AHeap} {R : AV → AHeap → Prop} (hg : GStep [] H [] H1) (h : Sound P f args H1 R) : Sound P f args H R :=
 ⟨h.1, fun g w vs hW hV => by
  obtain ⟨g1, _, hW1, hS⟩ := hg 0 g w ⟨#[], []⟩ ⟨rfl, rfl, fun t => .any _⟩ hW
  exact (h.2 g1 w vs hW1 (hV.mono hS.le)).mono fun e w' ⟨v, r, H', g', h1, h2, h3, h4, h5⟩ => ⟨v, r, H', g', h1, h2, h3, h4, hS.trans h5⟩⟩
def mTop (x : Shp) (a b : List Nod) (most : Int) : MSt := if a = [] ∧ b = [] then ⟨[], [], 0⟩ else (mNode x a b most x.sizes.length ⟨[], [], 0⟩ ((a.length : Int) - 1, (b.length : Int) - 1)).1
def MergeQ (x : Shp) (a b : List Nod) (most : Int) (H : AHeap) (r : AV) (H' : AHeap) : Prop :=
 AHeap.Ext H H' ∧ if wholeB x a = true ∧ wholeB x b = true ∧ 0 ≤ most ∧ most ≤ 131072 then (if (mTop x a b most).e ≠ 0 then r = .tup [.sc (.pointer none), .i (mTop x a b most).e] else ∃ id, r = .tup [.ptr id 0, .i 0] ∧ ArA H' id x (mTop x a b most).N ∧ MOk a b most (mTop x a b most)) else r = .tup [.sc (.pointer none), .i 2]
theorem top_at {x : Shp} {l : List Nod} (h : wholeB x l = true) : At l 0 ((l.length : Int) - 1) := by
 unfold wholeB at h
 by_cases e : l.length = 0
 ·exact .inl (by omega)
 ·rw [if_neg e, Bool.and_eq_true] at h
  exact .inr ⟨by omega, by omega, by simpa using h.1⟩
theorem merge_call {H HD : AHeap} {aid bid oid mg mid : Nat} {x : Shp} {tok : Tok} {a b : List Nod} {most : Int} (ga : ArA H aid x a) (gb : ArA H bid x b) (ha : Prw x a) (hb : Prw x b) (ha1 : wholeB x a = true) (hb1 : wholeB x b = true) (hm : 0 ≤ most ∧ most ≤ 131072) (hxE : AHeap.Ext H HD)
  (go : HD.get oid = some (.cells (eAr x tok (.sl .full []) most) 75)) (gm : HD.get mg = some (.cells [.ptr aid 0, .ptr bid 0, .ptr oid 0, .mp mid, .i 0] 123)) (gd : HD.get mid = some (.map (.row [.int .i64, .int .i64]) [] false)) (l1 : H.next ≤ oid) (l2 : H.next ≤ mg) (l3 : H.next ≤ mid) (hne : ¬(a = [] ∧ b = [])) :
  Sound Try.prog 71 [.ptr mg 0, .agg [.i ((a.length : Int) - 1), .i ((b.length : Int) - 1)]] HD (fun r G => AHeap.Ext H G ∧ ∃ tk, Mrg H.next mg aid bid oid tk mid x tok a b most (mTop x a b most) G) := by
 have n1 : oid ≠ mg := fun e => by rw [e, gm] at go; simp [eAr] at go
 have n2 : oid ≠ mid := fun e => by rw [e, gd] at go; cases go
 have lo2 := AHeap.lt go
 have lm2 := AHeap.lt gm
 have ld2 := AHeap.lt gd
 have p1 := ha.k.w.bounds.1
 obtain ⟨_, _, _, ga0⟩ := ga.eAr
 obtain ⟨_, _, _, gb0⟩ := gb.eAr
 have hxn := hxE.next
 have hT : mTop x a b most = (mNode x a b most x.sizes.length ⟨[], [], 0⟩ ((a.length : Int) - 1, (b.length : Int) - 1)).1 := if_neg hne
 have hM : Mrg H.next mg aid bid oid HD.next mid x tok a b most ⟨[], [], 0⟩ ((HD.set oid (.cells ((eAr x tok (.sl .full []) most).set 2 (.sl (.own HD.next) [])) 75)).alloc (.tok 0 45 14)) := by
  have hxF : AHeap.Ext H ((HD.set oid (.cells ((eAr x tok (.sl .full []) most).set 2 (.sl (.own HD.next) [])) 75)).alloc (.tok 0 45 14)) := (hxE.set (by omega)).alloc
  refine ⟨?_, ga.ext hxF, gb.ext hxF, ⟨by omega, ?_, AHeap.get_alloc_self (H := HD.set _ _)⟩, ⟨[], ?_, fun p => rfl⟩, AHeap.lt ga0, AHeap.lt gb0, by omega, by omega, by omega, by omega, ⟨rfl, hm.1, fun n h => by simp at h, fun j n p h => by simp at h⟩⟩
  ·rw [AHeap.get_alloc_ne (by simp only [nx]; omega), AHeap.get_set_ne (by omega)]; exact gm
  ·rw [AHeap.get_alloc_ne (by simp only [nx]; omega), AHeap.get_set_self lo2]; rfl
  ·rw [AHeap.get_alloc_ne (by simp only [nx]; omega), AHeap.get_set_ne (by omega)]; exact gd
 refine Sound.gstep (GStep.tokCell oid 2 75 45 14 go rfl) ?_
 obtain ⟨n, hn⟩ : ∃ n, x.sizes.length = n + 1 := ⟨x.sizes.length - 1, by omega⟩
 rw [hT, hn]
 have hK := (pnode_sound (base := H.next) (mg := mg) (aid := aid) (bid := bid) (oid := oid) (tk := HD.next) (mid := mid) (tok := tok) ha hb hm.2 n 0 ⟨[], [], 0⟩ ((a.length : Int) - 1, (b.length : Int) - 1) (by omega) (top_at ha1) (top_at hb1) (fun h => hne ⟨List.length_eq_zero_iff.1 (by have := h.1; omega), List.length_eq_zero_iff.1 (by have := h.2; omega)⟩)).1
 refine (hK _ hM).mono fun r G h => ⟨⟨?_, fun i o ho => ?_⟩, HD.next, h.2.1⟩
 ·have := h.1.next
  simp only [nx] at this
  omega
 ·have hi := AHeap.lt ho
  refine h.1.get i o (by simp only [List.mem_cons, List.not_mem_nil, or_false, not_or]; omega) ?_
  rw [AHeap.get_alloc_ne (by simp only [nx]; omega), AHeap.get_set_ne (by omega)]
  exact hxE.get _ _ ho
set_option maxHeartbeats 4000000 in
theorem pmerge_sound {H : AHeap} {aid bid : Nat} {x : Shp} {a b : List Nod} (most : Int) (ga : ArA H aid x a) (gb : ArA H bid x b) (ha : Prw x a) (hb : Prw x b) : Sound Try.prog 43 [.ptr aid 0, .ptr bid 0, .i most] H (MergeQ x a b most H) := by
 have wa := ha.k.w
 have wb := hb.k.w
 obtain ⟨p1, p2, p3⟩ := wa.bounds
 have hla := wa.len
 have hlb := wb.len
 obtain ⟨_, _, m1, m2, _⟩ := shpMay_bounds wa.may
 have dm : (x.measures == 0) = false := by rw [beq_eq_false_iff_ne]; omega
 have dx : decide (x = x) = true := decide_eq_true rfl
 obtain ⟨_, _, _, ga0⟩ := ga.eAr
 obtain ⟨_, _, _, gb0⟩ := gb.eAr
 refine fn_soundQ hE cf43 (Nat.le_of_ble_eq_true rfl) fun Q hQr hQn => ?_
 ((have hd := trivial; repeat' (first | ((first | apply GdK_st | apply GdK_sf | apply CondK_s) <;> intro hd <;> (try simp only [hd])) | simp (disch := first | assumption | omega | (simp only [nx] <;> omega) | fail) only [hd, hQr, hQn, c43_0, ↓YA, YB, YC, YE, YF, YZ, ↓reduceIte, Nat.reduceEqDiff, Nat.reduceAdd, Nat.reduceMul, Nat.reduceLeDiff, Int.reduceToNat, Int.reduceLE, Int.reduceLT, Int.reduceGT, Int.reduceGE, Int.reduceAdd, Int.reduceSub, Int.reduceNeg, Int.reduceBEq, Int.reduceBNe])) <;> (try (have hd_ : True := hd; clear hd_ hd)))
 refine CallK.use (shape_yes ga0 wa.may) ?_
 rintro r H1 ⟨hx1, t1, rfl⟩
 ((have hd := trivial; repeat' (first | ((first | apply GdK_st | apply GdK_sf | apply CondK_s) <;> intro hd <;> (try simp only [hd])) | simp (disch := first | assumption | omega | (simp only [nx] <;> omega) | fail) only [hd, hQr, hQn, c43_0, ↓YA, YB, YC, YE, YF, YZ, ↓reduceIte, Nat.reduceEqDiff, Nat.reduceAdd, Nat.reduceMul, Nat.reduceLeDiff, Int.reduceToNat, Int.reduceLE, Int.reduceLT, Int.reduceGT, Int.reduceGE, Int.reduceAdd, Int.reduceSub, Int.reduceNeg, Int.reduceBEq, Int.reduceBNe, dm])) <;> (try (have hd_ : True := hd; clear hd_ hd)))
 refine CallK.use (shape_yes (hx1.get _ _ gb0) wa.may) ?_
 rintro r H2 ⟨hx2, t2, rfl⟩
 have hx2 := hx1.trans hx2
 ((have hd := trivial; repeat' (first | ((first | apply GdK_st | apply GdK_sf | apply CondK_s) <;> intro hd <;> (try simp only [hd])) | simp (disch := first | assumption | omega | (simp only [nx] <;> omega) | fail) only [hd, hQr, hQn, c43_0, ↓YA, YB, YC, YE, YF, YZ, ↓reduceIte, Nat.reduceEqDiff, Nat.reduceAdd, Nat.reduceMul, Nat.reduceLeDiff, Int.reduceToNat, Int.reduceLE, Int.reduceLT, Int.reduceGT, Int.reduceGE, Int.reduceAdd, Int.reduceSub, Int.reduceNeg, Int.reduceBEq, Int.reduceBNe, dm])) <;> (try (have hd_ : True := hd; clear hd_ hd)))
 refine CallK.use (shape_yes (hx2.get _ _ ga0) wa.may) ?_
 rintro r H3 ⟨hx3, t3, rfl⟩
 have hx3 := hx2.trans hx3
 ((have hd := trivial; repeat' (first | ((first | apply GdK_st | apply GdK_sf | apply CondK_s) <;> intro hd <;> (try simp only [hd])) | simp (disch := first | assumption | omega | (simp only [nx] <;> omega) | fail) only [hd, hQr, hQn, c43_0, ↓YA, YB, YC, YE, YF, YZ, ↓reduceIte, Nat.reduceEqDiff, Nat.reduceAdd, Nat.reduceMul, Nat.reduceLeDiff, Int.reduceToNat, Int.reduceLE, Int.reduceLT, Int.reduceGT, Int.reduceGE, Int.reduceAdd, Int.reduceSub, Int.reduceNeg, Int.reduceBEq, Int.reduceBNe])) <;> (try (have hd_ : True := hd; clear hd_ hd)))
 refine CallK.use (shape_yes (hx3.get _ _ gb0) wa.may) ?_
 rintro r H4 ⟨hx4, t4, rfl⟩
 have hx4 := hx3.trans hx4
 ((have hd := trivial; repeat' (first | ((first | apply GdK_st | apply GdK_sf | apply CondK_s) <;> intro hd <;> (try simp only [hd])) | simp (disch := first | assumption | omega | (simp only [nx] <;> omega) | fail) only [hd, hQr, hQn, c43_0, ↓YA, YB, YC, YE, YF, YZ, ↓reduceIte, Nat.reduceEqDiff, Nat.reduceAdd, Nat.reduceMul, Nat.reduceLeDiff, Int.reduceToNat, Int.reduceLE, Int.reduceLT, Int.reduceGT, Int.reduceGE, Int.reduceAdd, Int.reduceSub, Int.reduceNeg, Int.reduceBEq, Int.reduceBNe])) <;> (try (have hd_ : True := hd; clear hd_ hd)))
 (refine CallK.use (alike_sound t3 t4 x x _ (by omega) (fun s hs => by have := p3 s hs; omega)) ?_; rintro _ _ ⟨rfl, k1, rfl⟩)
 have hx5 : AHeap.Ext H (H4.bump k1) := by exact AXT
 generalize H4.bump k1 = H5 at *
 ((have hd := trivial; repeat' (first | ((first | apply GdK_st | apply GdK_sf | apply CondK_s) <;> intro hd <;> (try simp only [hd])) | simp (disch := first | assumption | omega | (simp only [nx] <;> omega) | fail) only [hd, hQr, hQn, c43_0, ↓YA, YB, YC, YE, YF, YZ, ↓reduceIte, Nat.reduceEqDiff, Nat.reduceAdd, Nat.reduceMul, Nat.reduceLeDiff, Int.reduceToNat, Int.reduceLE, Int.reduceLT, Int.reduceGT, Int.reduceGE, Int.reduceAdd, Int.reduceSub, Int.reduceNeg, Int.reduceBEq, Int.reduceBNe, dx])) <;> (try (have hd_ : True := hd; clear hd_ hd)))
 have hwa := bfd (wholeB x a)
 rcases hwa with ha1 | ha1
 ·have hR : ∀ r H', AHeap.Ext H H' → r = .tup [.sc (.pointer none), .i 2] → MergeQ x a b most H r H' := fun r H' h e => ⟨h, by rw [if_neg (by simp [ha1])]; exact e⟩
  (refine CallK.use (awhole_sound (ga.ext hx5) wa) ?_; rintro _ _ ⟨rfl, k2, rfl⟩)
  ((have hd := trivial; repeat' (first | ((first | apply GdK_st | apply GdK_sf | apply CondK_s) <;> intro hd <;> (try simp only [hd])) | simp (disch := first | assumption | omega | (simp only [nx] <;> omega) | fail) only [hd, hQr, hQn, c43_0, ↓YA, YB, YC, YE, YF, YZ, ↓reduceIte, Nat.reduceEqDiff, Nat.reduceAdd, Nat.reduceMul, Nat.reduceLeDiff, Int.reduceToNat, Int.reduceLE, Int.reduceLT, Int.reduceGT, Int.reduceGE, Int.reduceAdd, Int.reduceSub, Int.reduceNeg, Int.reduceBEq, Int.reduceBNe, ha1])) <;> (try (have hd_ : True := hd; clear hd_ hd)))
  exact fin_keep (hR _ _ (by exact AXT) rfl)
 (refine CallK.use (awhole_sound (ga.ext hx5) wa) ?_; rintro _ _ ⟨rfl, k2, rfl⟩)
 have hx6 : AHeap.Ext H (H5.bump k2) := by exact AXT
 generalize H5.bump k2 = H6 at *
 ((have hd := trivial; repeat' (first | ((first | apply GdK_st | apply GdK_sf | apply CondK_s) <;> intro hd <;> (try simp only [hd])) | simp (disch := first | assumption | omega | (simp only [nx] <;> omega) | fail) only [hd, hQr, hQn, c43_0, ↓YA, YB, YC, YE, YF, YZ, ↓reduceIte, Nat.reduceEqDiff, Nat.reduceAdd, Nat.reduceMul, Nat.reduceLeDiff, Int.reduceToNat, Int.reduceLE, Int.reduceLT, Int.reduceGT, Int.reduceGE, Int.reduceAdd, Int.reduceSub, Int.reduceNeg, Int.reduceBEq, Int.reduceBNe, ha1])) <;> (try (have hd_ : True := hd; clear hd_ hd)))
 have hwb := bfd (wholeB x b)
 rcases hwb with hb1 | hb1
 ·have hR : ∀ r H', AHeap.Ext H H' → r = .tup [.sc (.pointer none), .i 2] → MergeQ x a b most H r H' := fun r H' h e => ⟨h, by rw [if_neg (by simp [hb1])]; exact e⟩
  (refine CallK.use (awhole_sound (gb.ext hx6) wb) ?_; rintro _ _ ⟨rfl, k3, rfl⟩)
  ((have hd := trivial; repeat' (first | ((first | apply GdK_st | apply GdK_sf | apply CondK_s) <;> intro hd <;> (try simp only [hd])) | simp (disch := first | assumption | omega | (simp only [nx] <;> omega) | fail) only [hd, hQr, hQn, c43_0, ↓YA, YB, YC, YE, YF, YZ, ↓reduceIte, Nat.reduceEqDiff, Nat.reduceAdd, Nat.reduceMul, Nat.reduceLeDiff, Int.reduceToNat, Int.reduceLE, Int.reduceLT, Int.reduceGT, Int.reduceGE, Int.reduceAdd, Int.reduceSub, Int.reduceNeg, Int.reduceBEq, Int.reduceBNe, hb1])) <;> (try (have hd_ : True := hd; clear hd_ hd)))
  exact fin_keep (hR _ _ (by exact AXT) rfl)
 (refine CallK.use (awhole_sound (gb.ext hx6) wb) ?_; rintro _ _ ⟨rfl, k3, rfl⟩)
 have hx7 : AHeap.Ext H (H6.bump k3) := by exact AXT
 generalize H6.bump k3 = H7 at *
 ((have hd := trivial; repeat' (first | ((first | apply GdK_st | apply GdK_sf | apply CondK_s) <;> intro hd <;> (try simp only [hd])) | simp (disch := first | assumption | omega | (simp only [nx] <;> omega) | fail) only [hd, hQr, hQn, c43_0, ↓YA, YB, YC, YE, YF, YZ, ↓reduceIte, Nat.reduceEqDiff, Nat.reduceAdd, Nat.reduceMul, Nat.reduceLeDiff, Int.reduceToNat, Int.reduceLE, Int.reduceLT, Int.reduceGT, Int.reduceGE, Int.reduceAdd, Int.reduceSub, Int.reduceNeg, Int.reduceBEq, Int.reduceBNe, hb1])) <;> (try (have hd_ : True := hd; clear hd_ hd)))
 refine CallK.use (shape_yes (hx7.get _ _ ga0) wa.may) ?_
 rintro r H8 ⟨hx8, t8, rfl⟩
 have hx8 := hx7.trans hx8
 ((have hd := trivial; repeat' (first | ((first | apply GdK_st | apply GdK_sf | apply CondK_s) <;> intro hd <;> (try simp only [hd])) | simp (disch := first | assumption | omega | (simp only [nx] <;> omega) | fail) only [hd, hQr, hQn, c43_0, ↓YA, YB, YC, YE, YF, YZ, ↓reduceIte, Nat.reduceEqDiff, Nat.reduceAdd, Nat.reduceMul, Nat.reduceLeDiff, Int.reduceToNat, Int.reduceLE, Int.reduceLT, Int.reduceGT, Int.reduceGE, Int.reduceAdd, Int.reduceSub, Int.reduceNeg, Int.reduceBEq, Int.reduceBNe])) <;> (try (have hd_ : True := hd; clear hd_ hd)))
 by_cases hm : 0 ≤ most ∧ most ≤ 131072
 ·have hN : Sound Try.prog 45 [.agg [.sl t8 (rII x.sizes), .i x.measures], .i most] H8 (fun r H' => AHeap.Ext H8 H' ∧ ∃ id tok, r = .tup [.ptr id 0, .i 0] ∧ H8.next ≤ id ∧ H'.get id = some (.cells (eAr x tok (.sl .full []) most) 75)) := by
   refine Sound.wknA ((new_sound x most H8).mono fun r H' h => ?_) rfl fun i u v hu hv => ?_
   ·unfold NewQ at h
    rw [if_pos ⟨wa.may, hm⟩] at h
    exact h
   ·match i with
    | 0 =>
     simp only [List.getElem?_cons_zero, Option.some.injEq] at hu hv
     subst hu hv
     refine .agg _ _ rfl fun j p q hp hq => ?_
     have hq : ([.sl .no (rII x.sizes), .i x.measures] : List AV)[j]? = some q := hq
     match j with
     | 0 => simp at hp hq; subst hp hq; exact wkn_tok _ _
     | 1 => simp at hp hq; subst hp hq; exact .refl _
     | j + 2 => simp at hp
    | 1 => simp at hu hv; subst hu hv; exact .refl _
    | i + 2 => simp at hu
  refine CallK.use hN ?_
  rintro r H9 ⟨hx9, oid, tok, rfl, ho, go⟩
  have hx9' := hx8.trans hx9
  ((have hd := trivial; repeat' (first | ((first | apply GdK_st | apply GdK_sf | apply CondK_s) <;> intro hd <;> (try simp only [hd])) | simp (disch := first | assumption | omega | (simp only [nx] <;> omega) | fail) only [hd, hQr, hQn, c43_0, ↓YA, YB, YC, YE, YF, YZ, ↓reduceIte, Nat.reduceEqDiff, Nat.reduceAdd, Nat.reduceMul, Nat.reduceLeDiff, Int.reduceToNat, Int.reduceLE, Int.reduceLT, Int.reduceGT, Int.reduceGE, Int.reduceAdd, Int.reduceSub, Int.reduceNeg, Int.reduceBEq, Int.reduceBNe])) <;> (try (have hd_ : True := hd; clear hd_ hd)))
  have l9 := hx9.next
  have hn9' := hx9'.next
  have hn8 := hx8.next
  have lo := AHeap.lt go
  have hx10 : AHeap.Ext H9 ((H9.alloc (.map (.row [.int .i64, .int .i64]) [] false)).alloc (.cells [.ptr aid 0, .ptr bid 0, .ptr oid 0, .mp H9.next, .i 0] 123)) := by exact AXT
  have gm : ((H9.alloc (.map (.row [.int .i64, .int .i64]) [] false)).alloc (.cells [.ptr aid 0, .ptr bid 0, .ptr oid 0, .mp H9.next, .i 0] 123)).get (H9.next + 1) = some (.cells [.ptr aid 0, .ptr bid 0, .ptr oid 0, .mp H9.next, .i 0] 123) := AHeap.get_alloc_self (H := H9.alloc _)
  have gd : ((H9.alloc (.map (.row [.int .i64, .int .i64]) [] false)).alloc (.cells [.ptr aid 0, .ptr bid 0, .ptr oid 0, .mp H9.next, .i 0] 123)).get H9.next = some (.map (.row [.int .i64, .int .i64]) [] false) := by
   rw [AHeap.get_alloc_ne (by simp only [nx]; omega)]; exact AHeap.get_alloc_self
  have hx10' := hx9'.trans hx10
  have go1 := hx10.get _ _ go
  refine CallK.use (top_sound (ga.ext hx10') p1 (by omega)) ?_
  rintro _ HB ⟨rfl, hxB⟩
  ((have hd := trivial; repeat' (first | ((first | apply GdK_st | apply GdK_sf | apply CondK_s) <;> intro hd <;> (try simp only [hd])) | simp (disch := first | assumption | omega | (simp only [nx] <;> omega) | fail) only [hd, hQr, hQn, c43_0, ↓YA, YB, YC, YE, YF, YZ, ↓reduceIte, Nat.reduceEqDiff, Nat.reduceAdd, Nat.reduceMul, Nat.reduceLeDiff, Int.reduceToNat, Int.reduceLE, Int.reduceLT, Int.reduceGT, Int.reduceGE, Int.reduceAdd, Int.reduceSub, Int.reduceNeg, Int.reduceBEq, Int.reduceBNe])) <;> (try (have hd_ : True := hd; clear hd_ hd)))
  refine CallK.use (top_sound (gb.ext (hx10'.trans hxB)) p1 (by omega)) ?_
  rintro _ HC ⟨rfl, hxC⟩
  have gp : (HC.alloc (.cells [.i ((a.length : Int) - 1), .i ((b.length : Int) - 1)] 125)).get HC.next = some (.cells [.i ((a.length : Int) - 1), .i ((b.length : Int) - 1)] 125) := AHeap.get_alloc_self
  have hxD := (hxB.trans hxC).alloc (o := .cells [.i ((a.length : Int) - 1), .i ((b.length : Int) - 1)] 125)
  have go2 := hxD.get _ _ go1
  have gm2 := hxD.get _ _ gm
  have gd2 := hxD.get _ _ gd
  have hxE := hx10'.trans hxD
  have hN71 := fun hne => merge_call ga gb ha hb ha1 hb1 hm hxE go2 gm2 gd2 (by omega) (by omega) (by omega) hne
  by_cases ea : a = []
  ·have d1 : ((a.length : Int) - 1 != -1) = false := by rw [ea]; rfl
   by_cases eb : b = []
   ·have d2 : ((b.length : Int) - 1 != -1) = false := by rw [eb]; rfl
    have hT : mTop x a b most = ⟨[], [], 0⟩ := if_pos ⟨ea, eb⟩
    have hR : ∀ r H', AHeap.Ext H H' → ArA H' oid x [] → r = .tup [.ptr oid 0, .i 0] → MergeQ x a b most H r H' := fun r H' h h2 e => ⟨h, by rw [if_pos ⟨ha1, hb1, hm⟩, hT, if_neg (by simp)]; exact ⟨oid, e, h2, ⟨rfl, hm.1, fun n h => by simp at h, fun j n p h => by simp at h⟩⟩⟩
    ((have hd := trivial; repeat' (first | ((first | apply GdK_st | apply GdK_sf | apply CondK_s) <;> intro hd <;> (try simp only [hd])) | simp (disch := first | assumption | omega | (simp only [nx] <;> omega) | fail) only [hd, hQr, hQn, c43_0, ↓YA, YB, YC, YE, YF, YZ, ↓reduceIte, Nat.reduceEqDiff, Nat.reduceAdd, Nat.reduceMul, Nat.reduceLeDiff, Int.reduceToNat, Int.reduceLE, Int.reduceLT, Int.reduceGT, Int.reduceGE, Int.reduceAdd, Int.reduceSub, Int.reduceNeg, Int.reduceBEq, Int.reduceBNe, gp, d1, d2, gm2])) <;> (try (have hd_ : True := hd; clear hd_ hd)))
    exact fin_keep (hR _ _ hxE ⟨tok, .full, most, go2⟩ rfl)
   ·have d2 : ((b.length : Int) - 1 != -1) = true := by
     have : b.length ≠ 0 := fun h => eb (List.length_eq_zero_iff.1 h)
     simp; omega
    ((have hd := trivial; repeat' (first | ((first | apply GdK_st | apply GdK_sf | apply CondK_s) <;> intro hd <;> (try simp only [hd])) | simp (disch := first | assumption | omega | (simp only [nx] <;> omega) | fail) only [hd, hQr, hQn, c43_0, ↓YA, YB, YC, YE, YF, YZ, ↓reduceIte, Nat.reduceEqDiff, Nat.reduceAdd, Nat.reduceMul, Nat.reduceLeDiff, Int.reduceToNat, Int.reduceLE, Int.reduceLT, Int.reduceGT, Int.reduceGE, Int.reduceAdd, Int.reduceSub, Int.reduceNeg, Int.reduceBEq, Int.reduceBNe, gp, d1, d2])) <;> (try (have hd_ : True := hd; clear hd_ hd)))
    refine CallK.use (hN71 (fun h => eb h.2)) ?_
    rintro r G ⟨hxG, tk, hMG⟩
    have h0G := hMG.o
    by_cases he : (mTop x a b most).e = 0
    ·have hR : ∀ r H', AHeap.Ext H H' → ArA H' oid x (mTop x a b most).N → r = .tup [.ptr oid 0, .i 0] → MergeQ x a b most H r H' := fun r H' h h2 e => ⟨h, by rw [if_pos ⟨ha1, hb1, hm⟩, if_neg (by simp [he])]; exact ⟨oid, e, h2, hMG.ok⟩⟩
     ((have hd := trivial; repeat' (first | ((first | apply GdK_st | apply GdK_sf | apply CondK_s) <;> intro hd <;> (try simp only [hd])) | simp (disch := first | assumption | omega | (simp only [nx] <;> omega) | fail) only [hd, hQr, hQn, c43_0, ↓YA, YB, YC, YE, YF, YZ, ↓reduceIte, Nat.reduceEqDiff, Nat.reduceAdd, Nat.reduceMul, Nat.reduceLeDiff, Int.reduceToNat, Int.reduceLE, Int.reduceLT, Int.reduceGT, Int.reduceGE, Int.reduceAdd, Int.reduceSub, Int.reduceNeg, Int.reduceBEq, Int.reduceBNe, h0G, he])) <;> (try (have hd_ : True := hd; clear hd_ hd)))
     exact fin_keep (hR _ _ hxG hMG.out.ara rfl)
    ·have d5 : ((mTop x a b most).e != 0) = true := by simpa using he
     have hR : ∀ r H', AHeap.Ext H H' → r = .tup [.sc (.pointer none), .i (mTop x a b most).e] → MergeQ x a b most H r H' := fun r H' h e => ⟨h, by rw [if_pos ⟨ha1, hb1, hm⟩, if_pos he]; exact e⟩
     ((have hd := trivial; repeat' (first | ((first | apply GdK_st | apply GdK_sf | apply CondK_s) <;> intro hd <;> (try simp only [hd])) | simp (disch := first | assumption | omega | (simp only [nx] <;> omega) | fail) only [hd, hQr, hQn, c43_0, ↓YA, YB, YC, YE, YF, YZ, ↓reduceIte, Nat.reduceEqDiff, Nat.reduceAdd, Nat.reduceMul, Nat.reduceLeDiff, Int.reduceToNat, Int.reduceLE, Int.reduceLT, Int.reduceGT, Int.reduceGE, Int.reduceAdd, Int.reduceSub, Int.reduceNeg, Int.reduceBEq, Int.reduceBNe, h0G, d5])) <;> (try (have hd_ : True := hd; clear hd_ hd)))
     exact fin_keep (hR _ _ hxG rfl)
  ·have d1 : ((a.length : Int) - 1 != -1) = true := by
    have : a.length ≠ 0 := fun h => ea (List.length_eq_zero_iff.1 h)
    simp; omega
   ((have hd := trivial; repeat' (first | ((first | apply GdK_st | apply GdK_sf | apply CondK_s) <;> intro hd <;> (try simp only [hd])) | simp (disch := first | assumption | omega | (simp only [nx] <;> omega) | fail) only [hd, hQr, hQn, c43_0, ↓YA, YB, YC, YE, YF, YZ, ↓reduceIte, Nat.reduceEqDiff, Nat.reduceAdd, Nat.reduceMul, Nat.reduceLeDiff, Int.reduceToNat, Int.reduceLE, Int.reduceLT, Int.reduceGT, Int.reduceGE, Int.reduceAdd, Int.reduceSub, Int.reduceNeg, Int.reduceBEq, Int.reduceBNe, gp, d1])) <;> (try (have hd_ : True := hd; clear hd_ hd)))
   refine CallK.use (hN71 (fun h => ea h.1)) ?_
   rintro r G ⟨hxG, tk, hMG⟩
   have h0G := hMG.o
   by_cases he : (mTop x a b most).e = 0
   ·have hR : ∀ r H', AHeap.Ext H H' → ArA H' oid x (mTop x a b most).N → r = .tup [.ptr oid 0, .i 0] → MergeQ x a b most H r H' := fun r H' h h2 e => ⟨h, by rw [if_pos ⟨ha1, hb1, hm⟩, if_neg (by simp [he])]; exact ⟨oid, e, h2, hMG.ok⟩⟩
    ((have hd := trivial; repeat' (first | ((first | apply GdK_st | apply GdK_sf | apply CondK_s) <;> intro hd <;> (try simp only [hd])) | simp (disch := first | assumption | omega | (simp only [nx] <;> omega) | fail) only [hd, hQr, hQn, c43_0, ↓YA, YB, YC, YE, YF, YZ, ↓reduceIte, Nat.reduceEqDiff, Nat.reduceAdd, Nat.reduceMul, Nat.reduceLeDiff, Int.reduceToNat, Int.reduceLE, Int.reduceLT, Int.reduceGT, Int.reduceGE, Int.reduceAdd, Int.reduceSub, Int.reduceNeg, Int.reduceBEq, Int.reduceBNe, h0G, he])) <;> (try (have hd_ : True := hd; clear hd_ hd)))
    exact fin_keep (hR _ _ hxG hMG.out.ara rfl)
   ·have d5 : ((mTop x a b most).e != 0) = true := by simpa using he
    have hR : ∀ r H', AHeap.Ext H H' → r = .tup [.sc (.pointer none), .i (mTop x a b most).e] → MergeQ x a b most H r H' := fun r H' h e => ⟨h, by rw [if_pos ⟨ha1, hb1, hm⟩, if_pos he]; exact e⟩
    ((have hd := trivial; repeat' (first | ((first | apply GdK_st | apply GdK_sf | apply CondK_s) <;> intro hd <;> (try simp only [hd])) | simp (disch := first | assumption | omega | (simp only [nx] <;> omega) | fail) only [hd, hQr, hQn, c43_0, ↓YA, YB, YC, YE, YF, YZ, ↓reduceIte, Nat.reduceEqDiff, Nat.reduceAdd, Nat.reduceMul, Nat.reduceLeDiff, Int.reduceToNat, Int.reduceLE, Int.reduceLT, Int.reduceGT, Int.reduceGE, Int.reduceAdd, Int.reduceSub, Int.reduceNeg, Int.reduceBEq, Int.reduceBNe, h0G, d5])) <;> (try (have hd_ : True := hd; clear hd_ hd)))
    exact fin_keep (hR _ _ hxG rfl)
 ·have hN : Sound Try.prog 45 [.agg [.sl t8 (rII x.sizes), .i x.measures], .i most] H8 (fun r H' => AHeap.Ext H8 H' ∧ r = .tup [.sc (.pointer none), .i 2]) := by
   refine Sound.wknA ((new_sound x most H8).mono fun r H' h => ?_) rfl fun i u v hu hv => ?_
   ·unfold NewQ at h
    rw [if_neg (fun h => hm h.2)] at h
    exact h
   ·match i with
    | 0 =>
     simp only [List.getElem?_cons_zero, Option.some.injEq] at hu hv
     subst hu hv
     refine .agg _ _ rfl fun j p q hp hq => ?_
     have hq : ([.sl .no (rII x.sizes), .i x.measures] : List AV)[j]? = some q := hq
     match j with
     | 0 => simp at hp hq; subst hp hq; exact wkn_tok _ _
     | 1 => simp at hp hq; subst hp hq; exact .refl _
     | j + 2 => simp at hp
    | 1 => simp at hu hv; subst hu hv; exact .refl _
    | i + 2 => simp at hu
  refine CallK.use hN ?_
  rintro r H9 ⟨hx9, rfl⟩
  ((have hd := trivial; repeat' (first | ((first | apply GdK_st | apply GdK_sf | apply CondK_s) <;> intro hd <;> (try simp only [hd])) | simp (disch := first | assumption | omega | (simp only [nx] <;> omega) | fail) only [hd, hQr, hQn, c43_0, ↓YA, YB, YC, YE, YF, YZ, ↓reduceIte, Nat.reduceEqDiff, Nat.reduceAdd, Nat.reduceMul, Nat.reduceLeDiff, Int.reduceToNat, Int.reduceLE, Int.reduceLT, Int.reduceGT, Int.reduceGE, Int.reduceAdd, Int.reduceSub, Int.reduceNeg, Int.reduceBEq, Int.reduceBNe])) <;> (try (have hd_ : True := hd; clear hd_ hd)))
  have hR : ∀ r H', AHeap.Ext H H' → r = .tup [.sc (.pointer none), .i 2] → MergeQ x a b most H r H' := fun r H' h e => ⟨h, by rw [if_neg (fun h => hm h.2.2)]; exact e⟩
  exact fin_keep (hR _ _ (hx8.trans hx9) rfl)
end Go.Proofs.Ytgnpihhakogeeaa
