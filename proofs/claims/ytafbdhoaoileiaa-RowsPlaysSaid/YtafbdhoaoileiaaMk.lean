/- Texts of the walk, joined: Gr Gs Gt. -/
import Derived.Test.YtafbdhoaoileiaaMj
namespace Go.Proofs.Ytafbdhoaoileiaa
set_option linter.unusedSimpArgs false
set_option linter.unusedVariables false
open Go.RowKit
def updF (ks : List Int) (a : Ag) (g : Fct) : Fct := if g.1 = ks then (g.1, (joinA g.2 a).getD g.2) else g
def metF (ks : List Int) (l : List Fct) : Bool := l.any fun g => decide (g.1 = ks)
def badF (ks : List Int) (a : Ag) (l : List Fct) : Bool := l.any fun g => decide (g.1 = ks) && (joinA g.2 a).isNone
def fallF (w m : Int) (l : List Fct) (ks : List Int) (a : Ag) : List Fct × Int :=
 if (ks.length : Int) ≠ w ∨ a.n < 1 ∨ (ks.any fun k => decide (k < 0)) = true then (l, 2)
 else if badF ks a l = true then (l, 12)
 else if metF ks l = true then (l.map (updF ks a), 0)
 else if (l.length : Int) ≥ m then (l, 6) else (sortF (l ++ [(ks, a)]), 0)
def fallV (q : List Fct × Int) : AV := .tup [.sl .no (rF q.1), .i q.2]
@[simp] theorem metF_nil (ks : List Int) : metF ks [] = false := rfl
theorem metF_take {ks : List Int} {l : List Fct} {k : Nat} (h : k < l.length) : metF ks (l.take (k + 1)) = (metF ks (l.take k) || decide (l[k].1 = ks)) := by
 rw [List.take_succ_eq_append_getElem h, metF, List.any_append]; simp [metF]
theorem badF_take {ks : List Int} {a : Ag} {l : List Fct} {k : Nat} (h : k < l.length) : badF ks a (l.take (k + 1)) = (badF ks a (l.take k) || (decide (l[k].1 = ks) && (joinA l[k].2 a).isNone)) := by
 rw [List.take_succ_eq_append_getElem h, badF, List.any_append]; simp [badF]
theorem map_take1 {f : Fct → Fct} {l : List Fct} {k : Nat} (h : k < l.length) : (l.take (k + 1)).map f = (l.take k).map f ++ [f l[k]] := by
 rw [List.take_succ_eq_append_getElem h, List.map_append]; rfl
theorem upd_none {ks : List Int} {a : Ag} {l : List Fct} (h : metF ks l = false) : l.map (updF ks a) = l := by
 rw [metF, List.any_eq_false] at h
 conv => rhs; rw [← List.map_id l]
 refine List.map_congr_left fun g hg => ?_
 have := h g hg
 simp at this
 simp [updF, this]
theorem badF_mem {ks : List Int} {a : Ag} {l : List Fct} {k : Nat} (h : k < l.length) (h1 : l[k].1 = ks) (h2 : joinA l[k].2 a = none) : badF ks a l = true := by
 rw [badF, List.any_eq_true]
 exact ⟨_, List.getElem_mem h, by simp [h1, h2]⟩
theorem any_at {ks : List Int} {k : Nat} (h : k < ks.length) (h1 : ks[k] < 0) : (ks.any fun k => decide (k < 0)) = true := List.any_eq_true.2 ⟨_, List.getElem_mem h, by simpa using h1⟩
theorem any_none {ks : List Int} (h : ∀ j (hj : j < ks.length), ¬ ks[j] < 0) : (ks.any fun k => decide (k < 0)) = false := by
 rw [List.any_eq_false]
 intro x hx
 obtain ⟨j, hj, rfl⟩ := List.getElem_of_mem hx
 simpa using h j hj
theorem HX.setO {O : List (Nat × AObj)} {H G : AHeap} {id : Nat} {o : AObj} (h : HX O H G) (hid : H.next ≤ id) (hne : ∀ p ∈ O, p.1 ≠ id) : HX O H (G.set id o) :=
 ⟨h.n, fun p hp => by rw [AHeap.get_set_ne (hne p hp)]; exact h.o p hp, fun i hi hn => by rw [AHeap.get_set_ne (by omega)]; exact h.g i hi hn⟩
set_option maxHeartbeats 8000000 in
theorem fall_sound (t : Tok) (w m : Int) (l : List Fct) (ks : List Int) (a : Ag) (H : AHeap) (hw : w ≤ 16) (hl : l.length ≤ 100000) (hk : ∀ f ∈ l, f.1.length ≤ 16) (ha : AgIn a) (hla : ∀ f ∈ l, AgIn f.2) :
  Sound Try.prog 13 [.sl t (rF l), .i w, .i m, .sl .no (rI ks), .agg (eAg a)] H (Pure H (fallV (fallF w m l ks a))) := by
 by_cases c1 : (ks.length : Int) = w
 ·by_cases c2 : a.n < 1
  ·have d1 : ((ks.length : Int) != w) = false := by simp [c1]
   have d2 : decide (a.n < 1) = true := decide_eq_true c2
   have hv : fallF w m l ks a = (l, 2) := by unfold fallF; rw [if_pos (.inr (.inl c2))]
   rw [hv]
   refine fn_soundQ hE cf13 (Nat.le_of_ble_eq_true rfl) fun Q hQr hQn => ?_
   ((have hd := trivial; repeat' (first | ((first | apply GdK_st | apply GdK_sf | apply CondK_s) <;> intro hd <;> (try simp only [hd])) | simp (disch := first | assumption | omega | (simp only [nx] <;> omega) | fail) only [hd, hQr, hQn, c13_0, ↓YA, YB, YC, YE, YF, YZ, ↓reduceIte, Nat.reduceEqDiff, Nat.reduceAdd, Nat.reduceMul, Nat.reduceLeDiff, Int.reduceToNat, Int.reduceLE, Int.reduceLT, Int.reduceGT, Int.reduceGE, Int.reduceAdd, Int.reduceSub, Int.reduceNeg, Int.reduceBEq, Int.reduceBNe, d1, d2, List.length_map])) <;> (try (have hd_ : True := hd; clear hd_ hd)))
   exact fin_pA rfl
  ·have d1 : ((ks.length : Int) != w) = false := by simp [c1]
   have d2 : decide (a.n < 1) = false := decide_eq_false c2
   have hkl : ks.length ≤ 16 := by omega
   have hF : ∀ b, (ks.any fun k => decide (k < 0)) = b → fallF w m l ks a = if b = true then (l, 2) else if badF ks a l = true then (l, 12)
     else if metF ks l = true then (l.map (updF ks a), 0) else if (l.length : Int) ≥ m then (l, 6) else (sortF (l ++ [(ks, a)]), 0) := fun b hb => by
    unfold fallF
    rw [hb]
    cases b <;> simp [c1, c2]
   refine fn_soundQ hE cf13 (Nat.le_of_ble_eq_true rfl) fun Q hQr hQn => ?_
   ((have hd := trivial; repeat' (first | ((first | apply GdK_st | apply GdK_sf | apply CondK_s) <;> intro hd <;> (try simp only [hd])) | simp (disch := first | assumption | omega | (simp only [nx] <;> omega) | fail) only [hd, hQr, hQn, c13_0, ↓YA, YB, YC, YE, YF, YZ, ↓reduceIte, Nat.reduceEqDiff, Nat.reduceAdd, Nat.reduceMul, Nat.reduceLeDiff, Int.reduceToNat, Int.reduceLE, Int.reduceLT, Int.reduceGT, Int.reduceGE, Int.reduceAdd, Int.reduceSub, Int.reduceNeg, Int.reduceBEq, Int.reduceBNe, d1, d2, List.length_map])) <;> (try (have hd_ : True := hd; clear hd_ hd)))
   have g9 : (H.alloc (.cells (eAg a) 36)).get H.next = some (.cells (eAg a) 36) := AHeap.get_alloc_self
   have hx0 : AHeap.Ext H (H.alloc (.cells (eAg a) 36)) := (AHeap.Ext.refl _).alloc
   have hn0 : H.next < (H.alloc (.cells (eAg a) 36)).next := AHeap.lt g9
   generalize (H.alloc (.cells (eAg a) 36)) = G0 at *
   refine AW_for [0, 2, 3, 9, 31, 32] (σ := Unit) (fun (k : Nat) s => ∀ j (hj : j < ks.length), j < k → ¬ ks[j] < 0) (fun k s => []) (fun k s => []) () (GStep.refl _ _) (by simp only [keep_nil, keep_cons, Fr.put, Fr.get, ↓reduceIte, Nat.reduceEqDiff]; rfl) (by intro k s; rfl) (by intro k s; rfl) (by rfl) (by unfold maxLen; omega) ?_ (by simp only [FrL_nil]) (by simp only [ObjL_nil]) ?_ ?_
   ·intro j hj h; omega
   ·(rintro k s G hk1 ht hG hn1; try simp only [nx] at hn1)
    have hkg : ∀ h : k < ks.length, ks[k]'h = ks[k] := fun _ => rfl
    by_cases c3 : ks[k] < 0
    ·have d3 : decide (ks[k] < 0) = true := decide_eq_true c3
     have hv := hF true (any_at hk1 c3)
     ((have hd := trivial; repeat' (first | ((first | apply GdK_st | apply GdK_sf | apply CondK_s) <;> intro hd <;> (try simp only [hd])) | simp (disch := first | assumption | omega | (simp only [nx] <;> omega) | fail) only [hd, hQr, hQn, c13_0, ↓YA, YB, YC, YE, YF, YZ, ↓reduceIte, Nat.reduceEqDiff, Nat.reduceAdd, Nat.reduceMul, Nat.reduceLeDiff, Int.reduceToNat, Int.reduceLE, Int.reduceLT, Int.reduceGT, Int.reduceGE, Int.reduceAdd, Int.reduceSub, Int.reduceNeg, Int.reduceBEq, Int.reduceBNe, hk1, d3])) <;> (try (have hd_ : True := hd; clear hd_ hd)))
     refine fin_pA (by rw [hv]; rfl) (hx0.trans hG.ext)
    ·have d3 : decide (ks[k] < 0) = false := decide_eq_false c3
     ((have hd := trivial; repeat' (first | ((first | apply GdK_st | apply GdK_sf | apply CondK_s) <;> intro hd <;> (try simp only [hd])) | simp (disch := first | assumption | omega | (simp only [nx] <;> omega) | fail) only [hd, hQr, hQn, c13_0, ↓YA, YB, YC, YE, YF, YZ, ↓reduceIte, Nat.reduceEqDiff, Nat.reduceAdd, Nat.reduceMul, Nat.reduceLeDiff, Int.reduceToNat, Int.reduceLE, Int.reduceLT, Int.reduceGT, Int.reduceGE, Int.reduceAdd, Int.reduceSub, Int.reduceNeg, Int.reduceBEq, Int.reduceBNe, hk1, d3])) <;> (try (have hd_ : True := hd; clear hd_ hd)))
     refine ⟨(), fun j hj h => ?_, by exact HXT⟩
     by_cases hjk : j = k
     ·subst hjk; exact c3
     ·exact ht j hj (by omega)
   ·(rintro s G ht hG hn1; try simp only [nx] at hn1)
    have hF := hF false (any_none fun j hj => ht j hj hj)
    simp only [Bool.false_eq_true, if_false] at hF
    have g9' : G.get H.next = some (.cells (eAg a) 36) := (hG.get _ hn0).trans g9
    have hx1 : AHeap.Ext H G := hx0.trans hG.ext
    ((have hd := trivial; repeat' (first | ((first | apply GdK_st | apply GdK_sf | apply CondK_s) <;> intro hd <;> (try simp only [hd])) | simp (disch := first | assumption | omega | (simp only [nx] <;> omega) | fail) only [hd, hQr, hQn, c13_0, ↓YA, YB, YC, YE, YF, YZ, ↓reduceIte, Nat.reduceEqDiff, Nat.reduceAdd, Nat.reduceMul, Nat.reduceLeDiff, Int.reduceToNat, Int.reduceLE, Int.reduceLT, Int.reduceGT, Int.reduceGE, Int.reduceAdd, Int.reduceSub, Int.reduceNeg, Int.reduceBEq, Int.reduceBNe, g9', List.length_map])) <;> (try (have hd_ : True := hd; clear hd_ hd)))
    have g14 : (G.alloc (.cells (eFct (ks, a)) 38)).get G.next = some (.cells (eFct (ks, a)) 38) := AHeap.get_alloc_self
    have hx2 : AHeap.Ext H (G.alloc (.cells (eFct (ks, a)) 38)) := hx1.alloc
    have g9b : (G.alloc (.cells (eFct (ks, a)) 38)).get H.next = some (.cells (eAg a) 36) := by rw [AHeap.get_alloc_lt (AHeap.lt g9')]; exact g9'
    have hhx : H.next < G.next := AHeap.lt g9'
    change AW Try.prog c13_2 _ _ (G.alloc (.cells (eFct (ks, a)) 38))
    generalize hn14 : G.next = n14 at *
    generalize (G.alloc (.cells (eFct (ks, a)) 38)) = G1 at *
    have l14 := AHeap.lt g14
    have l9 := AHeap.lt g9b
    refine AW_for [0, 2, 9, 14, 44, 45] (σ := Unit) (fun (k : Nat) s => badF ks a (l.take k) = false) (fun k s => [(15, .sl (.own G1.next) (rF ((l.take k).map (updF ks a)))), (16, .b (metF ks (l.take k)))]) (fun k s => [(G1.next, .tok k 38 11)]) () (GStep.tok 15 38 11 rfl) (by simp only [keep_nil, keep_cons, Fr.put, Fr.get, ↓reduceIte, Nat.reduceEqDiff]; rfl) (by intro k s; rfl) (by intro k s; rfl) (by rfl) (by unfold maxLen; omega) ?_ (by simp only [FrL_nil, FrL_cons, Fr.put, Fr.get, ↓reduceIte, Nat.reduceEqDiff, and_self] <;> simp) ?_ ?_ ?_
    ·rfl
    ·rw [ObjL_cons]
     exact ⟨AHeap.get_alloc_self (H := G1), by simp [ObjL]⟩
    ·(rintro k s G2 hk1 ht2 hG2 hn2; try simp only [nx] at hn2)
     have e9 : G2.get H.next = some (.cells (eAg a) 36) := (hG2.g _ (by simp only [nx]; omega) (by simp; omega)).trans ((AHeap.get_alloc_lt l9).trans g9b)
     have e14 : G2.get n14 = some (.cells (eFct (ks, a)) 38) := (hG2.g _ (by simp only [nx]; omega) (by simp; omega)).trans ((AHeap.get_alloc_lt l14).trans g14)
     have et : G2.get G1.next = some (.tok k 38 11) := hG2.o (_, _) (List.mem_singleton.2 rfl)
     have m9 := AHeap.lt e9
     have m14 := AHeap.lt e14
     have mt := AHeap.lt et
     have hkg := hk _ (List.getElem_mem hk1)
     have hag := hla _ (List.getElem_mem hk1)
     have hmt := metF_take (ks := ks) hk1
     have hbt := badF_take (ks := ks) (a := a) hk1
     have hmp := map_take1 (f := updF ks a) hk1
     have hbm := badF_mem (ks := ks) (a := a) hk1
     have a1 : allLen 11 (rF ((l.take k).map (updF ks a))) = true := allLen_rF _
     have hlen : ((l.take k).map (updF ks a)).length = k := by simp; omega
     have n1 : k + 1 ≤ maxLen := by unfold maxLen; omega
     have n2 : (k + 1) * 104 ≤ 140737488355328 := by omega
     generalize (l.take k).map (updF ks a) = out at *
     generalize metF ks (l.take k) = met at *
     have q1 : (eFct l[k]).length = 11 := rfl
     have q2 : (eFct l[k]).take 11 = eFct l[k] := rfl
     have q3 : ((eFct l[k]).drop 1).take 10 = eAg l[k].2 := rfl
     generalize hgk : l[k] = g at *
     have w1 : (eFct (ks, a)).length = 11 := rfl
     have w2 : (eFct (ks, a)).take 11 = eFct (ks, a) := rfl
     have w3 : (eAg a).take 10 = eAg a := rfl
     have w4 : (eAg a).length = 10 := rfl
     have hL1 := fun H => less_sound g (ks, a) H (Nat.le_trans hkg (by omega)) (Nat.le_trans hkl (by omega))
     have hL2 := fun H => less_sound (ks, a) g H (Nat.le_trans hkl (by omega)) (Nat.le_trans hkg (by omega))
     by_cases c3 : g.1 < ks
     ·have hne : ¬ g.1 = ks := fun e => by rw [e] at c3; exact List.lt_irrefl _ c3
      have hu : updF ks a g = g := by unfold updF; rw [if_neg hne]
      have hd1 : decide (g.1 < (ks, a).1) = true := decide_eq_true c3
      have a2 : allLen 11 [eFct g] = true := rfl
      simp only [hd1] at hL1
      ((have hd := trivial; repeat' (first | ((first | apply GdK_st | apply GdK_sf | apply CondK_s) <;> intro hd <;> (try simp only [hd])) | simp (disch := first | assumption | omega | (simp only [nx] <;> omega) | fail) only [hd, hQr, hQn, c13_0, ↓YA, YB, YC, YE, YF, YZ, ↓reduceIte, Nat.reduceEqDiff, Nat.reduceAdd, Nat.reduceMul, Nat.reduceLeDiff, Int.reduceToNat, Int.reduceLE, Int.reduceLT, Int.reduceGT, Int.reduceGE, Int.reduceAdd, Int.reduceSub, Int.reduceNeg, Int.reduceBEq, Int.reduceBNe, hk1, hgk, q1, q2, e14, w1, w2])) <;> (try (have hd_ : True := hd; clear hd_ hd)))
      (refine CallK.use (hL1 _) ?_; rintro _ _ ⟨rfl, k1, rfl⟩)
      ((have hd := trivial; repeat' (first | ((first | apply GdK_st | apply GdK_sf | apply CondK_s) <;> intro hd <;> (try simp only [hd])) | simp (disch := first | assumption | omega | (simp only [nx] <;> omega) | fail) only [hd, hQr, hQn, c13_0, ↓YA, YB, YC, YE, YF, YZ, ↓reduceIte, Nat.reduceEqDiff, Nat.reduceAdd, Nat.reduceMul, Nat.reduceLeDiff, Int.reduceToNat, Int.reduceLE, Int.reduceLT, Int.reduceGT, Int.reduceGE, Int.reduceAdd, Int.reduceSub, Int.reduceNeg, Int.reduceBEq, Int.reduceBNe, hk1, hgk, q1, q2, e14, w1, w2, et, a1, a2, hlen, n1, n2])) <;> (try (have hd_ : True := hd; clear hd_ hd)))
      refine ⟨(), by rw [hbt, ht2, decide_eq_false hne]; rfl, ⟨congrArg (AV.sl _) (show rF out ++ [eFct g] = _ by rw [hmp, hu, rF, rF, List.map_append]; rfl), congrArg AV.b (by rw [hmt, decide_eq_false hne, Bool.or_false])⟩, hG2.alloc.bump.put⟩
     ·have hd1 : decide (g.1 < (ks, a).1) = false := decide_eq_false c3
      simp only [hd1] at hL1
      by_cases c4 : ks < g.1
      ·have hne : ¬ g.1 = ks := fun e => by rw [e] at c4; exact List.lt_irrefl _ c4
       have hu : updF ks a g = g := by unfold updF; rw [if_neg hne]
       have hd2 : decide ((ks, a).1 < g.1) = true := decide_eq_true c4
       have a2 : allLen 11 [eFct g] = true := rfl
       simp only [hd2] at hL2
       ((have hd := trivial; repeat' (first | ((first | apply GdK_st | apply GdK_sf | apply CondK_s) <;> intro hd <;> (try simp only [hd])) | simp (disch := first | assumption | omega | (simp only [nx] <;> omega) | fail) only [hd, hQr, hQn, c13_0, ↓YA, YB, YC, YE, YF, YZ, ↓reduceIte, Nat.reduceEqDiff, Nat.reduceAdd, Nat.reduceMul, Nat.reduceLeDiff, Int.reduceToNat, Int.reduceLE, Int.reduceLT, Int.reduceGT, Int.reduceGE, Int.reduceAdd, Int.reduceSub, Int.reduceNeg, Int.reduceBEq, Int.reduceBNe, hk1, hgk, q1, q2, e14, w1, w2])) <;> (try (have hd_ : True := hd; clear hd_ hd)))
       (refine CallK.use (hL1 _) ?_; rintro _ _ ⟨rfl, k1, rfl⟩)
       ((have hd := trivial; repeat' (first | ((first | apply GdK_st | apply GdK_sf | apply CondK_s) <;> intro hd <;> (try simp only [hd])) | simp (disch := first | assumption | omega | (simp only [nx] <;> omega) | fail) only [hd, hQr, hQn, c13_0, ↓YA, YB, YC, YE, YF, YZ, ↓reduceIte, Nat.reduceEqDiff, Nat.reduceAdd, Nat.reduceMul, Nat.reduceLeDiff, Int.reduceToNat, Int.reduceLE, Int.reduceLT, Int.reduceGT, Int.reduceGE, Int.reduceAdd, Int.reduceSub, Int.reduceNeg, Int.reduceBEq, Int.reduceBNe, hk1, hgk, q1, q2, e14, w1, w2])) <;> (try (have hd_ : True := hd; clear hd_ hd)))
       (refine CallK.use (hL2 _) ?_; rintro _ _ ⟨rfl, k2, rfl⟩)
       ((have hd := trivial; repeat' (first | ((first | apply GdK_st | apply GdK_sf | apply CondK_s) <;> intro hd <;> (try simp only [hd])) | simp (disch := first | assumption | omega | (simp only [nx] <;> omega) | fail) only [hd, hQr, hQn, c13_0, ↓YA, YB, YC, YE, YF, YZ, ↓reduceIte, Nat.reduceEqDiff, Nat.reduceAdd, Nat.reduceMul, Nat.reduceLeDiff, Int.reduceToNat, Int.reduceLE, Int.reduceLT, Int.reduceGT, Int.reduceGE, Int.reduceAdd, Int.reduceSub, Int.reduceNeg, Int.reduceBEq, Int.reduceBNe, hk1, hgk, q1, q2, e14, w1, w2, et, a1, a2, hlen, n1, n2])) <;> (try (have hd_ : True := hd; clear hd_ hd)))
       refine ⟨(), by rw [hbt, ht2, decide_eq_false hne]; rfl, ⟨congrArg (AV.sl _) (show rF out ++ [eFct g] = _ by rw [hmp, hu, rF, rF, List.map_append]; rfl), congrArg AV.b (by rw [hmt, decide_eq_false hne, Bool.or_false])⟩, hG2.alloc.bump.bump.put⟩
      ·have he : g.1 = ks := keys_eq c3 c4
       have hd2 : decide ((ks, a).1 < g.1) = false := decide_eq_false c4
       simp only [hd2] at hL2
       have hj := bfo (joinA g.2 a)
       rcases hj with hj | ⟨s, hj⟩
       ·have hJ : ∀ H, Sound Try.prog 23 [.agg (eAg g.2), .agg (eAg a)] H (Pure H (.tup [.agg (eAg ag0), .b false])) := fun H => (rjoin_sound g.2 a H hag ha).mono fun r H' h => by
         rw [hj] at h; exact h
        have hv : fallF w m l ks a = (l, 12) := hF.trans (if_pos (hbm he hj))
        ((have hd := trivial; repeat' (first | ((first | apply GdK_st | apply GdK_sf | apply CondK_s) <;> intro hd <;> (try simp only [hd])) | simp (disch := first | assumption | omega | (simp only [nx] <;> omega) | fail) only [hd, hQr, hQn, c13_0, ↓YA, YB, YC, YE, YF, YZ, ↓reduceIte, Nat.reduceEqDiff, Nat.reduceAdd, Nat.reduceMul, Nat.reduceLeDiff, Int.reduceToNat, Int.reduceLE, Int.reduceLT, Int.reduceGT, Int.reduceGE, Int.reduceAdd, Int.reduceSub, Int.reduceNeg, Int.reduceBEq, Int.reduceBNe, hk1, hgk, q1, q2, e14, w1, w2])) <;> (try (have hd_ : True := hd; clear hd_ hd)))
        (refine CallK.use (hL1 _) ?_; rintro _ _ ⟨rfl, k1, rfl⟩)
        ((have hd := trivial; repeat' (first | ((first | apply GdK_st | apply GdK_sf | apply CondK_s) <;> intro hd <;> (try simp only [hd])) | simp (disch := first | assumption | omega | (simp only [nx] <;> omega) | fail) only [hd, hQr, hQn, c13_0, ↓YA, YB, YC, YE, YF, YZ, ↓reduceIte, Nat.reduceEqDiff, Nat.reduceAdd, Nat.reduceMul, Nat.reduceLeDiff, Int.reduceToNat, Int.reduceLE, Int.reduceLT, Int.reduceGT, Int.reduceGE, Int.reduceAdd, Int.reduceSub, Int.reduceNeg, Int.reduceBEq, Int.reduceBNe, hk1, hgk, q1, q2, e14, w1, w2])) <;> (try (have hd_ : True := hd; clear hd_ hd)))
        (refine CallK.use (hL2 _) ?_; rintro _ _ ⟨rfl, k2, rfl⟩)
        ((have hd := trivial; repeat' (first | ((first | apply GdK_st | apply GdK_sf | apply CondK_s) <;> intro hd <;> (try simp only [hd])) | simp (disch := first | assumption | omega | (simp only [nx] <;> omega) | fail) only [hd, hQr, hQn, c13_0, ↓YA, YB, YC, YE, YF, YZ, ↓reduceIte, Nat.reduceEqDiff, Nat.reduceAdd, Nat.reduceMul, Nat.reduceLeDiff, Int.reduceToNat, Int.reduceLE, Int.reduceLT, Int.reduceGT, Int.reduceGE, Int.reduceAdd, Int.reduceSub, Int.reduceNeg, Int.reduceBEq, Int.reduceBNe, hk1, hgk, q1, q2, q3, e9, e14, w1, w2, w3, w4])) <;> (try (have hd_ : True := hd; clear hd_ hd)))
        (refine CallK.use (hJ _) ?_; rintro _ _ ⟨rfl, k3, rfl⟩)
        ((have hd := trivial; repeat' (first | ((first | apply GdK_st | apply GdK_sf | apply CondK_s) <;> intro hd <;> (try simp only [hd])) | simp (disch := first | assumption | omega | (simp only [nx] <;> omega) | fail) only [hd, hQr, hQn, c13_0, ↓YA, YB, YC, YE, YF, YZ, ↓reduceIte, Nat.reduceEqDiff, Nat.reduceAdd, Nat.reduceMul, Nat.reduceLeDiff, Int.reduceToNat, Int.reduceLE, Int.reduceLT, Int.reduceGT, Int.reduceGE, Int.reduceAdd, Int.reduceSub, Int.reduceNeg, Int.reduceBEq, Int.reduceBNe, hk1, hgk, q1, q2, q3, e9, e14, w1, w2, w3, w4])) <;> (try (have hd_ : True := hd; clear hd_ hd)))
        refine fin_pA (by rw [hv]; rfl) ?_
        exact (hG2.extO hx2.alloc (by simp; omega)).alloc.bump.bump.bump.alloc
       ·have hJ : ∀ H, Sound Try.prog 23 [.agg (eAg g.2), .agg (eAg a)] H (Pure H (.tup [.agg (eAg s), .b true])) := fun H => (rjoin_sound g.2 a H hag ha).mono fun r H' h => by
         rw [hj] at h; exact h
        have hu : updF ks a g = (g.1, s) := by unfold updF; rw [if_pos he, hj]; rfl
        have w5 : (eAg s).take 10 = eAg s := rfl
        have w6 : (eAg s).length = 10 := rfl
        ((have hd := trivial; repeat' (first | ((first | apply GdK_st | apply GdK_sf | apply CondK_s) <;> intro hd <;> (try simp only [hd])) | simp (disch := first | assumption | omega | (simp only [nx] <;> omega) | fail) only [hd, hQr, hQn, c13_0, ↓YA, YB, YC, YE, YF, YZ, ↓reduceIte, Nat.reduceEqDiff, Nat.reduceAdd, Nat.reduceMul, Nat.reduceLeDiff, Int.reduceToNat, Int.reduceLE, Int.reduceLT, Int.reduceGT, Int.reduceGE, Int.reduceAdd, Int.reduceSub, Int.reduceNeg, Int.reduceBEq, Int.reduceBNe, hk1, hgk, q1, q2, e14, w1, w2])) <;> (try (have hd_ : True := hd; clear hd_ hd)))
        (refine CallK.use (hL1 _) ?_; rintro _ _ ⟨rfl, k1, rfl⟩)
        ((have hd := trivial; repeat' (first | ((first | apply GdK_st | apply GdK_sf | apply CondK_s) <;> intro hd <;> (try simp only [hd])) | simp (disch := first | assumption | omega | (simp only [nx] <;> omega) | fail) only [hd, hQr, hQn, c13_0, ↓YA, YB, YC, YE, YF, YZ, ↓reduceIte, Nat.reduceEqDiff, Nat.reduceAdd, Nat.reduceMul, Nat.reduceLeDiff, Int.reduceToNat, Int.reduceLE, Int.reduceLT, Int.reduceGT, Int.reduceGE, Int.reduceAdd, Int.reduceSub, Int.reduceNeg, Int.reduceBEq, Int.reduceBNe, hk1, hgk, q1, q2, e14, w1, w2])) <;> (try (have hd_ : True := hd; clear hd_ hd)))
        (refine CallK.use (hL2 _) ?_; rintro _ _ ⟨rfl, k2, rfl⟩)
        ((have hd := trivial; repeat' (first | ((first | apply GdK_st | apply GdK_sf | apply CondK_s) <;> intro hd <;> (try simp only [hd])) | simp (disch := first | assumption | omega | (simp only [nx] <;> omega) | fail) only [hd, hQr, hQn, c13_0, ↓YA, YB, YC, YE, YF, YZ, ↓reduceIte, Nat.reduceEqDiff, Nat.reduceAdd, Nat.reduceMul, Nat.reduceLeDiff, Int.reduceToNat, Int.reduceLE, Int.reduceLT, Int.reduceGT, Int.reduceGE, Int.reduceAdd, Int.reduceSub, Int.reduceNeg, Int.reduceBEq, Int.reduceBNe, hk1, hgk, q1, q2, q3, e9, e14, w1, w2, w3, w4])) <;> (try (have hd_ : True := hd; clear hd_ hd)))
        (refine CallK.use (hJ _) ?_; rintro _ _ ⟨rfl, k3, rfl⟩)
        have w7 : List.take 1 (eFct g) ++ eAg s ++ List.drop 11 (eFct g) = eFct (g.1, s) := rfl
        have w8 : (eFct (g.1, s)).length = 11 := rfl
        have w9 : (eFct (g.1, s)).take 11 = eFct (g.1, s) := rfl
        have a2 : allLen 11 [eFct (g.1, s)] = true := rfl
        ((have hd := trivial; repeat' (first | ((first | apply GdK_st | apply GdK_sf | apply CondK_s) <;> intro hd <;> (try simp only [hd])) | simp (disch := first | assumption | omega | (simp only [nx] <;> omega) | fail) only [hd, hQr, hQn, c13_0, ↓YA, YB, YC, YE, YF, YZ, ↓reduceIte, Nat.reduceEqDiff, Nat.reduceAdd, Nat.reduceMul, Nat.reduceLeDiff, Int.reduceToNat, Int.reduceLE, Int.reduceLT, Int.reduceGT, Int.reduceGE, Int.reduceAdd, Int.reduceSub, Int.reduceNeg, Int.reduceBEq, Int.reduceBNe, hk1, hgk, q1, q2, q3, e9, e14, w1, w2, w3, w4, w5, w6, w7, w8, w9, et, a1, a2, hlen, n1, n2])) <;> (try (have hd_ : True := hd; clear hd_ hd)))
        exact ⟨(), by rw [hbt, ht2, hj]; simp, ⟨congrArg (AV.sl _) (show rF out ++ [eFct (g.1, s)] = _ by rw [hmp, hu, rF, rF, List.map_append]; rfl), congrArg AV.b (by rw [hmt, decide_eq_true he, Bool.or_true])⟩, (hG2.alloc.bump.bump.bump.alloc.setO hG2.n (fun p hp => by rw [List.mem_singleton.1 hp]; exact Nat.ne_of_lt mt)).put⟩
    ·(rintro s G2 ht2 hG2 hn2; try simp only [nx] at hn2)
     rw [List.take_length] at *
     cases c5 : metF ks l with
     | true =>
      have hv : fallF w m l ks a = (l.map (updF ks a), 0) := hF.trans ((if_neg (by rw [ht2]; simp)).trans (if_pos c5))
      rw [c5] at *
      ((have hd := trivial; repeat' (first | ((first | apply GdK_st | apply GdK_sf | apply CondK_s) <;> intro hd <;> (try simp only [hd])) | simp (disch := first | assumption | omega | (simp only [nx] <;> omega) | fail) only [hd, hQr, hQn, c13_0, ↓YA, YB, YC, YE, YF, YZ, ↓reduceIte, Nat.reduceEqDiff, Nat.reduceAdd, Nat.reduceMul, Nat.reduceLeDiff, Int.reduceToNat, Int.reduceLE, Int.reduceLT, Int.reduceGT, Int.reduceGE, Int.reduceAdd, Int.reduceSub, Int.reduceNeg, Int.reduceBEq, Int.reduceBNe])) <;> (try (have hd_ : True := hd; clear hd_ hd)))
      refine fin_pA (by rw [hv]; rfl) ?_
      exact hG2.extO hx2.alloc (by simp; omega)
     | false =>
      have hu := upd_none (a := a) c5
      have hF := hF.trans ((if_neg (by rw [ht2]; simp)).trans (if_neg (by rw [c5]; simp)))
      rw [c5, hu] at *
      have e14 : G2.get n14 = some (.cells (eFct (ks, a)) 38) := (hG2.g _ (by simp only [nx]; omega) (by simp; omega)).trans ((AHeap.get_alloc_lt l14).trans g14)
      have et : G2.get G1.next = some (.tok l.length 38 11) := hG2.o (_, _) (List.mem_singleton.2 rfl)
      by_cases c6 : (l.length : Int) ≥ m
      ·have d6 : decide ((l.length : Int) ≥ m) = true := decide_eq_true c6
       have hv : fallF w m l ks a = (l, 6) := hF.trans (if_pos c6)
       ((have hd := trivial; repeat' (first | ((first | apply GdK_st | apply GdK_sf | apply CondK_s) <;> intro hd <;> (try simp only [hd])) | simp (disch := first | assumption | omega | (simp only [nx] <;> omega) | fail) only [hd, hQr, hQn, c13_0, ↓YA, YB, YC, YE, YF, YZ, ↓reduceIte, Nat.reduceEqDiff, Nat.reduceAdd, Nat.reduceMul, Nat.reduceLeDiff, Int.reduceToNat, Int.reduceLE, Int.reduceLT, Int.reduceGT, Int.reduceGE, Int.reduceAdd, Int.reduceSub, Int.reduceNeg, Int.reduceBEq, Int.reduceBNe, d6, List.length_map])) <;> (try (have hd_ : True := hd; clear hd_ hd)))
       refine fin_pA (by rw [hv]; rfl) ?_
       exact hG2.extO hx2.alloc (by simp; omega)
      ·have d6 : decide ((l.length : Int) ≥ m) = false := decide_eq_false c6
       have hv : fallF w m l ks a = (sortF (l ++ [(ks, a)]), 0) := hF.trans (if_neg c6)
       have w1 : (eFct (ks, a)).length = 11 := rfl
       have w2 : (eFct (ks, a)).take 11 = eFct (ks, a) := rfl
       have a1 : allLen 11 (rF l) = true := allLen_rF _
       have a2 : allLen 11 [eFct (ks, a)] = true := rfl
       have n1 : l.length + 1 ≤ maxLen := by unfold maxLen; omega
       have n2 : (l.length + 1) * 104 ≤ 140737488355328 := by omega
       have hS : ∀ t H, Sound Try.prog 24 [.sl t (rF l ++ [eFct (ks, a)])] H (Pure H (.sl .no (rF (sortF (l ++ [(ks, a)]))))) := fun t H => by
        have := sort19_sound t (l ++ [(ks, a)]) H (by rw [List.length_append, List.length_singleton]; omega) (fun f hf => by
         rcases List.mem_append.1 hf with hf | hf
         ·exact Nat.le_trans (hk f hf) (by omega)
         ·rw [List.mem_singleton.1 hf]; exact Nat.le_trans hkl (by omega))
        rw [rF, List.map_append] at this; exact this
       ((have hd := trivial; repeat' (first | ((first | apply GdK_st | apply GdK_sf | apply CondK_s) <;> intro hd <;> (try simp only [hd])) | simp (disch := first | assumption | omega | (simp only [nx] <;> omega) | fail) only [hd, hQr, hQn, c13_0, ↓YA, YB, YC, YE, YF, YZ, ↓reduceIte, Nat.reduceEqDiff, Nat.reduceAdd, Nat.reduceMul, Nat.reduceLeDiff, Int.reduceToNat, Int.reduceLE, Int.reduceLT, Int.reduceGT, Int.reduceGE, Int.reduceAdd, Int.reduceSub, Int.reduceNeg, Int.reduceBEq, Int.reduceBNe, d6, List.length_map, e14, et, w1, w2, a1, a2, n1, n2])) <;> (try (have hd_ : True := hd; clear hd_ hd)))
       (refine CallK.use (hS _ _) ?_; rintro _ _ ⟨rfl, k1, rfl⟩)
       ((have hd := trivial; repeat' (first | ((first | apply GdK_st | apply GdK_sf | apply CondK_s) <;> intro hd <;> (try simp only [hd])) | simp (disch := first | assumption | omega | (simp only [nx] <;> omega) | fail) only [hd, hQr, hQn, c13_0, ↓YA, YB, YC, YE, YF, YZ, ↓reduceIte, Nat.reduceEqDiff, Nat.reduceAdd, Nat.reduceMul, Nat.reduceLeDiff, Int.reduceToNat, Int.reduceLE, Int.reduceLT, Int.reduceGT, Int.reduceGE, Int.reduceAdd, Int.reduceSub, Int.reduceNeg, Int.reduceBEq, Int.reduceBNe])) <;> (try (have hd_ : True := hd; clear hd_ hd)))
       refine fin_pA (by rw [hv]; rfl) ?_
       exact hG2.put.bump.extO hx2.alloc (by simp; omega)
 ·have d1 : ((ks.length : Int) != w) = true := by simp [c1]
  have hv : fallF w m l ks a = (l, 2) := by unfold fallF; rw [if_pos (.inl c1)]
  rw [hv]
  refine fn_soundQ hE cf13 (Nat.le_of_ble_eq_true rfl) fun Q hQr hQn => ?_
  ((have hd := trivial; repeat' (first | ((first | apply GdK_st | apply GdK_sf | apply CondK_s) <;> intro hd <;> (try simp only [hd])) | simp (disch := first | assumption | omega | (simp only [nx] <;> omega) | fail) only [hd, hQr, hQn, c13_0, ↓YA, YB, YC, YE, YF, YZ, ↓reduceIte, Nat.reduceEqDiff, Nat.reduceAdd, Nat.reduceMul, Nat.reduceLeDiff, Int.reduceToNat, Int.reduceLE, Int.reduceLT, Int.reduceGT, Int.reduceGE, Int.reduceAdd, Int.reduceSub, Int.reduceNeg, Int.reduceBEq, Int.reduceBNe, d1, List.length_map])) <;> (try (have hd_ : True := hd; clear hd_ hd)))
  exact fin_pA rfl
theorem toNat_lt : ∀ {l m : List Int}, (∀ x ∈ l, 0 ≤ x) → (∀ x ∈ m, 0 ≤ x) → (l.map Int.toNat < m.map Int.toNat ↔ l < m)
 | [], [], _, _ => by simp
 | [], _ :: _, _, _ => by simp
 | _ :: _, [], _, _ => by simp
 | a :: l, b :: m, hl, hm => by
  have ih := toNat_lt (fun x hx => hl x (List.mem_cons_of_mem _ hx)) (fun x hx => hm x (List.mem_cons_of_mem _ hx))
  have h1 := hl a (by simp)
  have h2 := hm b (by simp)
  rw [List.map_cons, List.map_cons, List.cons_lt_cons_iff, List.cons_lt_cons_iff, ih]
  constructor
  ·rintro (h | ⟨h, h'⟩)
   ·exact .inl (by omega)
   ·exact .inr ⟨by omega, h'⟩
  ·rintro (h | ⟨h, h'⟩)
   ·exact .inl (by omega)
   ·exact .inr ⟨by omega, h'⟩
def KeyIn (ks : List Int) : Prop := ∀ x ∈ ks, 0 ≤ x ∧ x < 9223372036854775808
theorem KeyIn.nat {ks : List Int} (h : KeyIn ks) : ∀ x ∈ ks.map Int.toNat, x < 18446744073709551616 := fun x hx => by
 obtain ⟨y, hy, rfl⟩ := List.mem_map.1 hx
 have := h y hy; omega
theorem nmB_lt {a b : List Int} (hl : a.length = b.length) (ha : KeyIn a) (hb : KeyIn b) : nmB a < nmB b ↔ a < b := by
 rw [nmB, nmB, rowB_lt_iff (by simp [hl]) ha.nat hb.nat, toNat_lt (fun x hx => (ha x hx).1) (fun x hx => (hb x hx).1)]
theorem nmB_inj {a b : List Int} (hl : a.length = b.length) (ha : KeyIn a) (hb : KeyIn b) (h : nmB a = nmB b) : a = b := by
 refine keys_eq (fun h1 => ?_) (fun h1 => ?_)
 ·rw [← nmB_lt hl ha hb, h] at h1; exact List.lt_irrefl _ h1
 ·rw [← nmB_lt hl.symm hb ha, h] at h1; exact List.lt_irrefl _ h1
theorem nmB_len {ks : List Int} : (nmB ks).length ≤ 9 * ks.length := by
 have := rowB_len (ks.map Int.toNat)
 rw [List.length_map] at this; exact this
structure TW (w : Int) (M : Tbl) : Prop where
 nd : (M.map (·.1)).Nodup
 ok : ∀ p ∈ M, p.1 = nmB p.2.1 ∧ (p.2.1.length : Int) = w ∧ KeyIn p.2.1 ∧ AgIn p.2.2
theorem aGet_some_mem : ∀ {M : Tbl} {s : List UInt8} {f : Fct}, aGet s M = some f → (s, f) ∈ M
 | (t, g) :: M, s, f, h => by
  rw [aGet] at h
  by_cases e : s = t
  ·rw [if_pos e] at h
   obtain rfl := Option.some.inj h
   subst e; simp
  ·rw [if_neg e] at h
   exact List.mem_cons_of_mem _ (aGet_some_mem h)
theorem rowsM_mem {M : Tbl} (hn : (M.map (·.1)).Nodup) (f : Fct) : f ∈ rowsM M ↔ ∃ s, aGet s M = some f := by
 rw [rowsM, List.mem_filterMap]
 constructor
 ·rintro ⟨s, _, h⟩; exact ⟨s, h⟩
 ·rintro ⟨s, h⟩
  exact ⟨s, keyS_mem.2 (List.mem_map_of_mem (f := (·.1)) (aGet_some_mem h)), h⟩
theorem keyS_rise {M : Tbl} (hn : (M.map (·.1)).Nodup) : (keyS M).Pairwise (· < ·) := by
 have h1 : (keyS M).Pairwise fun a b => decide (a ≤ b) = true := List.pairwise_mergeSort (fun a b c h h' => by
  simp only [decide_eq_true_eq] at *; exact List.le_trans h h') (fun a b => by
  simp only [Bool.or_eq_true, decide_eq_true_eq]; exact List.le_total a b) _
 have h2 : (keyS M).Pairwise (· ≠ ·) := (List.mergeSort_perm _ _).nodup_iff.2 hn
 refine (h1.and h2).imp fun {a b} h => ?_
 simp only [decide_eq_true_eq] at h
 rcases List.le_iff_lt_or_eq.mp h.1 with h1 | h1
 ·exact h1
 ·exact absurd h1 h.2
theorem TW.at {w : Int} {M : Tbl} (h : TW w M) {s : List UInt8} {f : Fct} (hg : aGet s M = some f) : s = nmB f.1 ∧ (f.1.length : Int) = w ∧ KeyIn f.1 ∧ AgIn f.2 := h.ok _ (aGet_some_mem hg)
theorem TW.rise {w : Int} {M : Tbl} (h : TW w M) : RiseF (rowsM M) := by
 rw [RiseF, rowsM, List.pairwise_filterMap]
 refine (keyS_rise h.nd).imp fun {a b} hab f hf g hg => ?_
 obtain ⟨e1, l1, k1, _⟩ := h.at hf
 obtain ⟨e2, l2, k2, _⟩ := h.at hg
 rw [← nmB_lt (by omega) k1 k2, ← e1, ← e2]; exact hab
theorem rowsM_len (M : Tbl) : (rowsM M).length = M.length := by
 rw [← rowsK_all, rowsK_len _ (Nat.le_refl _), keyS_len]
theorem rise_ext : ∀ {l m : List Fct}, RiseF l → RiseF m → (∀ x, x ∈ l ↔ x ∈ m) → l = m
 | [], [], _, _, _ => rfl
 | [], y :: m, _, _, h => by have := (h y).2 (by simp); simp at this
 | x :: l, [], _, _, h => by have := (h x).1 (by simp); simp at this
 | x :: l, y :: m, hl, hm, h => by
  have hl' := List.pairwise_cons.1 hl
  have hm' := List.pairwise_cons.1 hm
  have e : x = y := by
   rcases List.mem_cons.1 ((h x).1 (by simp)) with e | hx
   ·exact e
   ·rcases List.mem_cons.1 ((h y).2 (by simp)) with e | hy
    ·exact e.symm
    ·exact absurd (hm'.1 _ hx) (List.lt_asymm (hl'.1 _ hy))
  subst e
  rw [rise_ext hl'.2 hm'.2 fun z => ?_]
  constructor
  ·intro hz
   rcases List.mem_cons.1 ((h z).1 (List.mem_cons_of_mem _ hz)) with e | hz'
   ·subst e; exact absurd (hl'.1 _ hz) (List.lt_irrefl _)
   ·exact hz'
  ·intro hz
   rcases List.mem_cons.1 ((h z).2 (List.mem_cons_of_mem _ hz)) with e | hz'
   ·subst e; exact absurd (hm'.1 _ hz) (List.lt_irrefl _)
   ·exact hz'
theorem aSet_keys (s : List UInt8) (f : Fct) : ∀ M : Tbl, (aSet s f M).map (·.1) = if s ∈ M.map (·.1) then M.map (·.1) else M.map (·.1) ++ [s]
 | [] => by simp [aSet]
 | (t, g) :: M => by
  have ih := aSet_keys s f M
  unfold aSet
  by_cases e : s = t
  ·subst e; simp
  ·rw [if_neg e, List.map_cons, ih]
   by_cases e2 : s ∈ M.map (·.1)
   ·rw [if_pos e2, if_pos (by simp [e2])]; rfl
   ·rw [if_neg e2, if_neg (by
     rw [List.map_cons, List.mem_cons]
     rintro (h | h)
     ·exact e h
     ·exact e2 h)]; rfl
theorem aSet_mem (s : List UInt8) (f : Fct) : ∀ (M : Tbl) (p : List UInt8 × Fct), p ∈ aSet s f M → p = (s, f) ∨ p ∈ M
 | [], p, h => by simpa [aSet] using h
 | (t, g) :: M, p, h => by
  unfold aSet at h
  by_cases e : s = t
  ·rw [if_pos e] at h
   rcases List.mem_cons.1 h with h | h
   ·exact .inl h
   ·exact .inr (List.mem_cons_of_mem _ h)
  ·rw [if_neg e] at h
   rcases List.mem_cons.1 h with h | h
   ·exact .inr (by rw [h]; simp)
   ·rcases aSet_mem s f M p h with h | h
    ·exact .inl h
    ·exact .inr (List.mem_cons_of_mem _ h)
theorem TW.set {w : Int} {M : Tbl} (h : TW w M) {ks : List Int} {a : Ag} (hl : (ks.length : Int) = w) (hk : KeyIn ks) (ha : AgIn a) : TW w (aSet (nmB ks) (ks, a) M) := by
 refine ⟨?_, fun p hp => ?_⟩
 ·rw [aSet_keys]
  split
  ·exact h.nd
  ·rename_i hn
   rw [List.nodup_append]
   refine ⟨h.nd, by simp, fun x hx y hy => ?_⟩
   rw [List.mem_singleton.1 hy]
   rintro rfl
   exact hn hx
 ·rcases aSet_mem _ _ _ _ hp with rfl | hp
  ·exact ⟨rfl, hl, hk, ha⟩
  ·exact h.ok p hp
theorem joinA_in {a b c : Ag} (ha : AgIn a) (hb : AgIn b) (h : joinA a b = some c) : AgIn c := by
 unfold joinA at h
 split at h
 ·exact Option.some.inj h ▸ hb
 split at h
 ·exact Option.some.inj h ▸ ha
 split at h
 ·cases h
 split at h
 ·cases h
 split at h
 ·cases h
 split at h
 ·cases h
 rename_i h1 h2 h3 h4
 simp only [fitB, decide_eq_false_iff_not, Decidable.not_not] at h1 h2 h3 h4
 obtain rfl := Option.some.inj h
 refine ⟨h1, ?_, ?_, ?_⟩ <;> simp [joinK, h2, h3, h4]
theorem TW.rows_set {w : Int} {M : Tbl} (h : TW w M) {ks : List Int} {a : Ag} (hl : (ks.length : Int) = w) (hk : KeyIn ks) (ha : AgIn a) (f : Fct) :
  f ∈ rowsM (aSet (nmB ks) (ks, a) M) ↔ f = (ks, a) ∨ (f ∈ rowsM M ∧ f.1 ≠ ks) := by
 rw [rowsM_mem (h.set hl hk ha).nd, rowsM_mem h.nd]
 constructor
 ·rintro ⟨s, hs⟩
  rw [aGet_set] at hs
  by_cases e : s = nmB ks
  ·rw [if_pos e] at hs
   exact .inl (Option.some.inj hs).symm
  ·rw [if_neg e] at hs
   refine .inr ⟨⟨s, hs⟩, fun e2 => e ?_⟩
   rw [(h.at hs).1, e2]
 ·rintro (rfl | ⟨⟨s, hs⟩, hne⟩)
  ·exact ⟨nmB ks, by rw [aGet_set, if_pos rfl]⟩
  ·refine ⟨s, ?_⟩
   obtain ⟨e1, l1, k1, _⟩ := h.at hs
   rw [aGet_set, if_neg, hs]
   intro e2
   exact hne (nmB_inj (by omega) k1 hk (e1.symm.trans e2))
theorem TW.met {w : Int} {M : Tbl} (h : TW w M) {ks : List Int} (hl : (ks.length : Int) = w) (hk : KeyIn ks) {f : Fct} : f ∈ rowsM M ∧ f.1 = ks ↔ aGet (nmB ks) M = some f := by
 rw [rowsM_mem h.nd]
 constructor
 ·rintro ⟨⟨s, hs⟩, rfl⟩
  rw [← (h.at hs).1]; exact hs
 ·intro hs
  obtain ⟨e1, l1, k1, _⟩ := h.at hs
  exact ⟨⟨_, hs⟩, (nmB_inj (by omega) hk k1 e1).symm⟩
theorem TW.none {w : Int} {M : Tbl} (h : TW w M) {ks : List Int} (hl : (ks.length : Int) = w) (hk : KeyIn ks) (hg : aGet (nmB ks) M = none) : ∀ f ∈ rowsM M, f.1 ≠ ks := fun f hf e => by
 have := (h.met hl hk).1 ⟨hf, e⟩
 rw [hg] at this; cases this
theorem metF_no {ks : List Int} {l : List Fct} (h : ∀ f ∈ l, f.1 ≠ ks) : metF ks l = false := by
 rw [metF, List.any_eq_false]
 intro x hx
 simpa using h x hx
theorem badF_no {ks : List Int} {a : Ag} {l : List Fct} (h : ∀ f ∈ l, f.1 ≠ ks) : badF ks a l = false := by
 rw [badF, List.any_eq_false]
 intro x hx
 simp [h x hx]
theorem metF_yes {ks : List Int} {l : List Fct} {f : Fct} (h : f ∈ l) (h1 : f.1 = ks) : metF ks l = true := by
 rw [metF, List.any_eq_true]
 exact ⟨f, h, by simpa using h1⟩
theorem updF_key (ks : List Int) (a : Ag) (f : Fct) : (updF ks a f).1 = f.1 := by unfold updF; split <;> rfl
theorem upd_rise {ks : List Int} {a : Ag} {l : List Fct} (h : RiseF l) : RiseF (l.map (updF ks a)) := by
 rw [RiseF, List.pairwise_map]
 refine h.imp fun {x y} hxy => ?_
 rw [updF_key, updF_key]; exact hxy
theorem put_fall {w m : Int} {M : Tbl} {ks : List Int} {a : Ag} (h : TW w M) (hks : ∀ x ∈ ks, x < 9223372036854775808) (ha : AgIn a) :
  TW w (putM w m M ks a).1 ∧ fallF w m (rowsM M) ks a = (rowsM (putM w m M ks a).1, (putM w m M ks a).2) := by
 unfold putM fallF
 by_cases c : (ks.length : Int) ≠ w ∨ (ks.any fun k => decide (k < 0)) = true ∨ a.n < 1
 ·have c' : (ks.length : Int) ≠ w ∨ a.n < 1 ∨ (ks.any fun k => decide (k < 0)) = true := by
   rcases c with c | c | c
   ·exact .inl c
   ·exact .inr (.inr c)
   ·exact .inr (.inl c)
  rw [if_pos c, if_pos c']
  exact ⟨h, rfl⟩
 ·have c' : ¬ ((ks.length : Int) ≠ w ∨ a.n < 1 ∨ (ks.any fun k => decide (k < 0)) = true) := fun d => c (by
   rcases d with d | d | d
   ·exact .inl d
   ·exact .inr (.inr d)
   ·exact .inr (.inl d))
  rw [if_neg c, if_neg c']
  have hl : (ks.length : Int) = w := Decidable.byContradiction fun e => c (.inl e)
  have hk : KeyIn ks := fun x hx => by
   have : (ks.any fun k => decide (k < 0)) = false := Bool.eq_false_iff.2 fun e => c (.inr (.inl e))
   have := List.any_eq_false.1 this x hx
   simp at this
   exact ⟨this, hks x hx⟩
  cases hg : aGet (nmB ks) M with
  | none =>
   have hno := h.none hl hk hg
   simp only
   rw [badF_no hno, metF_no hno, rowsM_len]
   simp only [Bool.false_eq_true, if_false]
   by_cases c2 : (M.length : Int) ≥ m
   ·rw [if_pos c2, if_pos c2]; exact ⟨h, rfl⟩
   ·rw [if_neg c2, if_neg c2]
    refine ⟨h.set hl hk ha, ?_⟩
    rw [sortF_one h.rise]
    refine Prod.ext (rise_ext (insF_rise h.rise hno) (h.set hl hk ha).rise fun x => ?_) rfl
    rw [insF_mem, h.rows_set hl hk ha]
    constructor
    ·rintro (h1 | h1)
     ·exact .inl h1
     ·exact .inr ⟨h1, hno x h1⟩
    ·rintro (h1 | h1)
     ·exact .inl h1
     ·exact .inr h1.1
  | some f =>
   obtain ⟨hf1, hf2⟩ := (h.met hl hk).2 hg
   have hin := (h.at hg).2.2.2
   have huni : ∀ g ∈ rowsM M, g.1 = ks → g = f := fun g hg1 hg2 => by
    have := (h.met hl hk).1 ⟨hg1, hg2⟩
    rw [hg] at this
    exact (Option.some.inj this).symm
   simp only
   cases hj : joinA f.2 a with
   | none =>
    have hb : badF ks a (rowsM M) = true := by
     rw [badF, List.any_eq_true]
     exact ⟨f, hf1, by simp [hf2, hj]⟩
    rw [if_pos hb]
    exact ⟨h, rfl⟩
   | some s =>
    have hb : badF ks a (rowsM M) = false := by
     rw [badF, List.any_eq_false]
     intro g hg1
     by_cases e : g.1 = ks
     ·rw [huni g hg1 e]; simp [hj]
     ·simp [e]
    rw [hb, metF_yes hf1 hf2]
    simp only [Bool.false_eq_true, if_false, if_true]
    have hs := joinA_in hin ha hj
    refine ⟨h.set hl hk hs, ?_⟩
    refine Prod.ext (rise_ext (upd_rise h.rise) (h.set hl hk hs).rise fun x => ?_) rfl
    rw [h.rows_set hl hk hs, List.mem_map]
    have hu : updF ks a f = (ks, s) := by unfold updF; rw [if_pos hf2, hj, hf2]; rfl
    constructor
    ·rintro ⟨g, hg1, rfl⟩
     by_cases e : g.1 = ks
     ·rw [huni g hg1 e, hu]; exact .inl rfl
     ·refine .inr ?_
      have : updF ks a g = g := by unfold updF; rw [if_neg e]
      rw [this]; exact ⟨hg1, e⟩
    ·rintro (rfl | ⟨h1, h2⟩)
     ·exact ⟨f, hf1, hu⟩
     ·exact ⟨x, h1, by unfold updF; rw [if_neg h2]⟩
theorem put_len {w m : Int} {M : Tbl} {ks : List Int} {a : Ag} : (putM w m M ks a).1.length ≤ M.length + 1 := by
 have h : ∀ s f, (aSet s f M).length ≤ M.length + 1 := fun s f => by rw [aSet_len]; split <;> omega
 unfold putM
 split
 ·exact Nat.le_succ _
 ·cases aGet (nmB ks) M with
  | none =>
   simp only
   split
   ·exact Nat.le_succ _
   ·exact h _ _
  | some f =>
   simp only
   cases joinA f.2 a with
   | none => exact Nat.le_succ _
   | some s => exact h _ _
theorem TW.nil (w : Int) : TW w [] := ⟨by simp, fun p hp => by cases hp⟩
theorem TW.len_le {w : Int} {M : Tbl} (h : TW w M) (hw : w ≤ 16) : ∀ p ∈ M, p.2.1.length ≤ 16 := fun p hp => by have := (h.ok p hp).2.1; omega
theorem TW.key_le {w : Int} {M : Tbl} (h : TW w M) (hw : w ≤ 16) : ∀ p ∈ M, p.1.length ≤ 1000 := fun p hp => by
 have h1 := h.ok p hp
 have h2 := nmB_len (ks := p.2.1)
 rw [h1.1]; omega
theorem TW.row_at {w : Int} {M : Tbl} (h : TW w M) : ∀ f ∈ rowsM M, (f.1.length : Int) = w ∧ AgIn f.2 := fun f hf => by
 obtain ⟨s, hs⟩ := (rowsM_mem h.nd f).1 hf
 obtain ⟨_, h1, _, h2⟩ := h.at hs
 exact ⟨h1, h2⟩
theorem TW.row_le {w : Int} {M : Tbl} (h : TW w M) (hw : w ≤ 16) (n : Nat) (hn : 16 ≤ n) : ∀ f ∈ rowsM M, f.1.length ≤ n := fun f hf => by have := (h.row_at f hf).1; omega
theorem same_refl (t u : Tok) {w : Int} {M : Tbl} (h : TW w M) (hw : w ≤ 16) (hl : M.length ≤ 1000000) (H : AHeap) : Sound Try.prog 11 [.sl t (rF (rowsM M)), .sl u (rF (rowsM M))] H (Pure H (.b true)) := by
 have := same19_sound t u (rowsM M) (rowsM M) H (by rw [rowsM_len]; exact hl) (h.row_le hw _ (by omega)) (h.row_le hw _ (by omega))
 rwa [decide_eq_true rfl] at this
@[simp] theorem rowsM_nil : rowsM [] = [] := by simp [rowsM, keyS]
theorem HX.thnO {id : Nat} {o o' : AObj} {H H1 G : AHeap} (h : HX [(id, o)] H H1) (k : HX [(id, o')] H1 G) : HX [(id, o')] H G :=
 ⟨Nat.le_trans h.n k.n, k.o, fun i hi hn => (k.g i (Nat.lt_of_lt_of_le hi h.n) (by simpa using hn)).trans (h.g i hi (by simpa using hn))⟩
set_option maxHeartbeats 4000000 in
theorem plays_sound (t : Tok) (w m : Int) (l : List Fct) (H : AHeap) (hl : ∀ f ∈ l, FctIn f) : Sound Try.prog 4 [.i w, .i m, .sl t (rF l)] H (Pure H (.b true)) := by
  have hfew := fun H => few19_sound t l 60 H (by omega)
  by_cases c0 : w < 0 ∨ 16 < w ∨ m < 0 ∨ 4000 < m
  · have hnew := fun H => new_bad w m c0 H
    refine fn_soundQ hE cf4 (Nat.le_of_ble_eq_true rfl) fun Q hQr hQn => ?_
    ((have hd := trivial; repeat' (first | ((first | apply GdK_st | apply GdK_sf | apply CondK_s) <;> intro hd <;> (try simp only [hd])) | simp (disch := first | assumption | omega | (simp only [nx] <;> omega) | fail) only [hd, hQr, hQn, c4_0, ↓YA, YB, YC, YE, YF, YZ, ↓reduceIte, Nat.reduceEqDiff, Nat.reduceAdd, Nat.reduceMul, Nat.reduceLeDiff, Int.reduceToNat, Int.reduceLE, Int.reduceLT, Int.reduceGT, Int.reduceGE, Int.reduceAdd, Int.reduceSub, Int.reduceNeg, Int.reduceBEq, Int.reduceBNe])) <;> (try (have hd_ : True := hd; clear hd_ hd)))
    refine CallK.use (hfew _) ?_
    rintro _ G1 ⟨hx1, b, rfl, hb⟩
    have hx := hx1.ext
    cases b with
    | false =>
      ((have hd := trivial; repeat' (first | ((first | apply GdK_st | apply GdK_sf | apply CondK_s) <;> intro hd <;> (try simp only [hd])) | simp (disch := first | assumption | omega | (simp only [nx] <;> omega) | fail) only [hd, hQr, hQn, c4_0, ↓YA, YB, YC, YE, YF, YZ, ↓reduceIte, Nat.reduceEqDiff, Nat.reduceAdd, Nat.reduceMul, Nat.reduceLeDiff, Int.reduceToNat, Int.reduceLE, Int.reduceLT, Int.reduceGT, Int.reduceGE, Int.reduceAdd, Int.reduceSub, Int.reduceNeg, Int.reduceBEq, Int.reduceBNe])) <;> (try (have hd_ : True := hd; clear hd_ hd)))
      (refine CallK.use (awake_sound _) ?_; rintro _ _ ⟨rfl, k1, rfl⟩)
      ((have hd := trivial; repeat' (first | ((first | apply GdK_st | apply GdK_sf | apply CondK_s) <;> intro hd <;> (try simp only [hd])) | simp (disch := first | assumption | omega | (simp only [nx] <;> omega) | fail) only [hd, hQr, hQn, c4_0, ↓YA, YB, YC, YE, YF, YZ, ↓reduceIte, Nat.reduceEqDiff, Nat.reduceAdd, Nat.reduceMul, Nat.reduceLeDiff, Int.reduceToNat, Int.reduceLE, Int.reduceLT, Int.reduceGT, Int.reduceGE, Int.reduceAdd, Int.reduceSub, Int.reduceNeg, Int.reduceBEq, Int.reduceBNe])) <;> (try (have hd_ : True := hd; clear hd_ hd)))
      refine fin_bA (by rfl)
    | true =>
      ((have hd := trivial; repeat' (first | ((first | apply GdK_st | apply GdK_sf | apply CondK_s) <;> intro hd <;> (try simp only [hd])) | simp (disch := first | assumption | omega | (simp only [nx] <;> omega) | fail) only [hd, hQr, hQn, c4_0, ↓YA, YB, YC, YE, YF, YZ, ↓reduceIte, Nat.reduceEqDiff, Nat.reduceAdd, Nat.reduceMul, Nat.reduceLeDiff, Int.reduceToNat, Int.reduceLE, Int.reduceLT, Int.reduceGT, Int.reduceGE, Int.reduceAdd, Int.reduceSub, Int.reduceNeg, Int.reduceBEq, Int.reduceBNe])) <;> (try (have hd_ : True := hd; clear hd_ hd)))
      (refine CallK.use (hnew _) ?_; rintro _ _ ⟨rfl, k1, rfl⟩)
      ((have hd := trivial; repeat' (first | ((first | apply GdK_st | apply GdK_sf | apply CondK_s) <;> intro hd <;> (try simp only [hd])) | simp (disch := first | assumption | omega | (simp only [nx] <;> omega) | fail) only [hd, hQr, hQn, c4_0, ↓YA, YB, YC, YE, YF, YZ, ↓reduceIte, Nat.reduceEqDiff, Nat.reduceAdd, Nat.reduceMul, Nat.reduceLeDiff, Int.reduceToNat, Int.reduceLE, Int.reduceLT, Int.reduceGT, Int.reduceGE, Int.reduceAdd, Int.reduceSub, Int.reduceNeg, Int.reduceBEq, Int.reduceBNe])) <;> (try (have hd_ : True := hd; clear hd_ hd)))
      all_goals first
        | (exfalso; simp only [decide_eq_false_iff_not] at *; omega)
        | ((refine CallK.use (awake_sound _) ?_; rintro _ _ ⟨rfl, k2, rfl⟩)
           ((have hd := trivial; repeat' (first | ((first | apply GdK_st | apply GdK_sf | apply CondK_s) <;> intro hd <;> (try simp only [hd])) | simp (disch := first | assumption | omega | (simp only [nx] <;> omega) | fail) only [hd, hQr, hQn, c4_0, ↓YA, YB, YC, YE, YF, YZ, ↓reduceIte, Nat.reduceEqDiff, Nat.reduceAdd, Nat.reduceMul, Nat.reduceLeDiff, Int.reduceToNat, Int.reduceLE, Int.reduceLT, Int.reduceGT, Int.reduceGE, Int.reduceAdd, Int.reduceSub, Int.reduceNeg, Int.reduceBEq, Int.reduceBNe])) <;> (try (have hd_ : True := hd; clear hd_ hd)))
           refine fin_bA (by rfl))
  · have hnew := fun H => new_good w m (by omega) H
    have d1 : decide (w < 0) = false := decide_eq_false (by omega)
    have d2 : decide (w > 16) = false := decide_eq_false (by omega)
    have d3 : decide (m < 0) = false := decide_eq_false (by omega)
    have d4 : decide (m > 4000) = false := decide_eq_false (by omega)
    refine fn_soundQ hE cf4 (Nat.le_of_ble_eq_true rfl) fun Q hQr hQn => ?_
    ((have hd := trivial; repeat' (first | ((first | apply GdK_st | apply GdK_sf | apply CondK_s) <;> intro hd <;> (try simp only [hd])) | simp (disch := first | assumption | omega | (simp only [nx] <;> omega) | fail) only [hd, hQr, hQn, c4_0, ↓YA, YB, YC, YE, YF, YZ, ↓reduceIte, Nat.reduceEqDiff, Nat.reduceAdd, Nat.reduceMul, Nat.reduceLeDiff, Int.reduceToNat, Int.reduceLE, Int.reduceLT, Int.reduceGT, Int.reduceGE, Int.reduceAdd, Int.reduceSub, Int.reduceNeg, Int.reduceBEq, Int.reduceBNe])) <;> (try (have hd_ : True := hd; clear hd_ hd)))
    refine CallK.use (hfew _) ?_
    rintro _ G1 ⟨hx1, b, rfl, hb⟩
    have hx := hx1.ext
    cases b with
    | false =>
      ((have hd := trivial; repeat' (first | ((first | apply GdK_st | apply GdK_sf | apply CondK_s) <;> intro hd <;> (try simp only [hd])) | simp (disch := first | assumption | omega | (simp only [nx] <;> omega) | fail) only [hd, hQr, hQn, c4_0, ↓YA, YB, YC, YE, YF, YZ, ↓reduceIte, Nat.reduceEqDiff, Nat.reduceAdd, Nat.reduceMul, Nat.reduceLeDiff, Int.reduceToNat, Int.reduceLE, Int.reduceLT, Int.reduceGT, Int.reduceGE, Int.reduceAdd, Int.reduceSub, Int.reduceNeg, Int.reduceBEq, Int.reduceBNe])) <;> (try (have hd_ : True := hd; clear hd_ hd)))
      (refine CallK.use (awake_sound _) ?_; rintro _ _ ⟨rfl, k1, rfl⟩)
      ((have hd := trivial; repeat' (first | ((first | apply GdK_st | apply GdK_sf | apply CondK_s) <;> intro hd <;> (try simp only [hd])) | simp (disch := first | assumption | omega | (simp only [nx] <;> omega) | fail) only [hd, hQr, hQn, c4_0, ↓YA, YB, YC, YE, YF, YZ, ↓reduceIte, Nat.reduceEqDiff, Nat.reduceAdd, Nat.reduceMul, Nat.reduceLeDiff, Int.reduceToNat, Int.reduceLE, Int.reduceLT, Int.reduceGT, Int.reduceGE, Int.reduceAdd, Int.reduceSub, Int.reduceNeg, Int.reduceBEq, Int.reduceBNe])) <;> (try (have hd_ : True := hd; clear hd_ hd)))
      refine fin_bA (by rfl)
    | true =>
      have hlen : l.length ≤ 60 := hb rfl
      ((have hd := trivial; repeat' (first | ((first | apply GdK_st | apply GdK_sf | apply CondK_s) <;> intro hd <;> (try simp only [hd])) | simp (disch := first | assumption | omega | (simp only [nx] <;> omega) | fail) only [hd, hQr, hQn, c4_0, ↓YA, YB, YC, YE, YF, YZ, ↓reduceIte, Nat.reduceEqDiff, Nat.reduceAdd, Nat.reduceMul, Nat.reduceLeDiff, Int.reduceToNat, Int.reduceLE, Int.reduceLT, Int.reduceGT, Int.reduceGE, Int.reduceAdd, Int.reduceSub, Int.reduceNeg, Int.reduceBEq, Int.reduceBNe])) <;> (try (have hd_ : True := hd; clear hd_ hd)))
      refine CallK.use (hnew _) ?_
      rintro _ _ ⟨rfl, rfl⟩
      ((have hd := trivial; repeat' (first | ((first | apply GdK_st | apply GdK_sf | apply CondK_s) <;> intro hd <;> (try simp only [hd])) | simp (disch := first | assumption | omega | (simp only [nx] <;> omega) | fail) only [hd, hQr, hQn, c4_0, ↓YA, YB, YC, YE, YF, YZ, ↓reduceIte, Nat.reduceEqDiff, Nat.reduceAdd, Nat.reduceMul, Nat.reduceLeDiff, Int.reduceToNat, Int.reduceLE, Int.reduceLT, Int.reduceGT, Int.reduceGE, Int.reduceAdd, Int.reduceSub, Int.reduceNeg, Int.reduceBEq, Int.reduceBNe, d1, d2, d3, d4, List.length_map])) <;> (try (have hd_ : True := hd; clear hd_ hd)))
      have gm : ((G1.alloc (.map (.one .str) [] false)).alloc (tab w m G1.next)).get G1.next = some (eTbl []) := (AHeap.get_alloc_lt (AHeap.lt AHeap.get_alloc_self)).trans AHeap.get_alloc_self
      have gt : ((G1.alloc (.map (.one .str) [] false)).alloc (tab w m G1.next)).get (G1.next + 1) = some (tab w m G1.next) := AHeap.get_alloc_self (H := G1.alloc _)
      have hx2 : AHeap.Ext H ((G1.alloc (.map (.one .str) [] false)).alloc (tab w m G1.next)) := hx.alloc.alloc
      have hn1 : H.next ≤ G1.next := hx1.n
      generalize G1.next = mid at *
      generalize (G1.alloc (.map (.one .str) [] false)).alloc (tab w m mid) = G0 at *
      refine AW_for [0, 1, 7, 8, 47, 48] (σ := Tok × Tbl) (fun (k : Nat) s => TW w s.2 ∧ s.2.length ≤ k) (fun k s => [(9, .sl s.1 (rF (rowsM s.2)))]) (fun k s => [(mid, eTbl s.2)]) (Tok.full, []) (GStep.refl _ _) (by simp only [keep_nil, keep_cons, Fr.put, Fr.get, ↓reduceIte, Nat.reduceEqDiff]; rfl) (by intro k s; rfl) (by intro k s; rfl) (by rfl) (by unfold maxLen; omega) ?_ (by simp only [FrL_nil, FrL_cons, Fr.put, Fr.get, ↓reduceIte, Nat.reduceEqDiff, and_self] <;> simp) ?_ ?_ ?_
      · exact ⟨TW.nil w, Nat.le_refl _⟩
      · rw [ObjL_cons]
        exact ⟨gm, by simp [ObjL]⟩
      · (rintro k ⟨tk, M⟩ G hk1 ⟨hT, hML⟩ hG hn2; try simp only [nx] at hn2)
        simp only at hT hML hG
        have hw16 : w ≤ 16 := by omega
        have hf := hl _ (List.getElem_mem hk1)
        have e1 : G.get (mid + 1) = some (tab w m mid) := (hG.g _ (AHeap.lt gt) (by simp)).trans gt
        have em : G.get mid = some (eTbl M) := hG.o (_, _) (List.mem_singleton.2 rfl)
        have hks : ∀ x ∈ l[k].1, x < 9223372036854775808 := fun x hx => by have := (hf.k x hx).2; omega
        have hpf := put_fall (m := m) hT hks hf.a
        have hpl := put_len (w := w) (m := m) (M := M) (ks := l[k].1) (a := l[k].2)
        have hFa : ∀ H, Sound Try.prog 13 [.sl tk (rF (rowsM M)), .i w, .i m, .sl .no (rI l[k].1), .agg (eAg l[k].2)] H (Pure H (fallV (fallF w m (rowsM M) l[k].1 l[k].2))) := fun H =>
          fall_sound tk w m (rowsM M) _ _ H hw16 (by rw [rowsM_len]; omega) (hT.row_le hw16 _ (by omega)) hf.a (fun f hf => (hT.row_at f hf).2)
        have hPu : ∀ G, G.get (mid + 1) = some (tab w m mid) → G.get mid = some (eTbl M) → Sound Try.prog 10 [.ptr (mid + 1) 0, .sl .no (rI l[k].1), .agg (eAg l[k].2)] G (PutQ mid (putM w m M l[k].1 l[k].2) G) := fun G h1 h2 =>
          put_tab .no h1 h2 (by omega) hw16 hks hf.a (fun f hf => (hT.at hf).2.2.2)
        rw [hpf.2] at hFa
        have hT' := hpf.1
        clear hpf
        generalize putM w m M l[k].1 l[k].2 = q at *
        obtain ⟨M', n'⟩ := q
        simp only [fallV] at hFa hT' hpl
        have hPu : ∀ G, G.get (mid + 1) = some (tab w m mid) → G.get mid = some (eTbl M) → Sound Try.prog 10 [.ptr (mid + 1) 0, .sl .no (rI l[k].1), .agg (eAg l[k].2)] G (fun r H' => r = .i n' ∧ HX [(mid, eTbl M')] G H') := hPu
        have hLe : ∀ G, G.get (mid + 1) = some (tab w m mid) → G.get mid = some (eTbl M') → Sound Try.prog 14 [.ptr (mid + 1) 0] G (Pure G (.i (M'.length : Int))) := fun G h1 h2 => by
          have := len_some _ _ _ _ _ _ G h1 h2
          rwa [eMap, List.length_map] at this
        have hRo : ∀ G, G.get (mid + 1) = some (tab w m mid) → G.get mid = some (eTbl M') → Sound Try.prog 12 [.ptr (mid + 1) 0] G (Pure G (.sl .no (rF (rowsM M')))) := fun G h1 h2 =>
          rows_tab h1 h2 (by omega) (hT'.key_le hw16) hT'.nd (hT'.len_le hw16)
        have hSa := fun H => same_refl .no .no hT' hw16 (by omega) H
        have dn : (n' != n') = false := bne_self_eq_false' ..
        have dl : ((M'.length : Int) != (M'.length : Int)) = false := bne_self_eq_false' ..
        have hrl := rowsM_len M'
        have q1 : (eFct l[k]).length = 11 := rfl
        have q2 : (eFct l[k]).take 11 = eFct l[k] := rfl
        have q0 : (eFct l[k])[0]? = some (.sl .no (rI l[k].1)) := rfl
        have q3 : ((eFct l[k]).drop 1).take 10 = eAg l[k].2 := rfl
        generalize hgk : l[k] = f at *
        have e1' : (G.alloc (.cells (eFct f) 38)).get (mid + 1) = some (tab w m mid) := (AHeap.get_alloc_lt (AHeap.lt e1)).trans e1
        have em' : (G.alloc (.cells (eFct f) 38)).get mid = some (eTbl M) := (AHeap.get_alloc_lt (AHeap.lt em)).trans em
        ((have hd := trivial; repeat' (first | ((first | apply GdK_st | apply GdK_sf | apply CondK_s) <;> intro hd <;> (try simp only [hd])) | simp (disch := first | assumption | omega | (simp only [nx] <;> omega) | fail) only [hd, hQr, hQn, c4_0, ↓YA, YB, YC, YE, YF, YZ, ↓reduceIte, Nat.reduceEqDiff, Nat.reduceAdd, Nat.reduceMul, Nat.reduceLeDiff, Int.reduceToNat, Int.reduceLE, Int.reduceLT, Int.reduceGT, Int.reduceGE, Int.reduceAdd, Int.reduceSub, Int.reduceNeg, Int.reduceBEq, Int.reduceBNe, hk1, hgk, q0, q1, q2, q3])) <;> (try (have hd_ : True := hd; clear hd_ hd)))
        (refine CallK.use (hFa _) ?_; rintro _ _ ⟨rfl, k1, rfl⟩)
        ((have hd := trivial; repeat' (first | ((first | apply GdK_st | apply GdK_sf | apply CondK_s) <;> intro hd <;> (try simp only [hd])) | simp (disch := first | assumption | omega | (simp only [nx] <;> omega) | fail) only [hd, hQr, hQn, c4_0, ↓YA, YB, YC, YE, YF, YZ, ↓reduceIte, Nat.reduceEqDiff, Nat.reduceAdd, Nat.reduceMul, Nat.reduceLeDiff, Int.reduceToNat, Int.reduceLE, Int.reduceLT, Int.reduceGT, Int.reduceGE, Int.reduceAdd, Int.reduceSub, Int.reduceNeg, Int.reduceBEq, Int.reduceBNe, hk1, hgk, q0, q1, q2, q3])) <;> (try (have hd_ : True := hd; clear hd_ hd)))
        refine CallK.use (hPu _ e1' em') ?_
        rintro _ G2 ⟨rfl, hx5⟩
        have g2 : G2.get (mid + 1) = some (tab w m mid) := (hx5.g _ (AHeap.lt e1') (by simp)).trans e1'
        have gm2 : G2.get mid = some (eTbl M') := hx5.o (_, _) (List.mem_singleton.2 rfl)
        ((have hd := trivial; repeat' (first | ((first | apply GdK_st | apply GdK_sf | apply CondK_s) <;> intro hd <;> (try simp only [hd])) | simp (disch := first | assumption | omega | (simp only [nx] <;> omega) | fail) only [hd, hQr, hQn, c4_0, ↓YA, YB, YC, YE, YF, YZ, ↓reduceIte, Nat.reduceEqDiff, Nat.reduceAdd, Nat.reduceMul, Nat.reduceLeDiff, Int.reduceToNat, Int.reduceLE, Int.reduceLT, Int.reduceGT, Int.reduceGE, Int.reduceAdd, Int.reduceSub, Int.reduceNeg, Int.reduceBEq, Int.reduceBNe, dn])) <;> (try (have hd_ : True := hd; clear hd_ hd)))
        (refine CallK.use (hLe _ g2 gm2) ?_; rintro _ _ ⟨rfl, k2, rfl⟩)
        ((have hd := trivial; repeat' (first | ((first | apply GdK_st | apply GdK_sf | apply CondK_s) <;> intro hd <;> (try simp only [hd])) | simp (disch := first | assumption | omega | (simp only [nx] <;> omega) | fail) only [hd, hQr, hQn, c4_0, ↓YA, YB, YC, YE, YF, YZ, ↓reduceIte, Nat.reduceEqDiff, Nat.reduceAdd, Nat.reduceMul, Nat.reduceLeDiff, Int.reduceToNat, Int.reduceLE, Int.reduceLT, Int.reduceGT, Int.reduceGE, Int.reduceAdd, Int.reduceSub, Int.reduceNeg, Int.reduceBEq, Int.reduceBNe, dl, List.length_map, hrl])) <;> (try (have hd_ : True := hd; clear hd_ hd)))
        (refine CallK.use (hRo _ g2 gm2) ?_; rintro _ _ ⟨rfl, k3, rfl⟩)
        ((have hd := trivial; repeat' (first | ((first | apply GdK_st | apply GdK_sf | apply CondK_s) <;> intro hd <;> (try simp only [hd])) | simp (disch := first | assumption | omega | (simp only [nx] <;> omega) | fail) only [hd, hQr, hQn, c4_0, ↓YA, YB, YC, YE, YF, YZ, ↓reduceIte, Nat.reduceEqDiff, Nat.reduceAdd, Nat.reduceMul, Nat.reduceLeDiff, Int.reduceToNat, Int.reduceLE, Int.reduceLT, Int.reduceGT, Int.reduceGE, Int.reduceAdd, Int.reduceSub, Int.reduceNeg, Int.reduceBEq, Int.reduceBNe])) <;> (try (have hd_ : True := hd; clear hd_ hd)))
        (refine CallK.use (hSa _) ?_; rintro _ _ ⟨rfl, k4, rfl⟩)
        ((have hd := trivial; repeat' (first | ((first | apply GdK_st | apply GdK_sf | apply CondK_s) <;> intro hd <;> (try simp only [hd])) | simp (disch := first | assumption | omega | (simp only [nx] <;> omega) | fail) only [hd, hQr, hQn, c4_0, ↓YA, YB, YC, YE, YF, YZ, ↓reduceIte, Nat.reduceEqDiff, Nat.reduceAdd, Nat.reduceMul, Nat.reduceLeDiff, Int.reduceToNat, Int.reduceLE, Int.reduceLT, Int.reduceGT, Int.reduceGE, Int.reduceAdd, Int.reduceSub, Int.reduceNeg, Int.reduceBEq, Int.reduceBNe])) <;> (try (have hd_ : True := hd; clear hd_ hd)))
        exact ⟨(.no, M'), ⟨hT', by simp only; omega⟩, rfl, hG.alloc.bump.thnO hx5.bump.bump.bump⟩
      · (rintro s G ht hG hn2; try simp only [nx] at hn2)
        ((have hd := trivial; repeat' (first | ((first | apply GdK_st | apply GdK_sf | apply CondK_s) <;> intro hd <;> (try simp only [hd])) | simp (disch := first | assumption | omega | (simp only [nx] <;> omega) | fail) only [hd, hQr, hQn, c4_0, ↓YA, YB, YC, YE, YF, YZ, ↓reduceIte, Nat.reduceEqDiff, Nat.reduceAdd, Nat.reduceMul, Nat.reduceLeDiff, Int.reduceToNat, Int.reduceLE, Int.reduceLT, Int.reduceGT, Int.reduceGE, Int.reduceAdd, Int.reduceSub, Int.reduceNeg, Int.reduceBEq, Int.reduceBNe])) <;> (try (have hd_ : True := hd; clear hd_ hd)))
        (refine CallK.use (awake_sound _) ?_; rintro _ _ ⟨rfl, k1, rfl⟩)
        ((have hd := trivial; repeat' (first | ((first | apply GdK_st | apply GdK_sf | apply CondK_s) <;> intro hd <;> (try simp only [hd])) | simp (disch := first | assumption | omega | (simp only [nx] <;> omega) | fail) only [hd, hQr, hQn, c4_0, ↓YA, YB, YC, YE, YF, YZ, ↓reduceIte, Nat.reduceEqDiff, Nat.reduceAdd, Nat.reduceMul, Nat.reduceLeDiff, Int.reduceToNat, Int.reduceLE, Int.reduceLT, Int.reduceGT, Int.reduceGE, Int.reduceAdd, Int.reduceSub, Int.reduceNeg, Int.reduceBEq, Int.reduceBNe])) <;> (try (have hd_ : True := hd; clear hd_ hd)))
        refine fin_bA rfl ?_
        exact (hG.extO hx2 (by simp; omega)).bump
end Go.Proofs.Ytafbdhoaoileiaa
