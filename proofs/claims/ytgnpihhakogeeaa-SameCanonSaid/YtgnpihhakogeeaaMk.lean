/- Texts of the walk, joined: U5 U6 U7. -/
import Derived.Test.YtgnpihhakogeeaaMj
import Derived.Test.YtgnpihhakogeeaaMf
import Derived.Test.YtgnpihhakogeeaaMi
namespace Go.Proofs.Ytgnpihhakogeeaa
set_option linter.unusedSimpArgs false
set_option linter.unusedVariables false
open Go.RowKit

def tLook (T : List (List Bool)) (a b : Int) : Bool := (T.getD a.toNat []).getD b.toNat false
def celZ (last : Bool) (T : List (List Bool)) (c d : Cel) : Bool := decide (c.key = d.key) && (decide (c.agg = d.agg) && (last || tLook T c.child d.child))
def cellsB (last : Bool) (p q : Nod) (T : List (List Bool)) : Bool := decide (p.dim = q.dim) && (allZip (fun a b => decide (a.length = b.length)) p.lists q.lists && allZip (celZ last T) (each p) (each q))
abbrev rArr (n : Nat) (ids : List Nat) : List (List AV) := ids.map fun id => [.arr id 0 n n]
structure Tab (n : Nat) (ids : List Nat) (T : List (List Bool)) (H : AHeap) : Prop where
  len : ids.length = T.length
  row : ∀ j (h : j < T.length) (h2 : j < ids.length), T[j].length = n ∧ H.get ids[j] = some (.cells (T[j].map AV.b) 4)
theorem each_zip {p q : Nod} (h : allZip (fun (a b : List Cel) => decide (a.length = b.length)) p.lists q.lists = true) : (each p).length = (each q).length := by
  rw [allZip_len, decide_eq_true_eq] at h
  have h2 : ∀ n : Nod, (each n).length = (n.lists.map List.length).sum + 1 := by
    intro n; unfold each; simp [List.length_flatten]
  rw [h2, h2, h]
set_option maxHeartbeats 4000000 in
theorem lcells_sound {n : Nat} {ids : List Nat} {T : List (List Bool)} {H : AHeap} (t u v : Tok) (last : Bool) (p q : Nod) (hp : smallN p) (hq : smallN q) (hT : Tab n ids T H) (hn : n ≤ 1000000)
    (hr : last = false → p.dim = q.dim → (∀ c ∈ each p, 0 ≤ c.child ∧ c.child < T.length) ∧ ∀ d ∈ each q, 0 ≤ d.child ∧ d.child < n) :
    Sound Try.prog 59 [.b last, .agg (eNod t p), .agg (eNod u q), .sl v (rArr n ids)] H (Pure H (.b (cellsB last p q T))) := by
  have hp1 := hp.1
  refine fn_soundQ hE cf59 (Nat.le_of_ble_eq_true rfl) fun Q hQr hQn => ?_
  ((have hd := trivial; repeat' (first | ((first | refine GdK_st (fun hd => ?_) (fun hd => ?_) | refine GdK_sf (fun hd => ?_) (fun hd => ?_) | refine CondK_s (fun hd => ?_) (fun hd => ?_)) <;> (try simp only [hd])) | simp (disch := first | assumption | omega | (simp only [nx] <;> omega) | fail) only [hd, hQr, hQn, c59_0, ↓YA, YB, YC, YE, YF, YZ, ↓reduceIte, Nat.reduceEqDiff, Nat.reduceAdd, Nat.reduceMul, Nat.reduceLeDiff, Int.reduceToNat, Int.reduceLE, Int.reduceLT, Int.reduceGT, Int.reduceGE, Int.reduceAdd, Int.reduceSub, Int.reduceNeg, Int.reduceBEq, Int.reduceBNe])) <;> (try (have hd_ : True := hd; clear hd_ hd)))
  · refine fin_bA (by unfold cellsB; rw [allZip_ne (eqlen_ne hd)]; simp)
  · rename_i hd1
    have hdim : p.dim = q.dim := by simpa using hd1
    have hab := eqlen_eq hd
    have hC : cellsB last p q T = (allZip (fun a b => decide (a.length = b.length)) p.lists q.lists && allZip (celZ last T) (each p) (each q)) := by unfold cellsB; rw [hdim]; simp
    generalize hR : cellsB last p q T = R at *
    refine AW_for [0, 3, 5, 6, 29] (σ := Unit) (fun (k : Nat) s => R = (allZip (fun a b => decide (a.length = b.length)) (p.lists.drop k) (q.lists.drop k) && allZip (celZ last T) (each p) (each q)) ∧ (allZip (fun a b => decide (a.length = b.length)) (p.lists.drop k) (q.lists.drop k) = true → allZip (fun (a b : List Cel) => decide (a.length = b.length)) p.lists q.lists = true)) (fun k s => []) (fun k s => []) () (GStep.refl _ _) (by simp only [keep_nil, keep_cons, Fr.get, ↓reduceIte, Nat.reduceEqDiff]; rfl) (by intro k s; rfl) (by intro k s; rfl) (by rfl) (by unfold maxLen; omega) ?_ (by simp only [FrL_nil]) (by simp only [ObjL_nil]) ?_ ?_
    · exact ⟨hC, by simp⟩
    · (rintro k s G hk ⟨ht, ht2⟩ hG hn1; try simp only [nx] at hn1)
      have hk2 : k < q.lists.length := hab ▸ hk
      rw [allZip_drop hk hk2] at ht ht2
      ((have hd := trivial; repeat' (first | ((first | refine GdK_st (fun hd => ?_) (fun hd => ?_) | refine GdK_sf (fun hd => ?_) (fun hd => ?_) | refine CondK_s (fun hd => ?_) (fun hd => ?_)) <;> (try simp only [hd])) | simp (disch := first | assumption | omega | (simp only [nx] <;> omega) | fail) only [hd, hQr, hQn, c59_0, ↓YA, YB, YC, YE, YF, YZ, ↓reduceIte, Nat.reduceEqDiff, Nat.reduceAdd, Nat.reduceMul, Nat.reduceLeDiff, Int.reduceToNat, Int.reduceLE, Int.reduceLT, Int.reduceGT, Int.reduceGE, Int.reduceAdd, Int.reduceSub, Int.reduceNeg, Int.reduceBEq, Int.reduceBNe, hG.get])) <;> (try (have hd_ : True := hd; clear hd_ hd)))
      · refine fin_bA (by rw [ht]; simp [eqlen_ne hd])
      · have := eqlen_eq hd
        refine ⟨(), ⟨?_, ?_⟩, by exact HXT⟩
        · rw [ht]; simp [this]
        · intro e; exact ht2 (by simp [this, e])
    · (rintro s G ⟨ht, ht2⟩ hG hn1; try simp only [nx] at hn1)
      rw [allZip_end (Nat.le_refl _) (by omega), Bool.true_and] at ht
      have hez := each_zip (ht2 (allZip_end (Nat.le_refl _) (by omega)))
      ((have hd := trivial; repeat' (first | ((first | refine GdK_st (fun hd => ?_) (fun hd => ?_) | refine GdK_sf (fun hd => ?_) (fun hd => ?_) | refine CondK_s (fun hd => ?_) (fun hd => ?_)) <;> (try simp only [hd])) | simp (disch := first | assumption | omega | (simp only [nx] <;> omega) | fail) only [hd, hQr, hQn, c59_0, ↓YA, YB, YC, YE, YF, YZ, ↓reduceIte, Nat.reduceEqDiff, Nat.reduceAdd, Nat.reduceMul, Nat.reduceLeDiff, Int.reduceToNat, Int.reduceLE, Int.reduceLT, Int.reduceGT, Int.reduceGE, Int.reduceAdd, Int.reduceSub, Int.reduceNeg, Int.reduceBEq, Int.reduceBNe, hG.get])) <;> (try (have hd_ : True := hd; clear hd_ hd)))
      (refine CallK.use (reach_sound t p _ hp.1 (by have := hp.2.1; omega)) ?_; rintro _ _ ⟨rfl, q1, rfl⟩)
      ((have hd := trivial; repeat' (first | ((first | refine GdK_st (fun hd => ?_) (fun hd => ?_) | refine GdK_sf (fun hd => ?_) (fun hd => ?_) | refine CondK_s (fun hd => ?_) (fun hd => ?_)) <;> (try simp only [hd])) | simp (disch := first | assumption | omega | (simp only [nx] <;> omega) | fail) only [hd, hQr, hQn, c59_0, ↓YA, YB, YC, YE, YF, YZ, ↓reduceIte, Nat.reduceEqDiff, Nat.reduceAdd, Nat.reduceMul, Nat.reduceLeDiff, Int.reduceToNat, Int.reduceLE, Int.reduceLT, Int.reduceGT, Int.reduceGE, Int.reduceAdd, Int.reduceSub, Int.reduceNeg, Int.reduceBEq, Int.reduceBNe, hG.get])) <;> (try (have hd_ : True := hd; clear hd_ hd)))
      (refine CallK.use (reach_sound u q _ hq.1 (by have := hq.2.1; omega)) ?_; rintro _ _ ⟨rfl, q2, rfl⟩)
      ((have hd := trivial; repeat' (first | ((first | refine GdK_st (fun hd => ?_) (fun hd => ?_) | refine GdK_sf (fun hd => ?_) (fun hd => ?_) | refine CondK_s (fun hd => ?_) (fun hd => ?_)) <;> (try simp only [hd])) | simp (disch := first | assumption | omega | (simp only [nx] <;> omega) | fail) only [hd, hQr, hQn, c59_0, ↓YA, YB, YC, YE, YF, YZ, ↓reduceIte, Nat.reduceEqDiff, Nat.reduceAdd, Nat.reduceMul, Nat.reduceLeDiff, Int.reduceToNat, Int.reduceLE, Int.reduceLT, Int.reduceGT, Int.reduceGE, Int.reduceAdd, Int.reduceSub, Int.reduceNeg, Int.reduceBEq, Int.reduceBNe, hG.get])) <;> (try (have hd_ : True := hd; clear hd_ hd)))
      have hel := each_len hp
      generalize hP : each p = P at *
      generalize hQ : each q = Q2 at *
      have hTG : Tab n ids T G := ⟨hT.len, fun j h h2 => ⟨(hT.row j h h2).1, by
        have := (hT.row j h h2).2
        have hl := AHeap.lt this
        rw [hG.get _ (by simp; omega), AHeap.get_alloc_ne (by simp; omega), AHeap.get_alloc_ne (by omega)]
        exact this⟩⟩
      refine AW_for [0, 3, 10, 11, 52] (σ := Unit) (fun (k : Nat) s => R = allZip (celZ last T) (P.drop k) (Q2.drop k)) (fun k s => []) (fun k s => []) () (GStep.refl _ _) (by simp only [keep_nil, keep_cons, Fr.get, ↓reduceIte, Nat.reduceEqDiff]; rfl) (by intro k s; rfl) (by intro k s; rfl) (by rfl) (by unfold maxLen; omega) ?_ (by simp only [FrL_nil]) (by simp only [ObjL_nil]) ?_ ?_
      · exact ht
      · (rintro k s2 G2 hk ht hG2 hn2; try simp only [nx] at hn2)
        have hk2 : k < Q2.length := hez ▸ hk
        rw [allZip_drop hk hk2] at ht
        cases last with
        | true =>
          ((have hd := trivial; repeat' (first | ((first | refine GdK_st (fun hd => ?_) (fun hd => ?_) | refine GdK_sf (fun hd => ?_) (fun hd => ?_) | refine CondK_s (fun hd => ?_) (fun hd => ?_)) <;> (try simp only [hd])) | simp (disch := first | assumption | omega | (simp only [nx] <;> omega) | fail) only [hd, hQr, hQn, c59_0, ↓YA, YB, YC, YE, YF, YZ, ↓reduceIte, Nat.reduceEqDiff, Nat.reduceAdd, Nat.reduceMul, Nat.reduceLeDiff, Int.reduceToNat, Int.reduceLE, Int.reduceLT, Int.reduceGT, Int.reduceGE, Int.reduceAdd, Int.reduceSub, Int.reduceNeg, Int.reduceBEq, Int.reduceBNe])) <;> (try (have hd_ : True := hd; clear hd_ hd)))
          all_goals first | (refine fin_bA (by rw [ht]; unfold celZ; simp at hd ⊢; grind)) | (refine ⟨(), by rw [ht]; unfold celZ; grind, by exact HXT⟩)
        | false =>
          obtain ⟨r1, r2⟩ := hr rfl hdim
          obtain ⟨c, hc⟩ : ∃ n : Nat, P[k].child = n := ⟨P[k].child.toNat, by have := r1 _ (List.getElem_mem hk); omega⟩
          obtain ⟨d, hd0⟩ : ∃ n : Nat, Q2[k].child = n := ⟨Q2[k].child.toNat, by have := r2 _ (List.getElem_mem hk2); omega⟩
          have hc2 : c < T.length := by have := r1 _ (List.getElem_mem hk); omega
          have hd2 : d < n := by have := r2 _ (List.getElem_mem hk2); omega
          have hc3 : c < ids.length := by rw [hT.len]; exact hc2
          obtain ⟨e1, e2⟩ := hTG.row c hc2 hc3
          have hl2 := AHeap.lt e2
          have e3 := hG2.get _ (by simp; omega : ids[c] < ((G.bump q1).bump q2).next)
          simp only [AHeap.get_bump] at e3
          rw [e2] at e3
          have hd3 : d < T[c].length := by omega
          have hd4 : (d : Int) < (n : Int) := by omega
          have hlook : tLook T P[k].child Q2[k].child = T[c][d] := by
            unfold tLook
            rw [hc, hd0]
            simp [hc2, hd3]
          have hzz : celZ false T P[k] Q2[k] = (decide (P[k].key = Q2[k].key) && (decide (P[k].agg = Q2[k].agg) && T[c][d])) := by unfold celZ; rw [hlook]; rfl
          rw [hzz] at ht
          ((have hd := trivial; repeat' (first | ((first | refine GdK_st (fun hd => ?_) (fun hd => ?_) | refine GdK_sf (fun hd => ?_) (fun hd => ?_) | refine CondK_s (fun hd => ?_) (fun hd => ?_)) <;> (try simp only [hd])) | simp (disch := first | assumption | omega | (simp only [nx] <;> omega) | fail) only [hd, hQr, hQn, c59_0, ↓YA, YB, YC, YE, YF, YZ, ↓reduceIte, Nat.reduceEqDiff, Nat.reduceAdd, Nat.reduceMul, Nat.reduceLeDiff, Int.reduceToNat, Int.reduceLE, Int.reduceLT, Int.reduceGT, Int.reduceGE, Int.reduceAdd, Int.reduceSub, Int.reduceNeg, Int.reduceBEq, Int.reduceBNe, hc, hd0, e3, hd4])) <;> (try (have hd_ : True := hd; clear hd_ hd)))
          all_goals first | (refine fin_bA (by rw [ht]; simp at hd ⊢; grind)) | (refine ⟨(), by rw [ht]; grind, by exact HXT⟩)
      · (rintro s2 G2 ht hG2 hn2; try simp only [nx] at hn2)
        ((have hd := trivial; repeat' (first | ((first | refine GdK_st (fun hd => ?_) (fun hd => ?_) | refine GdK_sf (fun hd => ?_) (fun hd => ?_) | refine CondK_s (fun hd => ?_) (fun hd => ?_)) <;> (try simp only [hd])) | simp (disch := first | assumption | omega | (simp only [nx] <;> omega) | fail) only [hd, hQr, hQn, c59_0, ↓YA, YB, YC, YE, YF, YZ, ↓reduceIte, Nat.reduceEqDiff, Nat.reduceAdd, Nat.reduceMul, Nat.reduceLeDiff, Int.reduceToNat, Int.reduceLE, Int.reduceLT, Int.reduceGT, Int.reduceGE, Int.reduceAdd, Int.reduceSub, Int.reduceNeg, Int.reduceBEq, Int.reduceBNe])) <;> (try (have hd_ : True := hd; clear hd_ hd)))
        refine fin_bA (by rw [ht, allZip_end (Nat.le_refl _) (by omega)])
  · refine fin_bA (by unfold cellsB; simp at hd; simp [hd])
def rowB (x : Shp) (l m : List Nod) (T : List (List Bool)) (k : Nat) : List Bool := m.map fun q => cellsB (lastB x (nodAt l k).dim) (nodAt l k) q T
def tabB (x : Shp) (l m : List Nod) : Nat → List (List Bool)
  | 0 => []
  | k + 1 => tabB x l m k ++ [rowB x l m (tabB x l m k) k]
theorem tabB_len (x : Shp) (l m : List Nod) : ∀ k, (tabB x l m k).length = k
  | 0 => rfl
  | k + 1 => by unfold tabB; rw [List.length_append, tabB_len x l m k]; rfl
theorem nodAt_nat {l : List Nod} {k : Nat} (h : k < l.length) : nodAt l (k : Int) = l[k] := by
  unfold nodAt
  simp [h]
theorem map_b_set {ms : List Bool} {k : Nat} (v : Bool) (h : k < ms.length) : (ms.map AV.b).take k ++ AV.b v :: (ms.map AV.b).drop (k + 1) = (ms.set k v).map AV.b := by
  rw [List.set_eq_take_append_cons_drop, if_pos h]
  simp
theorem rep_flat_b : ∀ n : Nat, (List.replicate n [AV.sc (.bool false)]).flatten = (List.replicate n false).map AV.b
  | 0 => rfl
  | n + 1 => by rw [List.replicate_succ, List.flatten_cons, rep_flat_b n, List.replicate_succ]; rfl
/-- a row, as far as k -/
def part (r : List Bool) (k : Nat) : List Bool := r.take k ++ List.replicate (r.length - k) false
theorem part_len (r : List Bool) {k : Nat} (h : k ≤ r.length) : (part r k).length = r.length := by unfold part; simp; omega
theorem part_step {r : List Bool} {k : Nat} (h : k < r.length) : (part r k).set k r[k] = part r (k + 1) := by
  refine List.ext_getElem? fun i => ?_
  unfold part
  simp only [List.getElem?_set, List.getElem?_append, List.getElem?_take, List.length_take, List.getElem?_replicate, List.length_append, List.length_replicate]
  grind
theorem Tab.hx {n : Nat} {ids : List Nat} {T : List (List Bool)} {H G : AHeap} {O : List (Nat × AObj)} (h : Tab n ids T H) (hx : HX O H G) (hO : ∀ p ∈ O, p.1 ∉ ids) : Tab n ids T G := ⟨h.len, fun j h1 h2 => ⟨(h.row j h1 h2).1, by
  have e := (h.row j h1 h2).2
  rw [hx.g _ (AHeap.lt e) ?_]
  · exact e
  · rw [List.any_eq_false]
    intro p hp
    have := hO p hp
    simp only [beq_iff_eq]
    intro e2
    exact this (e2 ▸ List.getElem_mem h2)⟩⟩
theorem Tab.ext {n : Nat} {ids : List Nat} {T : List (List Bool)} {H G : AHeap} (h : Tab n ids T H) (hx : AHeap.Ext H G) : Tab n ids T G := ⟨h.len, fun j h1 h2 => ⟨(h.row j h1 h2).1, hx.get _ _ (h.row j h1 h2).2⟩⟩
theorem Tab.lt {n : Nat} {ids : List Nat} {T : List (List Bool)} {H : AHeap} (h : Tab n ids T H) : ∀ i ∈ ids, i < H.next := by
  intro i hi
  obtain ⟨j, hj, rfl⟩ := List.getElem_of_mem hi
  exact AHeap.lt (h.row j (by rw [← h.len]; exact hj) hj).2
set_option maxHeartbeats 4000000 in
theorem told_sound {H : AHeap} (t u : Tok) (x : Shp) (l m : List Nod) (hx : x.sizes.length ≤ 1000) (hl0 : l.length ≠ 0) (hm0 : m.length ≠ 0) (hl : l.length ≤ 100000) (hm : m.length ≤ 100000) (hn : ∀ n ∈ l, smallN n) (hk : ∀ n ∈ m, smallN n) (hd : Down x l) (hd2 : Down x m) :
    Sound Try.prog 27 [.agg (eShp x), .sl t (rN l), .sl u (rN m)] H (Pure H (.b (tLook (tabB x l m l.length) ((l.length : Int) - 1) ((m.length : Int) - 1)))) := by
  refine fn_soundQ hE cf27 (Nat.le_of_ble_eq_true rfl) fun Q hQr hQn => ?_
  ((have hd := trivial; repeat' (first | ((first | refine GdK_st (fun hd => ?_) (fun hd => ?_) | refine GdK_sf (fun hd => ?_) (fun hd => ?_) | refine CondK_s (fun hd => ?_) (fun hd => ?_)) <;> (try simp only [hd])) | simp (disch := first | assumption | omega | (simp only [nx] <;> omega) | fail) only [hd, hQr, hQn, c27_0, ↓YA, YB, YC, YE, YF, YZ, ↓reduceIte, Nat.reduceEqDiff, Nat.reduceAdd, Nat.reduceMul, Nat.reduceLeDiff, Int.reduceToNat, Int.reduceLE, Int.reduceLT, Int.reduceGT, Int.reduceGE, Int.reduceAdd, Int.reduceSub, Int.reduceNeg, Int.reduceBEq, Int.reduceBNe])) <;> (try (have hd_ : True := hd; clear hd_ hd)))
  refine AW_let fun G hG => ?_
  have hg0 : G.get H.next = some (.cells (eShp x) 24) := by rw [hG]; exact AHeap.get_alloc_self (H := H)
  have hGe : AHeap.Ext H G := by rw [hG]; exact (AHeap.Ext.refl H).alloc
  have hGn : G.next = H.next + 1 := by rw [hG]; rfl
  clear hG
  have hlm : 1 ≤ m.length := by omega
  refine AW_forI (N := l.length) (fun k F s => Fr.get F 13 = .i (k : Int) ∧ Fr.get F 12 = .i (l.length : Int) ∧ Fr.get F 1 = .sl t (rN l) ∧ Fr.get F 2 = .sl u (rN m) ∧ Fr.get F 3 = .ptr H.next 0 ∧ AHeap.Ext G s ∧ ∃ ids, Tab m.length ids (tabB x l m k) s ∧ Fr.get F 7 = .sl (.own G.next) (rArr m.length ids) ∧ s.get G.next = some (.tok k 100 1)) (by unfold maxLen; omega) (fun k F G h => ⟨h.1, h.2.1⟩)
    (F1 := [(7, .sl (.own G.next) []), (13, .i ((0 : Nat) : Int)), (12, .i (l.length : Int)), (3, .ptr H.next 0), (1, .sl t (rN l)), (2, .sl u (rN m))]) (H1 := G.alloc (.tok 0 100 1)) ?_ ?_ ?_ ?_
  · exact (GStep.fr (F' := [(13, .i ((0 : Nat) : Int)), (12, .i (l.length : Int)), (3, .ptr H.next 0), (1, .sl t (rN l)), (2, .sl u (rN m)), (7, .sl .full [])]) (by simp [Fr.get])).trans ((GStep.tok 7 100 1 rfl).trans (GStep.fr (by simp [Fr.get, Fr.put])))
  · exact ⟨rfl, rfl, rfl, rfl, rfl, (AHeap.Ext.refl G).alloc, [], ⟨rfl, fun j h => by cases h⟩, rfl, AHeap.get_alloc_self (H := G)⟩
  · rintro k F S hk0 ⟨f13, f12, f1, f2, f3, hxs, ids, hT, f7, htk⟩
    have hc1 : (0 : Int) ≤ (m.length : Int) ∧ (m.length : Int) ≤ (m.length : Int) ∧ m.length ≤ maxLen ∧ m.length * 1 ≤ 140737488355328 := by unfold maxLen; omega
    have hc2 : ¬ ((m.length : Int) = 0) := by omega
    have hc3 : m.length ≤ 140737488355328 := by omega
    have hg3 := hxs.get _ _ hg0
    have ltk := AHeap.lt htk
    have lg3 := AHeap.lt hg3
    have hxn := hxs.next
    have hTl := hT.lt
    have hTlen := hT.len
    rw [tabB_len] at hTlen
    generalize hRow : rowB x l m (tabB x l m k) k = row
    have hrl : row.length = m.length := by rw [← hRow]; unfold rowB; simp
    have hp0 : List.replicate m.length false = part row 0 := by unfold part; simp [hrl]
    have hp1 : part row m.length = row := by unfold part; simp [← hrl]
    ((have hd := trivial; repeat' (first | ((first | refine GdK_st (fun hd => ?_) (fun hd => ?_) | refine GdK_sf (fun hd => ?_) (fun hd => ?_) | refine CondK_s (fun hd => ?_) (fun hd => ?_)) <;> (try simp only [hd])) | simp (disch := first | assumption | omega | (simp only [nx] <;> omega) | fail) only [hd, hQr, hQn, c27_0, ↓YA, YB, YC, YE, YF, YZ, ↓reduceIte, Nat.reduceEqDiff, Nat.reduceAdd, Nat.reduceMul, Nat.reduceLeDiff, Int.reduceToNat, Int.reduceLE, Int.reduceLT, Int.reduceGT, Int.reduceGE, Int.reduceAdd, Int.reduceSub, Int.reduceNeg, Int.reduceBEq, Int.reduceBNe, f13, f12, f1, f2, f3, f7, hc1, hc2, hc3, rep_flat_b, if_true])) <;> (try (have hd_ : True := hd; clear hd_ hd)))
    refine AW_for [1, 2, 3, 7, 8, 9, 12, 13, 20] (σ := Unit) (fun (k : Nat) s => True) (fun k s => []) (fun k s => [(S.next, .cells ((part row k).map AV.b) 4)]) () (GStep.refl _ _) (by simp only [keep_nil, keep_cons, Fr.get, ↓reduceIte, Nat.reduceEqDiff]; rfl) (by intro k s; rfl) (by intro k s; rfl) (by rfl) (by unfold maxLen; omega) ?_ (by simp only [FrL_nil]) ?_ ?_ ?_
    · trivial
    · rw [ObjL_cons, hp0]
      exact ⟨AHeap.get_alloc_self (H := S), by simp [ObjL]⟩
    · (rintro j s2 G2 hj ht hG2 hn2; try simp only [nx] at hn2)
      have hTG := (hT.ext ((AHeap.Ext.refl S).alloc (o := .cells ((List.replicate m.length false).map AV.b) 4))).hx hG2 (by
        intro p hp
        rw [List.mem_singleton] at hp
        subst hp
        intro h
        exact absurd (hTl _ h) (by simp))
      have ho : G2.get S.next = some (.cells ((part row j).map AV.b) 4) := hG2.o (_, _) (by simp)
      have hg4 : G2.get H.next = some (.cells (eShp x) 24) := by
        rw [hG2.g _ (by simp; omega) (by simp; omega), AHeap.get_alloc_ne (by omega)]
        exact hg3
      have lo := AHeap.lt ho
      have hlen : (x.sizes.length : Int) - 1 < 9223372036854775808 := by omega
      have hjr : j < row.length := by omega
      have hpl : (part row j).length = row.length := part_len _ (by omega)
      have hj0 : (j : Int) < (m.length : Int) := by omega
      ((have hd := trivial; repeat' (first | ((first | refine GdK_st (fun hd => ?_) (fun hd => ?_) | refine GdK_sf (fun hd => ?_) (fun hd => ?_) | refine CondK_s (fun hd => ?_) (fun hd => ?_)) <;> (try simp only [hd])) | simp (disch := first | assumption | omega | (simp only [nx] <;> omega) | fail) only [hd, hQr, hQn, c27_0, ↓YA, YB, YC, YE, YF, YZ, ↓reduceIte, Nat.reduceEqDiff, Nat.reduceAdd, Nat.reduceMul, Nat.reduceLeDiff, Int.reduceToNat, Int.reduceLE, Int.reduceLT, Int.reduceGT, Int.reduceGE, Int.reduceAdd, Int.reduceSub, Int.reduceNeg, Int.reduceBEq, Int.reduceBNe, f13, f12, f1, f2, f3, f7, hg4])) <;> (try (have hd_ : True := hd; clear hd_ hd)))
      have hrj : row[j] = cellsB (lastB x l[k].dim) l[k] m[j] (tabB x l m k) := by
        simp only [← hRow, rowB, List.getElem_map, nodAt_nat hk0]
      have hsp := map_b_set (ms := part row j) (k := j) row[j] (by omega)
      rw [part_step hjr, hrj] at hsp
      have hb1 : 1 ≤ (part row j).length - j := by omega
      (refine CallK.use (lcells_sound .no .no (.own G.next) (lastB x l[k].dim) l[k] m[j] (hn _ (List.getElem_mem hk0)) (hk _ (List.getElem_mem hj)) hTG (by omega) (fun hl hdm => ⟨fun c hc => by
        have := hd k hk0
        rw [nodAt_nat hk0] at this
        rw [tabB_len]
        exact this hl c hc, fun d hdd => by
        have := hd2 j hj
        rw [nodAt_nat hj] at this
        have := this (by rw [← hdm]; exact hl) d hdd
        omega⟩)) ?_; rintro _ _ ⟨rfl, q1, rfl⟩)
      have hle : j + 1 ≤ row.length := hjr
      have hsp2 : (((part row j).map AV.b).take j ++ [AV.sc (.bool (cellsB (lastB x l[k].dim) l[k] m[j] (tabB x l m k)))]) ++ ((part row j).map AV.b).drop (j + 1) = (part row (j + 1)).map AV.b := by
        rw [← hsp, List.append_assoc]; rfl
      ((have hd := trivial; repeat' (first | ((first | refine GdK_st (fun hd => ?_) (fun hd => ?_) | refine GdK_sf (fun hd => ?_) (fun hd => ?_) | refine CondK_s (fun hd => ?_) (fun hd => ?_)) <;> (try simp only [hd])) | simp (disch := first | assumption | omega | (simp only [nx] <;> omega) | fail) only [hd, hQr, hQn, c27_0, ↓YA, YB, YC, YE, YF, YZ, ↓reduceIte, Nat.reduceEqDiff, Nat.reduceAdd, Nat.reduceMul, Nat.reduceLeDiff, Int.reduceToNat, Int.reduceLE, Int.reduceLT, Int.reduceGT, Int.reduceGE, Int.reduceAdd, Int.reduceSub, Int.reduceNeg, Int.reduceBEq, Int.reduceBNe, f13, f12, f1, f2, f3, f7, ho, hj0, hpl, hle, hsp2])) <;> (try (have hd_ : True := hd; clear hd_ hd)))
      exact ⟨(), (hG2.bump).put⟩
    · (rintro s2 G2 ht hG2 hn2; try simp only [nx] at hn2)
      have hTG := (hT.ext ((AHeap.Ext.refl S).alloc (o := .cells ((List.replicate m.length false).map AV.b) 4))).hx hG2 (by
        intro p hp
        rw [List.mem_singleton] at hp
        subst hp
        intro h
        exact absurd (hTl _ h) (by simp))
      have ho : G2.get S.next = some (.cells (row.map AV.b) 4) := by rw [← hp1]; exact hG2.o (_, _) (by simp)
      have htk2 : G2.get G.next = some (.tok k 100 1) := by
        rw [hG2.g _ (by simp; omega) (by simp; omega), AHeap.get_alloc_ne (by omega)]
        exact htk
      have hE : AHeap.Ext G G2 := by
        refine ⟨by omega, fun i o e => ?_⟩
        have hl := AHeap.lt e
        rw [hG2.g _ (by simp; omega) (by simp; omega), AHeap.get_alloc_ne (by omega)]
        exact hxs.get _ _ e
      have la1 : allLen 1 (rArr m.length ids) = true := allLen_map (f := fun id => [AV.arr id 0 m.length m.length]) (fun _ => rfl) ids
      have la2 : allLen 1 [[AV.arr S.next 0 m.length m.length]] = true := rfl
      have lm1 : k + 1 ≤ maxLen := by unfold maxLen; omega
      have lm2 : (k + 1) * 24 ≤ 140737488355328 := by omega
      have lt2 := AHeap.lt htk2
      ((have hd := trivial; repeat' (first | ((first | refine GdK_st (fun hd => ?_) (fun hd => ?_) | refine GdK_sf (fun hd => ?_) (fun hd => ?_) | refine CondK_s (fun hd => ?_) (fun hd => ?_)) <;> (try simp only [hd])) | simp (disch := first | assumption | omega | (simp only [nx] <;> omega) | fail) only [hd, hQr, hQn, c27_0, ↓YA, YB, YC, YE, YF, YZ, ↓reduceIte, Nat.reduceEqDiff, Nat.reduceAdd, Nat.reduceMul, Nat.reduceLeDiff, Int.reduceToNat, Int.reduceLE, Int.reduceLT, Int.reduceGT, Int.reduceGE, Int.reduceAdd, Int.reduceSub, Int.reduceNeg, Int.reduceBEq, Int.reduceBNe, f13, f12, f1, f2, f3, f7, la1, la2, hTlen, lm1, lm2, htk2])) <;> (try (have hd_ : True := hd; clear hd_ hd)))
      have hne : ∀ i (h1 : i < (tabB x l m k).length) (h2 : i < ids.length), ids[i] ≠ G.next := fun i h1 h2 e => by
        have := (hTG.row i h1 h2).2
        rw [e, htk2] at this
        cases this
      refine ⟨hE.set (Nat.le_refl _), ids ++ [S.next], ⟨by rw [tabB_len]; simp [hTlen], fun i h1 h2 => ?_⟩, by simp⟩
      rw [tabB_len] at h1
      have htl := tabB_len x l m k
      unfold tabB
      simp only [hRow, List.getElem_append]
      by_cases hik : i < k
      · rw [dif_pos (by omega), dif_pos (by omega)]
        have := hTG.row i (by omega) (by omega)
        rw [AHeap.get_set_ne (hne i (by omega) (by omega))]
        exact this
      · have hi : i = k := by omega
        rw [dif_neg (by omega), dif_neg (by omega)]
        simp only [List.getElem_singleton]
        rw [AHeap.get_set_ne (by omega)]
        exact ⟨hrl, ho⟩
  · rintro F S ⟨f13, f12, f1, f2, f3, hxs, ids, hT, f7, htk⟩
    have hTlen := hT.len
    have htl := tabB_len x l m l.length
    rw [tabB_len] at hTlen
    have hi : l.length - 1 < ids.length := by omega
    have hi1 : ((l.length : Int) - 1).toNat = l.length - 1 := by omega
    have hj1 : ((m.length : Int) - 1).toNat = m.length - 1 := by omega
    obtain ⟨r1, r2⟩ := hT.row (l.length - 1) (by omega) hi
    have hj : m.length - 1 < (tabB x l m l.length)[l.length - 1].length := by omega
    have hi2 : (0 : Int) ≤ (l.length : Int) - 1 := by omega
    have hj2 : (0 : Int) ≤ (m.length : Int) - 1 ∧ (m.length : Int) - 1 < (m.length : Int) := by omega
    ((have hd := trivial; repeat' (first | ((first | refine GdK_st (fun hd => ?_) (fun hd => ?_) | refine GdK_sf (fun hd => ?_) (fun hd => ?_) | refine CondK_s (fun hd => ?_) (fun hd => ?_)) <;> (try simp only [hd])) | simp (disch := first | assumption | omega | (simp only [nx] <;> omega) | fail) only [hd, hQr, hQn, c27_0, ↓YA, YB, YC, YE, YF, YZ, ↓reduceIte, Nat.reduceEqDiff, Nat.reduceAdd, Nat.reduceMul, Nat.reduceLeDiff, Int.reduceToNat, Int.reduceLE, Int.reduceLT, Int.reduceGT, Int.reduceGE, Int.reduceAdd, Int.reduceSub, Int.reduceNeg, Int.reduceBEq, Int.reduceBNe, f1, f2, f3, f7, hi1, hj1, r2, hi2, hj2])) <;> (try (have hd_ : True := hd; clear hd_ hd)))
    refine fin_b (hGe.trans hxs) ?_
    unfold tLook
    rw [hi1, hj1]
    simp [show l.length - 1 < (tabB x l m l.length).length by omega, hj]
end Go.Proofs.Ytgnpihhakogeeaa

namespace Go.Proofs.Ytgnpihhakogeeaa
set_option linter.unusedSimpArgs false
set_option linter.unusedVariables false
open Go.RowKit

theorem celZ_all (last : Bool) (T : List (List Bool)) : ∀ P Q : List Cel, allZip (celZ last T) P Q = (decide (tails P = tails Q) && (last || ((P.map Cel.child).zip (Q.map Cel.child)).all fun e => tLook T e.1 e.2))
  | [], [] => by simp [allZip, tails]
  | [], _ :: _ => by simp [allZip, tails]
  | _ :: _, [] => by simp [allZip, tails]
  | p :: P, q :: Q => by
    have ih := celZ_all last T P Q
    unfold tails at *
    simp only [allZip, ih, celZ, List.map_cons, List.zip_cons_cons, List.all_cons]
    cases last <;> simp only [Bool.false_or, Bool.true_or, Bool.and_true] <;> rw [Bool.eq_iff_iff] <;> simp <;> grind
theorem cellsB_eq (last : Bool) (p q : Nod) (T : List (List Bool)) : cellsB last p q T = (locT p q && (last || (((each p).map Cel.child).zip ((each q).map Cel.child)).all fun e => tLook T e.1 e.2)) := by
  unfold cellsB locT
  rw [celZ_all, allZip_len]
  simp [Bool.and_assoc]
theorem tabB_get {x : Shp} {l m : List Nod} {i : Nat} : ∀ {K : Nat}, i < K → (tabB x l m K).getD i [] = rowB x l m (tabB x l m i) i
  | 0, h => by omega
  | K + 1, h => by
    have htl := tabB_len x l m K
    rw [show tabB x l m (K + 1) = tabB x l m K ++ [rowB x l m (tabB x l m K) K] from rfl]
    by_cases hk : i < K
    · rw [List.getD_eq_getElem?_getD, List.getElem?_append_left (by omega), ← List.getD_eq_getElem?_getD]
      exact tabB_get hk
    · obtain rfl : i = K := by omega
      rw [List.getD_eq_getElem?_getD, List.getElem?_append_right (by omega), htl]
      simp
theorem tab_told {x : Shp} {l m : List Nod} (hd : Down x l) (hd2 : Down x m) : ∀ n i K j f : Nat, i < n → i < K → K ≤ l.length → j < m.length → i < f → tLook (tabB x l m K) i j = toldF x l m f (i, j)
  | 0, i, K, j, f, h0, h1, h2, h3, h4 => by omega
  | n + 1, i, K, j, f, h0, h1, h2, h3, h4 => by
    obtain ⟨f, rfl⟩ : ∃ g, f = g + 1 := ⟨f - 1, by omega⟩
    have e1 : tLook (tabB x l m K) i j = cellsB (lastB x (nodAt l i).dim) (nodAt l i) (nodAt m j) (tabB x l m i) := by
      unfold tLook
      simp only [Int.toNat_natCast]
      rw [tabB_get h1]
      unfold rowB
      rw [nodAt_nat h3]
      simp [h3]
    rw [e1, cellsB_eq]
    simp only [toldF]
    cases hl : locT (nodAt l i) (nodAt m j) with
    | false => rfl
    | true =>
      simp only [Bool.true_and]
      unfold chl
      cases hlast : lastB x (nodAt l i).dim with
      | true => simp
      | false =>
        simp only [Bool.false_or, Bool.false_eq_true, if_false]
        have hdim : (nodAt l i).dim = (nodAt m j).dim := by
          unfold locT at hl
          simp only [Bool.and_eq_true, decide_eq_true_eq] at hl
          exact hl.1
        rw [Bool.eq_iff_iff, List.all_eq_true, List.all_eq_true]
        refine forall_congr' fun e => ?_
        refine forall_congr' fun he => ?_
        have a1 := (List.of_mem_zip (a := e.1) (b := e.2) he).1
        have a2 := (List.of_mem_zip (a := e.1) (b := e.2) he).2
        obtain ⟨c, hc, hc1⟩ := List.mem_map.1 a1
        obtain ⟨d, hdd, hd1⟩ := List.mem_map.1 a2
        have b1 := hd i (by omega) hlast c hc
        have b2 := hd2 j h3 (by rw [← hdim]; exact hlast) d hdd
        obtain ⟨e1, e2⟩ := e
        simp only at hc1 hd1
        obtain ⟨p, rfl⟩ : ∃ n : Nat, e1 = n := ⟨e1.toNat, by omega⟩
        obtain ⟨q, rfl⟩ : ∃ n : Nat, e2 = n := ⟨e2.toNat, by omega⟩
        rw [tab_told hd hd2 n p i q f (by omega) (by omega) (by omega) (by omega) (by omega)]
def tellsB (x : Shp) (l m : List Nod) : Bool := toldF x l m l.length ((l.length : Int) - 1, (m.length : Int) - 1)
theorem tellsB_tab {x : Shp} {l m : List Nod} (hd : Down x l) (hd2 : Down x m) (hl : l.length ≠ 0) (hm : m.length ≠ 0) : tLook (tabB x l m l.length) ((l.length : Int) - 1) ((m.length : Int) - 1) = tellsB x l m := by
  have h1 : ((l.length : Int) - 1) = ((l.length - 1 : Nat) : Int) := by omega
  have h2 : ((m.length : Int) - 1) = ((m.length - 1 : Nat) : Int) := by omega
  unfold tellsB
  rw [h1, h2]
  exact tab_told hd hd2 l.length (l.length - 1) l.length (m.length - 1) l.length (by omega) (by omega) (by omega) (by omega) (by omega)
/-- an arena that stands as a statement made it -/
structure ArW (x : Shp) (l : List Nod) : Prop where
  may : shpMay x = true
  len : l.length ≤ 100000
  small : ∀ n ∈ l, smallN n
  down : Down x l
theorem ArW.bounds {x : Shp} {l : List Nod} (h : ArW x l) : 1 ≤ x.sizes.length ∧ x.sizes.length ≤ 16 ∧ ∀ s ∈ x.sizes, s.length ≤ 4 := by
  obtain ⟨b1, b2, b3, b4, b5⟩ := shpMay_bounds h.may
  exact ⟨b1, b2, fun s hs => (sizesMay_bounds (b5 s hs)).2.1⟩
theorem ArW.child {x : Shp} {l : List Nod} (h : ArW x l) : ∀ n ∈ l, lastB x n.dim = false → ∀ c ∈ each n, 0 ≤ c.child ∧ c.child < l.length := by
  intro n hn hl c hc
  obtain ⟨i, hi, rfl⟩ := List.getElem_of_mem hn
  have := h.down i hi
  rw [nodAt_nat hi] at this
  have := this hl c hc
  omega
theorem awhole_sound {H : AHeap} {id : Nat} {x : Shp} {l : List Nod} (ha : ArA H id x l) (hw : ArW x l) : Sound Try.prog 55 [.ptr id 0] H (Pure H (.b (wholeB x l))) := by
  obtain ⟨b1, b2, b3⟩ := hw.bounds
  exact whole_sound ha b1 (by omega) (by have := hw.len; omega) hw.small hw.child
theorem ArA.eAr {H : AHeap} {id : Nat} {x : Shp} {l : List Nod} (h : ArA H id x l) : ∃ tok nodes most, H.get id = some (.cells (eAr x tok nodes most) 75) := by
  obtain ⟨tok, nt, most, h⟩ := h
  exact ⟨_, _, _, h⟩
def eqB (x y : Shp) (l m : List Nod) : Bool := decide (x = y) && decide (l = m)
set_option maxHeartbeats 1000000 in
theorem equal_sound {H : AHeap} {a b : Nat} {x y : Shp} {l m : List Nod} (ha : ArA H a x l) (hb : ArA H b y m) (wa : ArW x l) (wb : ArW y m) : Sound Try.prog 22 [.ptr a 0, .ptr b 0] H (PureE H (.b (eqB x y l m))) := by
  obtain ⟨p1, p2, p3⟩ := wa.bounds
  obtain ⟨q1, q2, q3⟩ := wb.bounds
  refine fn_soundQ hE cf22 (Nat.le_of_ble_eq_true rfl) fun Q hQr hQn => ?_
  ((have hd := trivial; repeat' (first | ((first | refine GdK_st (fun hd => ?_) (fun hd => ?_) | refine GdK_sf (fun hd => ?_) (fun hd => ?_) | refine CondK_s (fun hd => ?_) (fun hd => ?_)) <;> (try simp only [hd])) | simp (disch := first | assumption | omega | (simp only [nx] <;> omega) | fail) only [hd, hQr, hQn, c22_0, ↓YA, YB, YC, YE, YF, YZ, ↓reduceIte, Nat.reduceEqDiff, Nat.reduceAdd, Nat.reduceMul, Nat.reduceLeDiff, Int.reduceToNat, Int.reduceLE, Int.reduceLT, Int.reduceGT, Int.reduceGE, Int.reduceAdd, Int.reduceSub, Int.reduceNeg, Int.reduceBEq, Int.reduceBNe])) <;> (try (have hd_ : True := hd; clear hd_ hd)))
  obtain ⟨_, _, _, g1⟩ := ha.eAr
  refine CallK.use (shape_yes g1 wa.may) ?_
  rintro r H1 ⟨hx1, t1, rfl⟩
  ((have hd := trivial; repeat' (first | ((first | refine GdK_st (fun hd => ?_) (fun hd => ?_) | refine GdK_sf (fun hd => ?_) (fun hd => ?_) | refine CondK_s (fun hd => ?_) (fun hd => ?_)) <;> (try simp only [hd])) | simp (disch := first | assumption | omega | (simp only [nx] <;> omega) | fail) only [hd, hQr, hQn, c22_0, ↓YA, YB, YC, YE, YF, YZ, ↓reduceIte, Nat.reduceEqDiff, Nat.reduceAdd, Nat.reduceMul, Nat.reduceLeDiff, Int.reduceToNat, Int.reduceLE, Int.reduceLT, Int.reduceGT, Int.reduceGE, Int.reduceAdd, Int.reduceSub, Int.reduceNeg, Int.reduceBEq, Int.reduceBNe])) <;> (try (have hd_ : True := hd; clear hd_ hd)))
  obtain ⟨_, _, _, g2⟩ := (hb.ext hx1).eAr
  refine CallK.use (shape_yes g2 wb.may) ?_
  rintro r H2 ⟨hx2, t2, rfl⟩
  ((have hd := trivial; repeat' (first | ((first | refine GdK_st (fun hd => ?_) (fun hd => ?_) | refine GdK_sf (fun hd => ?_) (fun hd => ?_) | refine CondK_s (fun hd => ?_) (fun hd => ?_)) <;> (try simp only [hd])) | simp (disch := first | assumption | omega | (simp only [nx] <;> omega) | fail) only [hd, hQr, hQn, c22_0, ↓YA, YB, YC, YE, YF, YZ, ↓reduceIte, Nat.reduceEqDiff, Nat.reduceAdd, Nat.reduceMul, Nat.reduceLeDiff, Int.reduceToNat, Int.reduceLE, Int.reduceLT, Int.reduceGT, Int.reduceGE, Int.reduceAdd, Int.reduceSub, Int.reduceNeg, Int.reduceBEq, Int.reduceBNe])) <;> (try (have hd_ : True := hd; clear hd_ hd)))
  (refine CallK.use (sshapes_sound t1 t2 x y _ (by omega) (fun s hs => by have := p3 s hs; omega)) ?_; rintro _ _ ⟨rfl, k1, rfl⟩)
  cases hxy : decide (x = y) with
  | false =>
    ((have hd := trivial; repeat' (first | ((first | refine GdK_st (fun hd => ?_) (fun hd => ?_) | refine GdK_sf (fun hd => ?_) (fun hd => ?_) | refine CondK_s (fun hd => ?_) (fun hd => ?_)) <;> (try simp only [hd])) | simp (disch := first | assumption | omega | (simp only [nx] <;> omega) | fail) only [hd, hQr, hQn, c22_0, ↓YA, YB, YC, YE, YF, YZ, ↓reduceIte, Nat.reduceEqDiff, Nat.reduceAdd, Nat.reduceMul, Nat.reduceLeDiff, Int.reduceToNat, Int.reduceLE, Int.reduceLT, Int.reduceGT, Int.reduceGE, Int.reduceAdd, Int.reduceSub, Int.reduceNeg, Int.reduceBEq, Int.reduceBNe, hxy])) <;> (try (have hd_ : True := hd; clear hd_ hd)))
    exact fin_keep ⟨by unfold eqB; rw [hxy]; rfl, (hx1.trans hx2).bump⟩
  | true =>
    have hl := wa.len
    have hm := wb.len
    ((have hd := trivial; repeat' (first | ((first | refine GdK_st (fun hd => ?_) (fun hd => ?_) | refine GdK_sf (fun hd => ?_) (fun hd => ?_) | refine CondK_s (fun hd => ?_) (fun hd => ?_)) <;> (try simp only [hd])) | simp (disch := first | assumption | omega | (simp only [nx] <;> omega) | fail) only [hd, hQr, hQn, c22_0, ↓YA, YB, YC, YE, YF, YZ, ↓reduceIte, Nat.reduceEqDiff, Nat.reduceAdd, Nat.reduceMul, Nat.reduceLeDiff, Int.reduceToNat, Int.reduceLE, Int.reduceLT, Int.reduceGT, Int.reduceGE, Int.reduceAdd, Int.reduceSub, Int.reduceNeg, Int.reduceBEq, Int.reduceBNe, hxy])) <;> (try (have hd_ : True := hd; clear hd_ hd)))
    (refine CallK.use (nodes_sound ((ha.ext (hx1.trans hx2)).ext (AHeap.Ext.refl H2).bump) p1 (by omega) wa.small) ?_; rintro _ _ ⟨rfl, k2, rfl⟩)
    ((have hd := trivial; repeat' (first | ((first | refine GdK_st (fun hd => ?_) (fun hd => ?_) | refine GdK_sf (fun hd => ?_) (fun hd => ?_) | refine CondK_s (fun hd => ?_) (fun hd => ?_)) <;> (try simp only [hd])) | simp (disch := first | assumption | omega | (simp only [nx] <;> omega) | fail) only [hd, hQr, hQn, c22_0, ↓YA, YB, YC, YE, YF, YZ, ↓reduceIte, Nat.reduceEqDiff, Nat.reduceAdd, Nat.reduceMul, Nat.reduceLeDiff, Int.reduceToNat, Int.reduceLE, Int.reduceLT, Int.reduceGT, Int.reduceGE, Int.reduceAdd, Int.reduceSub, Int.reduceNeg, Int.reduceBEq, Int.reduceBNe])) <;> (try (have hd_ : True := hd; clear hd_ hd)))
    (refine CallK.use (nodes_sound ((hb.ext (hx1.trans hx2)).ext ((AHeap.Ext.refl H2).bump.bump)) q1 (by omega) wb.small) ?_; rintro _ _ ⟨rfl, k3, rfl⟩)
    ((have hd := trivial; repeat' (first | ((first | refine GdK_st (fun hd => ?_) (fun hd => ?_) | refine GdK_sf (fun hd => ?_) (fun hd => ?_) | refine CondK_s (fun hd => ?_) (fun hd => ?_)) <;> (try simp only [hd])) | simp (disch := first | assumption | omega | (simp only [nx] <;> omega) | fail) only [hd, hQr, hQn, c22_0, ↓YA, YB, YC, YE, YF, YZ, ↓reduceIte, Nat.reduceEqDiff, Nat.reduceAdd, Nat.reduceMul, Nat.reduceLeDiff, Int.reduceToNat, Int.reduceLE, Int.reduceLT, Int.reduceGT, Int.reduceGE, Int.reduceAdd, Int.reduceSub, Int.reduceNeg, Int.reduceBEq, Int.reduceBNe])) <;> (try (have hd_ : True := hd; clear hd_ hd)))
    (refine CallK.use (eqf_nodes (e := fun x y => decide (x = y)) .no .no l m _ (by omega) (fun p hp q hq G => nsame_sound .no .no p q G (wa.small p hp))) ?_; rintro _ _ ⟨rfl, k4, rfl⟩)
    ((have hd := trivial; repeat' (first | ((first | refine GdK_st (fun hd => ?_) (fun hd => ?_) | refine GdK_sf (fun hd => ?_) (fun hd => ?_) | refine CondK_s (fun hd => ?_) (fun hd => ?_)) <;> (try simp only [hd])) | simp (disch := first | assumption | omega | (simp only [nx] <;> omega) | fail) only [hd, hQr, hQn, c22_0, ↓YA, YB, YC, YE, YF, YZ, ↓reduceIte, Nat.reduceEqDiff, Nat.reduceAdd, Nat.reduceMul, Nat.reduceLeDiff, Int.reduceToNat, Int.reduceLE, Int.reduceLT, Int.reduceGT, Int.reduceGE, Int.reduceAdd, Int.reduceSub, Int.reduceNeg, Int.reduceBEq, Int.reduceBNe])) <;> (try (have hd_ : True := hd; clear hd_ hd)))
    exact fin_keep ⟨by unfold eqB; rw [hxy, allZip_eq]; rfl, (hx1.trans hx2).bump.bump.bump.bump⟩
def tellB (x y : Shp) (l m : List Nod) : Bool := wholeB x l && (wholeB y m && (decide (x = y) && (if l.length = 0 ∨ m.length = 0 then decide (l.length = m.length) else tellsB x l m)))
theorem alen_sound {H : AHeap} {id : Nat} {x : Shp} {l : List Nod} (ha : ArA H id x l) (hw : ArW x l) : Sound Try.prog 56 [.ptr id 0] H (PureE H (.i l.length)) := len_sound ha hw.bounds.1
set_option maxHeartbeats 2000000 in
theorem tells_sound {H : AHeap} {a b : Nat} {x y : Shp} {l m : List Nod} (ha : ArA H a x l) (hb : ArA H b y m) (wa : ArW x l) (wb : ArW y m) : Sound Try.prog 25 [.ptr a 0, .ptr b 0] H (PureE H (.b (tellB x y l m))) := by
  obtain ⟨p1, p2, p3⟩ := wa.bounds
  obtain ⟨q1, q2, q3⟩ := wb.bounds
  have hla := wa.len
  have hlb := wb.len
  refine fn_soundQ hE cf25 (Nat.le_of_ble_eq_true rfl) fun Q hQr hQn => ?_
  ((have hd := trivial; repeat' (first | ((first | refine GdK_st (fun hd => ?_) (fun hd => ?_) | refine GdK_sf (fun hd => ?_) (fun hd => ?_) | refine CondK_s (fun hd => ?_) (fun hd => ?_)) <;> (try simp only [hd])) | simp (disch := first | assumption | omega | (simp only [nx] <;> omega) | fail) only [hd, hQr, hQn, c25_0, ↓YA, YB, YC, YE, YF, YZ, ↓reduceIte, Nat.reduceEqDiff, Nat.reduceAdd, Nat.reduceMul, Nat.reduceLeDiff, Int.reduceToNat, Int.reduceLE, Int.reduceLT, Int.reduceGT, Int.reduceGE, Int.reduceAdd, Int.reduceSub, Int.reduceNeg, Int.reduceBEq, Int.reduceBNe])) <;> (try (have hd_ : True := hd; clear hd_ hd)))
  (refine CallK.use (awhole_sound ha wa) ?_; rintro _ _ ⟨rfl, k1, rfl⟩)
  cases h1 : wholeB x l with
  | false =>
    ((have hd := trivial; repeat' (first | ((first | refine GdK_st (fun hd => ?_) (fun hd => ?_) | refine GdK_sf (fun hd => ?_) (fun hd => ?_) | refine CondK_s (fun hd => ?_) (fun hd => ?_)) <;> (try simp only [hd])) | simp (disch := first | assumption | omega | (simp only [nx] <;> omega) | fail) only [hd, hQr, hQn, c25_0, ↓YA, YB, YC, YE, YF, YZ, ↓reduceIte, Nat.reduceEqDiff, Nat.reduceAdd, Nat.reduceMul, Nat.reduceLeDiff, Int.reduceToNat, Int.reduceLE, Int.reduceLT, Int.reduceGT, Int.reduceGE, Int.reduceAdd, Int.reduceSub, Int.reduceNeg, Int.reduceBEq, Int.reduceBNe, h1])) <;> (try (have hd_ : True := hd; clear hd_ hd)))
    exact fin_keep ⟨by unfold tellB; rw [h1]; rfl, (AHeap.Ext.refl H).bump⟩
  | true =>
    ((have hd := trivial; repeat' (first | ((first | refine GdK_st (fun hd => ?_) (fun hd => ?_) | refine GdK_sf (fun hd => ?_) (fun hd => ?_) | refine CondK_s (fun hd => ?_) (fun hd => ?_)) <;> (try simp only [hd])) | simp (disch := first | assumption | omega | (simp only [nx] <;> omega) | fail) only [hd, hQr, hQn, c25_0, ↓YA, YB, YC, YE, YF, YZ, ↓reduceIte, Nat.reduceEqDiff, Nat.reduceAdd, Nat.reduceMul, Nat.reduceLeDiff, Int.reduceToNat, Int.reduceLE, Int.reduceLT, Int.reduceGT, Int.reduceGE, Int.reduceAdd, Int.reduceSub, Int.reduceNeg, Int.reduceBEq, Int.reduceBNe, h1])) <;> (try (have hd_ : True := hd; clear hd_ hd)))
    (refine CallK.use (awhole_sound (hb.ext (AHeap.Ext.refl H).bump) wb) ?_; rintro _ _ ⟨rfl, k2, rfl⟩)
    cases h2 : wholeB y m with
    | false =>
      ((have hd := trivial; repeat' (first | ((first | refine GdK_st (fun hd => ?_) (fun hd => ?_) | refine GdK_sf (fun hd => ?_) (fun hd => ?_) | refine CondK_s (fun hd => ?_) (fun hd => ?_)) <;> (try simp only [hd])) | simp (disch := first | assumption | omega | (simp only [nx] <;> omega) | fail) only [hd, hQr, hQn, c25_0, ↓YA, YB, YC, YE, YF, YZ, ↓reduceIte, Nat.reduceEqDiff, Nat.reduceAdd, Nat.reduceMul, Nat.reduceLeDiff, Int.reduceToNat, Int.reduceLE, Int.reduceLT, Int.reduceGT, Int.reduceGE, Int.reduceAdd, Int.reduceSub, Int.reduceNeg, Int.reduceBEq, Int.reduceBNe, h2])) <;> (try (have hd_ : True := hd; clear hd_ hd)))
      exact fin_keep ⟨by unfold tellB; rw [h1, h2]; rfl, (AHeap.Ext.refl H).bump.bump⟩
    | true =>
      ((have hd := trivial; repeat' (first | ((first | refine GdK_st (fun hd => ?_) (fun hd => ?_) | refine GdK_sf (fun hd => ?_) (fun hd => ?_) | refine CondK_s (fun hd => ?_) (fun hd => ?_)) <;> (try simp only [hd])) | simp (disch := first | assumption | omega | (simp only [nx] <;> omega) | fail) only [hd, hQr, hQn, c25_0, ↓YA, YB, YC, YE, YF, YZ, ↓reduceIte, Nat.reduceEqDiff, Nat.reduceAdd, Nat.reduceMul, Nat.reduceLeDiff, Int.reduceToNat, Int.reduceLE, Int.reduceLT, Int.reduceGT, Int.reduceGE, Int.reduceAdd, Int.reduceSub, Int.reduceNeg, Int.reduceBEq, Int.reduceBNe, h2])) <;> (try (have hd_ : True := hd; clear hd_ hd)))
      have hx0 : AHeap.Ext H ((H.bump k1).bump k2) := by exact AXT
      obtain ⟨_, _, _, g1⟩ := (ha.ext hx0).eAr
      refine CallK.use (shape_yes g1 wa.may) ?_
      rintro r H1 ⟨hx1, t1, rfl⟩
      have hx1 := hx0.trans hx1
      ((have hd := trivial; repeat' (first | ((first | refine GdK_st (fun hd => ?_) (fun hd => ?_) | refine GdK_sf (fun hd => ?_) (fun hd => ?_) | refine CondK_s (fun hd => ?_) (fun hd => ?_)) <;> (try simp only [hd])) | simp (disch := first | assumption | omega | (simp only [nx] <;> omega) | fail) only [hd, hQr, hQn, c25_0, ↓YA, YB, YC, YE, YF, YZ, ↓reduceIte, Nat.reduceEqDiff, Nat.reduceAdd, Nat.reduceMul, Nat.reduceLeDiff, Int.reduceToNat, Int.reduceLE, Int.reduceLT, Int.reduceGT, Int.reduceGE, Int.reduceAdd, Int.reduceSub, Int.reduceNeg, Int.reduceBEq, Int.reduceBNe])) <;> (try (have hd_ : True := hd; clear hd_ hd)))
      obtain ⟨_, _, _, g2⟩ := (hb.ext hx1).eAr
      refine CallK.use (shape_yes g2 wb.may) ?_
      rintro r H2 ⟨hx2, t2, rfl⟩
      have hx2 := hx1.trans hx2
      ((have hd := trivial; repeat' (first | ((first | refine GdK_st (fun hd => ?_) (fun hd => ?_) | refine GdK_sf (fun hd => ?_) (fun hd => ?_) | refine CondK_s (fun hd => ?_) (fun hd => ?_)) <;> (try simp only [hd])) | simp (disch := first | assumption | omega | (simp only [nx] <;> omega) | fail) only [hd, hQr, hQn, c25_0, ↓YA, YB, YC, YE, YF, YZ, ↓reduceIte, Nat.reduceEqDiff, Nat.reduceAdd, Nat.reduceMul, Nat.reduceLeDiff, Int.reduceToNat, Int.reduceLE, Int.reduceLT, Int.reduceGT, Int.reduceGE, Int.reduceAdd, Int.reduceSub, Int.reduceNeg, Int.reduceBEq, Int.reduceBNe])) <;> (try (have hd_ : True := hd; clear hd_ hd)))
      (refine CallK.use (sshapes_sound t1 t2 x y _ (by omega) (fun s hs => by have := p3 s hs; omega)) ?_; rintro _ _ ⟨rfl, k3, rfl⟩)
      cases hxy : decide (x = y) with
      | false =>
        ((have hd := trivial; repeat' (first | ((first | refine GdK_st (fun hd => ?_) (fun hd => ?_) | refine GdK_sf (fun hd => ?_) (fun hd => ?_) | refine CondK_s (fun hd => ?_) (fun hd => ?_)) <;> (try simp only [hd])) | simp (disch := first | assumption | omega | (simp only [nx] <;> omega) | fail) only [hd, hQr, hQn, c25_0, ↓YA, YB, YC, YE, YF, YZ, ↓reduceIte, Nat.reduceEqDiff, Nat.reduceAdd, Nat.reduceMul, Nat.reduceLeDiff, Int.reduceToNat, Int.reduceLE, Int.reduceLT, Int.reduceGT, Int.reduceGE, Int.reduceAdd, Int.reduceSub, Int.reduceNeg, Int.reduceBEq, Int.reduceBNe, hxy])) <;> (try (have hd_ : True := hd; clear hd_ hd)))
        exact fin_keep ⟨by unfold tellB; rw [h1, h2, hxy]; rfl, hx2.bump⟩
      | true =>
        obtain rfl : x = y := of_decide_eq_true hxy
        ((have hd := trivial; repeat' (first | ((first | refine GdK_st (fun hd => ?_) (fun hd => ?_) | refine GdK_sf (fun hd => ?_) (fun hd => ?_) | refine CondK_s (fun hd => ?_) (fun hd => ?_)) <;> (try simp only [hd])) | simp (disch := first | assumption | omega | (simp only [nx] <;> omega) | fail) only [hd, hQr, hQn, c25_0, ↓YA, YB, YC, YE, YF, YZ, ↓reduceIte, Nat.reduceEqDiff, Nat.reduceAdd, Nat.reduceMul, Nat.reduceLeDiff, Int.reduceToNat, Int.reduceLE, Int.reduceLT, Int.reduceGT, Int.reduceGE, Int.reduceAdd, Int.reduceSub, Int.reduceNeg, Int.reduceBEq, Int.reduceBNe, hxy])) <;> (try (have hd_ : True := hd; clear hd_ hd)))
        (refine CallK.use (alen_sound (ha.ext hx2.bump) wa) ?_; rintro _ H3 ⟨rfl, hx3⟩)
        have hx3 := hx2.bump.trans hx3
        have fin : ∀ H' b, AHeap.Ext H H' → b = (if l.length = 0 ∨ m.length = 0 then decide (l.length = m.length) else tellsB x l m) → PureE H (.b (tellB x x l m)) (.b b) H' := fun H' b hx e => ⟨by unfold tellB; rw [h1, h2, hxy, ← e]; rfl, hx⟩
        have hee : ((l.length : Int) == (m.length : Int)) = decide (l.length = m.length) := by rw [Bool.eq_iff_iff]; simp; omega
        by_cases hl0 : l.length = 0
        · have d1 : ((l.length : Int) == 0) = true := by simp [hl0]
          ((have hd := trivial; repeat' (first | ((first | refine GdK_st (fun hd => ?_) (fun hd => ?_) | refine GdK_sf (fun hd => ?_) (fun hd => ?_) | refine CondK_s (fun hd => ?_) (fun hd => ?_)) <;> (try simp only [hd])) | simp (disch := first | assumption | omega | (simp only [nx] <;> omega) | fail) only [hd, hQr, hQn, c25_0, ↓YA, YB, YC, YE, YF, YZ, ↓reduceIte, Nat.reduceEqDiff, Nat.reduceAdd, Nat.reduceMul, Nat.reduceLeDiff, Int.reduceToNat, Int.reduceLE, Int.reduceLT, Int.reduceGT, Int.reduceGE, Int.reduceAdd, Int.reduceSub, Int.reduceNeg, Int.reduceBEq, Int.reduceBNe, d1])) <;> (try (have hd_ : True := hd; clear hd_ hd)))
          (refine CallK.use (alen_sound (ha.ext hx3) wa) ?_; rintro _ H4 ⟨rfl, hx4⟩)
          have hx4 := hx3.trans hx4
          ((have hd := trivial; repeat' (first | ((first | refine GdK_st (fun hd => ?_) (fun hd => ?_) | refine GdK_sf (fun hd => ?_) (fun hd => ?_) | refine CondK_s (fun hd => ?_) (fun hd => ?_)) <;> (try simp only [hd])) | simp (disch := first | assumption | omega | (simp only [nx] <;> omega) | fail) only [hd, hQr, hQn, c25_0, ↓YA, YB, YC, YE, YF, YZ, ↓reduceIte, Nat.reduceEqDiff, Nat.reduceAdd, Nat.reduceMul, Nat.reduceLeDiff, Int.reduceToNat, Int.reduceLE, Int.reduceLT, Int.reduceGT, Int.reduceGE, Int.reduceAdd, Int.reduceSub, Int.reduceNeg, Int.reduceBEq, Int.reduceBNe])) <;> (try (have hd_ : True := hd; clear hd_ hd)))
          (refine CallK.use (alen_sound (hb.ext hx4) wb) ?_; rintro _ H5 ⟨rfl, hx5⟩)
          ((have hd := trivial; repeat' (first | ((first | refine GdK_st (fun hd => ?_) (fun hd => ?_) | refine GdK_sf (fun hd => ?_) (fun hd => ?_) | refine CondK_s (fun hd => ?_) (fun hd => ?_)) <;> (try simp only [hd])) | simp (disch := first | assumption | omega | (simp only [nx] <;> omega) | fail) only [hd, hQr, hQn, c25_0, ↓YA, YB, YC, YE, YF, YZ, ↓reduceIte, Nat.reduceEqDiff, Nat.reduceAdd, Nat.reduceMul, Nat.reduceLeDiff, Int.reduceToNat, Int.reduceLE, Int.reduceLT, Int.reduceGT, Int.reduceGE, Int.reduceAdd, Int.reduceSub, Int.reduceNeg, Int.reduceBEq, Int.reduceBNe, hee])) <;> (try (have hd_ : True := hd; clear hd_ hd)))
          exact fin_keep (fin _ _ (hx4.trans hx5) (by rw [if_pos (.inl hl0)]))
        · have d1 : ((l.length : Int) == 0) = false := by rw [beq_eq_false_iff_ne]; omega
          ((have hd := trivial; repeat' (first | ((first | refine GdK_st (fun hd => ?_) (fun hd => ?_) | refine GdK_sf (fun hd => ?_) (fun hd => ?_) | refine CondK_s (fun hd => ?_) (fun hd => ?_)) <;> (try simp only [hd])) | simp (disch := first | assumption | omega | (simp only [nx] <;> omega) | fail) only [hd, hQr, hQn, c25_0, ↓YA, YB, YC, YE, YF, YZ, ↓reduceIte, Nat.reduceEqDiff, Nat.reduceAdd, Nat.reduceMul, Nat.reduceLeDiff, Int.reduceToNat, Int.reduceLE, Int.reduceLT, Int.reduceGT, Int.reduceGE, Int.reduceAdd, Int.reduceSub, Int.reduceNeg, Int.reduceBEq, Int.reduceBNe, d1])) <;> (try (have hd_ : True := hd; clear hd_ hd)))
          (refine CallK.use (alen_sound (hb.ext hx3) wb) ?_; rintro _ H4 ⟨rfl, hx4⟩)
          have hx4 := hx3.trans hx4
          by_cases hm0 : m.length = 0
          · have d2 : ((m.length : Int) == 0) = true := by simp [hm0]
            ((have hd := trivial; repeat' (first | ((first | refine GdK_st (fun hd => ?_) (fun hd => ?_) | refine GdK_sf (fun hd => ?_) (fun hd => ?_) | refine CondK_s (fun hd => ?_) (fun hd => ?_)) <;> (try simp only [hd])) | simp (disch := first | assumption | omega | (simp only [nx] <;> omega) | fail) only [hd, hQr, hQn, c25_0, ↓YA, YB, YC, YE, YF, YZ, ↓reduceIte, Nat.reduceEqDiff, Nat.reduceAdd, Nat.reduceMul, Nat.reduceLeDiff, Int.reduceToNat, Int.reduceLE, Int.reduceLT, Int.reduceGT, Int.reduceGE, Int.reduceAdd, Int.reduceSub, Int.reduceNeg, Int.reduceBEq, Int.reduceBNe, d2])) <;> (try (have hd_ : True := hd; clear hd_ hd)))
            (refine CallK.use (alen_sound (ha.ext hx4) wa) ?_; rintro _ H5 ⟨rfl, hx5⟩)
            have hx5 := hx4.trans hx5
            ((have hd := trivial; repeat' (first | ((first | refine GdK_st (fun hd => ?_) (fun hd => ?_) | refine GdK_sf (fun hd => ?_) (fun hd => ?_) | refine CondK_s (fun hd => ?_) (fun hd => ?_)) <;> (try simp only [hd])) | simp (disch := first | assumption | omega | (simp only [nx] <;> omega) | fail) only [hd, hQr, hQn, c25_0, ↓YA, YB, YC, YE, YF, YZ, ↓reduceIte, Nat.reduceEqDiff, Nat.reduceAdd, Nat.reduceMul, Nat.reduceLeDiff, Int.reduceToNat, Int.reduceLE, Int.reduceLT, Int.reduceGT, Int.reduceGE, Int.reduceAdd, Int.reduceSub, Int.reduceNeg, Int.reduceBEq, Int.reduceBNe])) <;> (try (have hd_ : True := hd; clear hd_ hd)))
            (refine CallK.use (alen_sound (hb.ext hx5) wb) ?_; rintro _ H6 ⟨rfl, hx6⟩)
            ((have hd := trivial; repeat' (first | ((first | refine GdK_st (fun hd => ?_) (fun hd => ?_) | refine GdK_sf (fun hd => ?_) (fun hd => ?_) | refine CondK_s (fun hd => ?_) (fun hd => ?_)) <;> (try simp only [hd])) | simp (disch := first | assumption | omega | (simp only [nx] <;> omega) | fail) only [hd, hQr, hQn, c25_0, ↓YA, YB, YC, YE, YF, YZ, ↓reduceIte, Nat.reduceEqDiff, Nat.reduceAdd, Nat.reduceMul, Nat.reduceLeDiff, Int.reduceToNat, Int.reduceLE, Int.reduceLT, Int.reduceGT, Int.reduceGE, Int.reduceAdd, Int.reduceSub, Int.reduceNeg, Int.reduceBEq, Int.reduceBNe, hee])) <;> (try (have hd_ : True := hd; clear hd_ hd)))
            exact fin_keep (fin _ _ (hx5.trans hx6) (by rw [if_pos (.inr hm0)]))
          · have d2 : ((m.length : Int) == 0) = false := by rw [beq_eq_false_iff_ne]; omega
            ((have hd := trivial; repeat' (first | ((first | refine GdK_st (fun hd => ?_) (fun hd => ?_) | refine GdK_sf (fun hd => ?_) (fun hd => ?_) | refine CondK_s (fun hd => ?_) (fun hd => ?_)) <;> (try simp only [hd])) | simp (disch := first | assumption | omega | (simp only [nx] <;> omega) | fail) only [hd, hQr, hQn, c25_0, ↓YA, YB, YC, YE, YF, YZ, ↓reduceIte, Nat.reduceEqDiff, Nat.reduceAdd, Nat.reduceMul, Nat.reduceLeDiff, Int.reduceToNat, Int.reduceLE, Int.reduceLT, Int.reduceGT, Int.reduceGE, Int.reduceAdd, Int.reduceSub, Int.reduceNeg, Int.reduceBEq, Int.reduceBNe, d2])) <;> (try (have hd_ : True := hd; clear hd_ hd)))
            have hx5 : AHeap.Ext H ((H4.alloc (.map (.row [.int .i64, .int .i64]) [] false)).alloc (.cells [.ptr a 0, .ptr b 0, .mp H4.next] 94)) := hx4.alloc.alloc
            refine CallK.use (top_sound (ha.ext hx5) p1 (by omega)) ?_
            rintro _ H5 ⟨rfl, hx6⟩
            have hx7 := hx5.trans hx6
            ((have hd := trivial; repeat' (first | ((first | refine GdK_st (fun hd => ?_) (fun hd => ?_) | refine GdK_sf (fun hd => ?_) (fun hd => ?_) | refine CondK_s (fun hd => ?_) (fun hd => ?_)) <;> (try simp only [hd])) | simp (disch := first | assumption | omega | (simp only [nx] <;> omega) | fail) only [hd, hQr, hQn, c25_0, ↓YA, YB, YC, YE, YF, YZ, ↓reduceIte, Nat.reduceEqDiff, Nat.reduceAdd, Nat.reduceMul, Nat.reduceLeDiff, Int.reduceToNat, Int.reduceLE, Int.reduceLT, Int.reduceGT, Int.reduceGE, Int.reduceAdd, Int.reduceSub, Int.reduceNeg, Int.reduceBEq, Int.reduceBNe])) <;> (try (have hd_ : True := hd; clear hd_ hd)))
            refine CallK.use (top_sound (hb.ext hx7) q1 (by omega)) ?_
            rintro _ H6 ⟨rfl, hx8⟩
            ((have hd := trivial; repeat' (first | ((first | refine GdK_st (fun hd => ?_) (fun hd => ?_) | refine GdK_sf (fun hd => ?_) (fun hd => ?_) | refine CondK_s (fun hd => ?_) (fun hd => ?_)) <;> (try simp only [hd])) | simp (disch := first | assumption | omega | (simp only [nx] <;> omega) | fail) only [hd, hQr, hQn, c25_0, ↓YA, YB, YC, YE, YF, YZ, ↓reduceIte, Nat.reduceEqDiff, Nat.reduceAdd, Nat.reduceMul, Nat.reduceLeDiff, Int.reduceToNat, Int.reduceLE, Int.reduceLT, Int.reduceGT, Int.reduceGE, Int.reduceAdd, Int.reduceSub, Int.reduceNeg, Int.reduceBEq, Int.reduceBNe])) <;> (try (have hd_ : True := hd; clear hd_ hd)))
            have ia := (ha.ext hx4)
            have ib := (hb.ext hx4)
            have hW : Wk (H4.next + 1) a b H4.next x l m [] ((H4.alloc (.map (.row [.int .i64, .int .i64]) [] false)).alloc (.cells [.ptr a 0, .ptr b 0, .mp H4.next] 94)) := by
              obtain ⟨_, _, _, e1⟩ := ia
              obtain ⟨_, _, _, e2⟩ := ib
              have := AHeap.lt e1
              have := AHeap.lt e2
              exact ⟨AHeap.get_alloc_self (H := H4.alloc _), ha.ext hx5, hb.ext hx5, by rw [AHeap.get_alloc_ne (by simp)]; exact AHeap.get_alloc_self, (fun p v h => by simp [aGet] at h), by omega, by omega, by omega⟩
            refine CallK.use (walk_sound p1 (by omega) wa.may wa.small wb.small wa.down l.length ((l.length : Int) - 1, (m.length : Int) - 1) (by simp only; omega) (by simp only; omega) (by simp only; omega) [] _ (hW.ext (hx6.trans hx8))) ?_
            have hext : ∀ G, ExtB H4.next H6 G → AHeap.Ext H G := fun G hB => ⟨by have := (hx7.trans hx8).next; have := hB.next; omega, fun i o e => hB.get i o (by have := AHeap.lt e; have := hx4.next; omega) ((hx7.trans hx8).get i o e)⟩
            rintro r H7 ⟨hB, ⟨rfl, M', hW', hG, hh⟩ | ⟨rfl, hf⟩⟩
            · ((have hd := trivial; repeat' (first | ((first | refine GdK_st (fun hd => ?_) (fun hd => ?_) | refine GdK_sf (fun hd => ?_) (fun hd => ?_) | refine CondK_s (fun hd => ?_) (fun hd => ?_)) <;> (try simp only [hd])) | simp (disch := first | assumption | omega | (simp only [nx] <;> omega) | fail) only [hd, hQr, hQn, c25_0, ↓YA, YB, YC, YE, YF, YZ, ↓reduceIte, Nat.reduceEqDiff, Nat.reduceAdd, Nat.reduceMul, Nat.reduceLeDiff, Int.reduceToNat, Int.reduceLE, Int.reduceLT, Int.reduceGT, Int.reduceGE, Int.reduceAdd, Int.reduceSub, Int.reduceNeg, Int.reduceBEq, Int.reduceBNe])) <;> (try (have hd_ : True := hd; clear hd_ hd)))
              refine fin_keep (fin _ _ (hext _ hB) ?_)
              rw [if_neg (by omega)]
              symm
              refine told_good wa.down (fun p hp => ?_) l.length _ (by simp only; omega) (by simp only; omega) (by simp only; omega) hh
              rcases hG.new p hp with h | h
              · cases h
              · exact h
            · ((have hd := trivial; repeat' (first | ((first | refine GdK_st (fun hd => ?_) (fun hd => ?_) | refine GdK_sf (fun hd => ?_) (fun hd => ?_) | refine CondK_s (fun hd => ?_) (fun hd => ?_)) <;> (try simp only [hd])) | simp (disch := first | assumption | omega | (simp only [nx] <;> omega) | fail) only [hd, hQr, hQn, c25_0, ↓YA, YB, YC, YE, YF, YZ, ↓reduceIte, Nat.reduceEqDiff, Nat.reduceAdd, Nat.reduceMul, Nat.reduceLeDiff, Int.reduceToNat, Int.reduceLE, Int.reduceLT, Int.reduceGT, Int.reduceGE, Int.reduceAdd, Int.reduceSub, Int.reduceNeg, Int.reduceBEq, Int.reduceBNe])) <;> (try (have hd_ : True := hd; clear hd_ hd)))
              refine fin_keep (fin _ _ (hext _ hB) ?_)
              rw [if_neg (by omega)]
              exact (hf l.length).symm
theorem run_aw31 : runF X8 T9 60 40 20 [] isT [] = true := by kernel_rfl
theorem awake31 (H : AHeap) : Sound Try.prog 20 [] H (Pure H (.b true)) := @Sound.closed Try.prog 20 [] _ _ (run_true9 (vs := []) run_aw31) (fun _ _ h => h) H
end Go.Proofs.Ytgnpihhakogeeaa

namespace Go.Proofs.Ytgnpihhakogeeaa
set_option linter.unusedSimpArgs false
set_option linter.unusedVariables false
open Go.RowKit

theorem bfc (b : Bool) : b = false ∨ b = true := by cases b <;> simp
theorem flat_mem_le {α : Type} {c : List α} : ∀ {ls : List (List α)}, c ∈ ls → c.length ≤ ls.flatten.length
  | [], h => by cases h
  | a :: ls, h => by
    rw [List.flatten_cons, List.length_append]
    rcases List.mem_cons.1 h with rfl | h
    · omega
    · have := flat_mem_le h; omega
theorem FewNods.small {most : Nat} {l : List Nod} (h : FewNods most l) : ∀ n ∈ l, smallN n := by
  intro n hn
  obtain ⟨h1, h2⟩ := h.2 n hn
  refine ⟨by omega, by omega, fun c hc => ?_⟩
  have : c.length ≤ n.lists.flatten.length := by
    exact flat_mem_le hc
  omega
theorem load_all {x : Shp} {l : List Nod} (h : loadErr x l = 0) : shpMay x = true ∧ ∀ i (hi : i < l.length), addErr x 131072 (l.take i) l[i] = 0 := by
  unfold loadErr at h
  cases hm : shpMay x with
  | false => rw [hm] at h; cases h
  | true =>
    rw [hm] at h
    simp only [Bool.true_eq_false, if_false] at h
    have h' : loadFrom x 131072 (l.take 0) (l.drop 0) = 0 := h
    refine ⟨rfl, ?_⟩
    have : ∀ k, loadFrom x 131072 (l.take k) (l.drop k) = 0 → ∀ i (hi : i < l.length), k ≤ i → addErr x 131072 (l.take i) l[i] = 0 := by
      intro k
      generalize hn : l.length - k = n
      induction n generalizing k with
      | zero => intro _ i hi hk; omega
      | succ n ih =>
        intro hk i hi hki
        have hkl : k < l.length := by omega
        rw [loadFrom_step x 131072 l k hkl] at hk
        by_cases he : addErr x 131072 (l.take k) l[k] = 0
        · rw [if_neg (by simpa using he)] at hk
          rcases Nat.eq_or_lt_of_le hki with rfl | hlt
          · exact he
          · exact ih (k + 1) (by omega) hk i hi hlt
        · rw [if_pos he] at hk; exact absurd hk he
    exact fun i hi => this 0 h' i hi (Nat.zero_le _)
theorem add_zero' {x : Shp} {most : Int} {l : List Nod} {n : Nod} (h : addErr x most l n = 0) : checkErr x n = 0 ∧ leadsB x l n = true ∧ (l.length : Int) < most := by
  unfold addErr at h
  split at h
  · rename_i h1; exact absurd h h1
  · rename_i h1
    split at h
    · cases h
    · rename_i h2
      split at h
      · cases h
      · rename_i h3
        exact ⟨by simpa using h1, by simpa using h2, by omega⟩
theorem load_w {x : Shp} {l : List Nod} (h : loadErr x l = 0) (hlen : l.length ≤ 100000) (hs : ∀ n ∈ l, smallN n) : ArW x l ∧ ∀ n ∈ l, 0 ≤ n.dim ∧ n.dim < x.sizes.length := by
  obtain ⟨hm, ha⟩ := load_all h
  refine ⟨⟨hm, hlen, hs, fun i hi hl c hc => ?_⟩, fun n hn => ?_⟩
  · rw [nodAt_nat hi] at hl hc
    obtain ⟨h1, h2, _⟩ := add_zero' (ha i hi)
    unfold leadsB at h2
    rw [hl, Bool.false_or, List.all_eq_true] at h2
    have h3 := h2 c hc
    simp only [Bool.and_eq_true, decide_eq_true_eq, List.length_take] at h3
    exact ⟨check_child h1 hl c hc, by omega⟩
  · obtain ⟨i, hi, rfl⟩ := List.getElem_of_mem hn
    have := check_dim (add_zero' (ha i hi)).1
    exact ⟨this.1, this.2.1⟩
theorem LoadQ.arw {x : Shp} {l : List Nod} {H H' : AHeap} {id : Nat} (h : ArNew x l 131072 H H' id) : ArA H' id x l := by
  obtain ⟨tk, tok, h, _⟩ := h
  exact h.ara
set_option maxHeartbeats 4000000 in
set_option maxRecDepth 100000 in
theorem sameTells_sound (x y : Shp) (l m : List Nod) (H : AHeap) : Sound Try.prog 4 [.agg (eShp x), .agg (eShp y), .sl .no (rN l), .sl .no (rN m)] H fun r _ => r = .b true := by
  refine fn_soundQ hE cf4 (Nat.le_of_ble_eq_true rfl) fun Q hQr hQn => ?_
  ((have hd := trivial; repeat' (first | ((first | refine GdK_st (fun hd => ?_) (fun hd => ?_) | refine GdK_sf (fun hd => ?_) (fun hd => ?_) | refine CondK_s (fun hd => ?_) (fun hd => ?_)) <;> (try simp only [hd])) | simp (disch := first | assumption | omega | (simp only [nx] <;> omega) | fail) only [hd, hQr, hQn, c4_0, ↓YA, YB, YC, YE, YF, YZ, ↓reduceIte, Nat.reduceEqDiff, Nat.reduceAdd, Nat.reduceMul, Nat.reduceLeDiff, Int.reduceToNat, Int.reduceLE, Int.reduceLT, Int.reduceGT, Int.reduceGE, Int.reduceAdd, Int.reduceSub, Int.reduceNeg, Int.reduceBEq, Int.reduceBNe])) <;> (try (have hd_ : True := hd; clear hd_ hd)))
  (refine CallK.use (small_sound x _) ?_; rintro _ _ ⟨rfl, k1, rfl⟩)
  have s1 := bfc (small x)
  rcases s1 with s1 | s1
  · ((have hd := trivial; repeat' (first | ((first | refine GdK_st (fun hd => ?_) (fun hd => ?_) | refine GdK_sf (fun hd => ?_) (fun hd => ?_) | refine CondK_s (fun hd => ?_) (fun hd => ?_)) <;> (try simp only [hd])) | simp (disch := first | assumption | omega | (simp only [nx] <;> omega) | fail) only [hd, hQr, hQn, c4_0, ↓YA, YB, YC, YE, YF, YZ, ↓reduceIte, Nat.reduceEqDiff, Nat.reduceAdd, Nat.reduceMul, Nat.reduceLeDiff, Int.reduceToNat, Int.reduceLE, Int.reduceLT, Int.reduceGT, Int.reduceGE, Int.reduceAdd, Int.reduceSub, Int.reduceNeg, Int.reduceBEq, Int.reduceBNe, s1])) <;> (try (have hd_ : True := hd; clear hd_ hd)))
    (refine CallK.use (awake31 _) ?_; rintro _ _ ⟨rfl, k2, rfl⟩)
    ((have hd := trivial; repeat' (first | ((first | refine GdK_st (fun hd => ?_) (fun hd => ?_) | refine GdK_sf (fun hd => ?_) (fun hd => ?_) | refine CondK_s (fun hd => ?_) (fun hd => ?_)) <;> (try simp only [hd])) | simp (disch := first | assumption | omega | (simp only [nx] <;> omega) | fail) only [hd, hQr, hQn, c4_0, ↓YA, YB, YC, YE, YF, YZ, ↓reduceIte, Nat.reduceEqDiff, Nat.reduceAdd, Nat.reduceMul, Nat.reduceLeDiff, Int.reduceToNat, Int.reduceLE, Int.reduceLT, Int.reduceGT, Int.reduceGE, Int.reduceAdd, Int.reduceSub, Int.reduceNeg, Int.reduceBEq, Int.reduceBNe])) <;> (try (have hd_ : True := hd; clear hd_ hd)))
    exact fin_keep rfl
  ((have hd := trivial; repeat' (first | ((first | refine GdK_st (fun hd => ?_) (fun hd => ?_) | refine GdK_sf (fun hd => ?_) (fun hd => ?_) | refine CondK_s (fun hd => ?_) (fun hd => ?_)) <;> (try simp only [hd])) | simp (disch := first | assumption | omega | (simp only [nx] <;> omega) | fail) only [hd, hQr, hQn, c4_0, ↓YA, YB, YC, YE, YF, YZ, ↓reduceIte, Nat.reduceEqDiff, Nat.reduceAdd, Nat.reduceMul, Nat.reduceLeDiff, Int.reduceToNat, Int.reduceLE, Int.reduceLT, Int.reduceGT, Int.reduceGE, Int.reduceAdd, Int.reduceSub, Int.reduceNeg, Int.reduceBEq, Int.reduceBNe, s1])) <;> (try (have hd_ : True := hd; clear hd_ hd)))
  (refine CallK.use (small_sound y _) ?_; rintro _ _ ⟨rfl, k2, rfl⟩)
  have s2 := bfc (small y)
  rcases s2 with s2 | s2
  · ((have hd := trivial; repeat' (first | ((first | refine GdK_st (fun hd => ?_) (fun hd => ?_) | refine GdK_sf (fun hd => ?_) (fun hd => ?_) | refine CondK_s (fun hd => ?_) (fun hd => ?_)) <;> (try simp only [hd])) | simp (disch := first | assumption | omega | (simp only [nx] <;> omega) | fail) only [hd, hQr, hQn, c4_0, ↓YA, YB, YC, YE, YF, YZ, ↓reduceIte, Nat.reduceEqDiff, Nat.reduceAdd, Nat.reduceMul, Nat.reduceLeDiff, Int.reduceToNat, Int.reduceLE, Int.reduceLT, Int.reduceGT, Int.reduceGE, Int.reduceAdd, Int.reduceSub, Int.reduceNeg, Int.reduceBEq, Int.reduceBNe, s2])) <;> (try (have hd_ : True := hd; clear hd_ hd)))
    (refine CallK.use (awake31 _) ?_; rintro _ _ ⟨rfl, k3, rfl⟩)
    ((have hd := trivial; repeat' (first | ((first | refine GdK_st (fun hd => ?_) (fun hd => ?_) | refine GdK_sf (fun hd => ?_) (fun hd => ?_) | refine CondK_s (fun hd => ?_) (fun hd => ?_)) <;> (try simp only [hd])) | simp (disch := first | assumption | omega | (simp only [nx] <;> omega) | fail) only [hd, hQr, hQn, c4_0, ↓YA, YB, YC, YE, YF, YZ, ↓reduceIte, Nat.reduceEqDiff, Nat.reduceAdd, Nat.reduceMul, Nat.reduceLeDiff, Int.reduceToNat, Int.reduceLE, Int.reduceLT, Int.reduceGT, Int.reduceGE, Int.reduceAdd, Int.reduceSub, Int.reduceNeg, Int.reduceBEq, Int.reduceBNe])) <;> (try (have hd_ : True := hd; clear hd_ hd)))
    exact fin_keep rfl
  ((have hd := trivial; repeat' (first | ((first | refine GdK_st (fun hd => ?_) (fun hd => ?_) | refine GdK_sf (fun hd => ?_) (fun hd => ?_) | refine CondK_s (fun hd => ?_) (fun hd => ?_)) <;> (try simp only [hd])) | simp (disch := first | assumption | omega | (simp only [nx] <;> omega) | fail) only [hd, hQr, hQn, c4_0, ↓YA, YB, YC, YE, YF, YZ, ↓reduceIte, Nat.reduceEqDiff, Nat.reduceAdd, Nat.reduceMul, Nat.reduceLeDiff, Int.reduceToNat, Int.reduceLE, Int.reduceLT, Int.reduceGT, Int.reduceGE, Int.reduceAdd, Int.reduceSub, Int.reduceNeg, Int.reduceBEq, Int.reduceBNe, s2])) <;> (try (have hd_ : True := hd; clear hd_ hd)))
  refine CallK.use (few_sound .no l 15 _ (by omega)) ?_
  rintro r H1 ⟨hx1, b1, rfl, f1⟩
  cases b1 with
  | false =>
    ((have hd := trivial; repeat' (first | ((first | refine GdK_st (fun hd => ?_) (fun hd => ?_) | refine GdK_sf (fun hd => ?_) (fun hd => ?_) | refine CondK_s (fun hd => ?_) (fun hd => ?_)) <;> (try simp only [hd])) | simp (disch := first | assumption | omega | (simp only [nx] <;> omega) | fail) only [hd, hQr, hQn, c4_0, ↓YA, YB, YC, YE, YF, YZ, ↓reduceIte, Nat.reduceEqDiff, Nat.reduceAdd, Nat.reduceMul, Nat.reduceLeDiff, Int.reduceToNat, Int.reduceLE, Int.reduceLT, Int.reduceGT, Int.reduceGE, Int.reduceAdd, Int.reduceSub, Int.reduceNeg, Int.reduceBEq, Int.reduceBNe])) <;> (try (have hd_ : True := hd; clear hd_ hd)))
    (refine CallK.use (awake31 _) ?_; rintro _ _ ⟨rfl, k3, rfl⟩)
    ((have hd := trivial; repeat' (first | ((first | refine GdK_st (fun hd => ?_) (fun hd => ?_) | refine GdK_sf (fun hd => ?_) (fun hd => ?_) | refine CondK_s (fun hd => ?_) (fun hd => ?_)) <;> (try simp only [hd])) | simp (disch := first | assumption | omega | (simp only [nx] <;> omega) | fail) only [hd, hQr, hQn, c4_0, ↓YA, YB, YC, YE, YF, YZ, ↓reduceIte, Nat.reduceEqDiff, Nat.reduceAdd, Nat.reduceMul, Nat.reduceLeDiff, Int.reduceToNat, Int.reduceLE, Int.reduceLT, Int.reduceGT, Int.reduceGE, Int.reduceAdd, Int.reduceSub, Int.reduceNeg, Int.reduceBEq, Int.reduceBNe])) <;> (try (have hd_ : True := hd; clear hd_ hd)))
    exact fin_keep rfl
  | true =>
  have f1 := f1 rfl
  ((have hd := trivial; repeat' (first | ((first | refine GdK_st (fun hd => ?_) (fun hd => ?_) | refine GdK_sf (fun hd => ?_) (fun hd => ?_) | refine CondK_s (fun hd => ?_) (fun hd => ?_)) <;> (try simp only [hd])) | simp (disch := first | assumption | omega | (simp only [nx] <;> omega) | fail) only [hd, hQr, hQn, c4_0, ↓YA, YB, YC, YE, YF, YZ, ↓reduceIte, Nat.reduceEqDiff, Nat.reduceAdd, Nat.reduceMul, Nat.reduceLeDiff, Int.reduceToNat, Int.reduceLE, Int.reduceLT, Int.reduceGT, Int.reduceGE, Int.reduceAdd, Int.reduceSub, Int.reduceNeg, Int.reduceBEq, Int.reduceBNe])) <;> (try (have hd_ : True := hd; clear hd_ hd)))
  refine CallK.use (few_sound .no m 15 _ (by omega)) ?_
  rintro r H2 ⟨hx2, b2, rfl, f2⟩
  cases b2 with
  | false =>
    ((have hd := trivial; repeat' (first | ((first | refine GdK_st (fun hd => ?_) (fun hd => ?_) | refine GdK_sf (fun hd => ?_) (fun hd => ?_) | refine CondK_s (fun hd => ?_) (fun hd => ?_)) <;> (try simp only [hd])) | simp (disch := first | assumption | omega | (simp only [nx] <;> omega) | fail) only [hd, hQr, hQn, c4_0, ↓YA, YB, YC, YE, YF, YZ, ↓reduceIte, Nat.reduceEqDiff, Nat.reduceAdd, Nat.reduceMul, Nat.reduceLeDiff, Int.reduceToNat, Int.reduceLE, Int.reduceLT, Int.reduceGT, Int.reduceGE, Int.reduceAdd, Int.reduceSub, Int.reduceNeg, Int.reduceBEq, Int.reduceBNe])) <;> (try (have hd_ : True := hd; clear hd_ hd)))
    (refine CallK.use (awake31 _) ?_; rintro _ _ ⟨rfl, k3, rfl⟩)
    ((have hd := trivial; repeat' (first | ((first | refine GdK_st (fun hd => ?_) (fun hd => ?_) | refine GdK_sf (fun hd => ?_) (fun hd => ?_) | refine CondK_s (fun hd => ?_) (fun hd => ?_)) <;> (try simp only [hd])) | simp (disch := first | assumption | omega | (simp only [nx] <;> omega) | fail) only [hd, hQr, hQn, c4_0, ↓YA, YB, YC, YE, YF, YZ, ↓reduceIte, Nat.reduceEqDiff, Nat.reduceAdd, Nat.reduceMul, Nat.reduceLeDiff, Int.reduceToNat, Int.reduceLE, Int.reduceLT, Int.reduceGT, Int.reduceGE, Int.reduceAdd, Int.reduceSub, Int.reduceNeg, Int.reduceBEq, Int.reduceBNe])) <;> (try (have hd_ : True := hd; clear hd_ hd)))
    exact fin_keep rfl
  | true =>
  have f2 := f2 rfl
  have hl := f1.1
  have hm := f2.1
  have hs1 := f1.small
  have hs2 := f2.small
  have hx12 := (hx1.trans0 hx2).ext
  have ga := hx12.get _ _ (by simp only [AHeap.get_bump]; rw [AHeap.get_alloc_ne (by simp)]; exact AHeap.get_alloc_self : ((((H.alloc (.cells (eShp x) 24)).alloc (.cells (eShp y) 24)).bump k1).bump k2).get H.next = some (.cells (eShp x) 24))
  have gb := hx12.get _ _ (by simp only [AHeap.get_bump]; exact AHeap.get_alloc_self (H := H.alloc _) : ((((H.alloc (.cells (eShp x) 24)).alloc (.cells (eShp y) 24)).bump k1).bump k2).get (H.next + 1) = some (.cells (eShp y) 24))
  ((have hd := trivial; repeat' (first | ((first | refine GdK_st (fun hd => ?_) (fun hd => ?_) | refine GdK_sf (fun hd => ?_) (fun hd => ?_) | refine CondK_s (fun hd => ?_) (fun hd => ?_)) <;> (try simp only [hd])) | simp (disch := first | assumption | omega | (simp only [nx] <;> omega) | fail) only [hd, hQr, hQn, c4_0, ↓YA, YB, YC, YE, YF, YZ, ↓reduceIte, Nat.reduceEqDiff, Nat.reduceAdd, Nat.reduceMul, Nat.reduceLeDiff, Int.reduceToNat, Int.reduceLE, Int.reduceLT, Int.reduceGT, Int.reduceGE, Int.reduceAdd, Int.reduceSub, Int.reduceNeg, Int.reduceBEq, Int.reduceBNe, ga])) <;> (try (have hd_ : True := hd; clear hd_ hd)))
  refine CallK.use (load_sound .no x l _ (by omega) hs1) ?_
  rintro r H3 ⟨hx3, hr⟩
  have ga3 := hx3.get _ _ ga
  have gb3 := hx3.get _ _ gb
  obtain ⟨r1, hr1⟩ : ∃ r1, r = .tup [r1, .i (loadErr x l)] ∧ (loadErr x l = 0 → ∃ id, r1 = .ptr id 0 ∧ ArNew x l 131072 H2 H3 id) := by
    rcases hr with ⟨h1, rfl⟩ | ⟨h1, id, rfl, h2⟩
    · exact ⟨_, rfl, fun h => absurd h h1⟩
    · exact ⟨_, by rw [h1], fun _ => ⟨id, rfl, h2⟩⟩
  obtain ⟨rfl, ha⟩ := hr1
  clear hr
  ((have hd := trivial; repeat' (first | ((first | refine GdK_st (fun hd => ?_) (fun hd => ?_) | refine GdK_sf (fun hd => ?_) (fun hd => ?_) | refine CondK_s (fun hd => ?_) (fun hd => ?_)) <;> (try simp only [hd])) | simp (disch := first | assumption | omega | (simp only [nx] <;> omega) | fail) only [hd, hQr, hQn, c4_0, ↓YA, YB, YC, YE, YF, YZ, ↓reduceIte, Nat.reduceEqDiff, Nat.reduceAdd, Nat.reduceMul, Nat.reduceLeDiff, Int.reduceToNat, Int.reduceLE, Int.reduceLT, Int.reduceGT, Int.reduceGE, Int.reduceAdd, Int.reduceSub, Int.reduceNeg, Int.reduceBEq, Int.reduceBNe, gb3])) <;> (try (have hd_ : True := hd; clear hd_ hd)))
  refine CallK.use (load_sound .no y m _ (by omega) hs2) ?_
  rintro r H4 ⟨hx4, hr⟩
  have ga4 := hx4.get _ _ ga3
  have gb4 := hx4.get _ _ gb3
  obtain ⟨r2, hr2⟩ : ∃ r2, r = .tup [r2, .i (loadErr y m)] ∧ (loadErr y m = 0 → ∃ id, r2 = .ptr id 0 ∧ ArNew y m 131072 H3 H4 id) := by
    rcases hr with ⟨h1, rfl⟩ | ⟨h1, id, rfl, h2⟩
    · exact ⟨_, rfl, fun h => absurd h h1⟩
    · exact ⟨_, by rw [h1], fun _ => ⟨id, rfl, h2⟩⟩
  obtain ⟨rfl, hb⟩ := hr2
  clear hr
  by_cases e1 : loadErr x l = 0
  case neg =>
    have d1 : (loadErr x l != 0) = true := by simpa using e1
    ((have hd := trivial; repeat' (first | ((first | refine GdK_st (fun hd => ?_) (fun hd => ?_) | refine GdK_sf (fun hd => ?_) (fun hd => ?_) | refine CondK_s (fun hd => ?_) (fun hd => ?_)) <;> (try simp only [hd])) | simp (disch := first | assumption | omega | (simp only [nx] <;> omega) | fail) only [hd, hQr, hQn, c4_0, ↓YA, YB, YC, YE, YF, YZ, ↓reduceIte, Nat.reduceEqDiff, Nat.reduceAdd, Nat.reduceMul, Nat.reduceLeDiff, Int.reduceToNat, Int.reduceLE, Int.reduceLT, Int.reduceGT, Int.reduceGE, Int.reduceAdd, Int.reduceSub, Int.reduceNeg, Int.reduceBEq, Int.reduceBNe, d1])) <;> (try (have hd_ : True := hd; clear hd_ hd)))
    (refine CallK.use (awake31 _) ?_; rintro _ _ ⟨rfl, k3, rfl⟩)
    ((have hd := trivial; repeat' (first | ((first | refine GdK_st (fun hd => ?_) (fun hd => ?_) | refine GdK_sf (fun hd => ?_) (fun hd => ?_) | refine CondK_s (fun hd => ?_) (fun hd => ?_)) <;> (try simp only [hd])) | simp (disch := first | assumption | omega | (simp only [nx] <;> omega) | fail) only [hd, hQr, hQn, c4_0, ↓YA, YB, YC, YE, YF, YZ, ↓reduceIte, Nat.reduceEqDiff, Nat.reduceAdd, Nat.reduceMul, Nat.reduceLeDiff, Int.reduceToNat, Int.reduceLE, Int.reduceLT, Int.reduceGT, Int.reduceGE, Int.reduceAdd, Int.reduceSub, Int.reduceNeg, Int.reduceBEq, Int.reduceBNe])) <;> (try (have hd_ : True := hd; clear hd_ hd)))
    exact fin_keep rfl
  by_cases e2 : loadErr y m = 0
  case neg =>
    have d1 : (loadErr x l != 0) = false := by simpa using e1
    have d2 : (loadErr y m != 0) = true := by simpa using e2
    ((have hd := trivial; repeat' (first | ((first | refine GdK_st (fun hd => ?_) (fun hd => ?_) | refine GdK_sf (fun hd => ?_) (fun hd => ?_) | refine CondK_s (fun hd => ?_) (fun hd => ?_)) <;> (try simp only [hd])) | simp (disch := first | assumption | omega | (simp only [nx] <;> omega) | fail) only [hd, hQr, hQn, c4_0, ↓YA, YB, YC, YE, YF, YZ, ↓reduceIte, Nat.reduceEqDiff, Nat.reduceAdd, Nat.reduceMul, Nat.reduceLeDiff, Int.reduceToNat, Int.reduceLE, Int.reduceLT, Int.reduceGT, Int.reduceGE, Int.reduceAdd, Int.reduceSub, Int.reduceNeg, Int.reduceBEq, Int.reduceBNe, d1, d2])) <;> (try (have hd_ : True := hd; clear hd_ hd)))
    (refine CallK.use (awake31 _) ?_; rintro _ _ ⟨rfl, k3, rfl⟩)
    ((have hd := trivial; repeat' (first | ((first | refine GdK_st (fun hd => ?_) (fun hd => ?_) | refine GdK_sf (fun hd => ?_) (fun hd => ?_) | refine CondK_s (fun hd => ?_) (fun hd => ?_)) <;> (try simp only [hd])) | simp (disch := first | assumption | omega | (simp only [nx] <;> omega) | fail) only [hd, hQr, hQn, c4_0, ↓YA, YB, YC, YE, YF, YZ, ↓reduceIte, Nat.reduceEqDiff, Nat.reduceAdd, Nat.reduceMul, Nat.reduceLeDiff, Int.reduceToNat, Int.reduceLE, Int.reduceLT, Int.reduceGT, Int.reduceGE, Int.reduceAdd, Int.reduceSub, Int.reduceNeg, Int.reduceBEq, Int.reduceBNe])) <;> (try (have hd_ : True := hd; clear hd_ hd)))
    exact fin_keep rfl
  obtain ⟨ia, rfl, ha'⟩ := ha e1
  obtain ⟨ib, rfl, hb'⟩ := hb e2
  obtain ⟨wa, da⟩ := load_w e1 (by omega) hs1
  obtain ⟨wb, db⟩ := load_w e2 (by omega) hs2
  have ha := (LoadQ.arw ha').ext hx4
  have hb := LoadQ.arw hb'
  have d1 : (loadErr x l != 0) = false := by simpa using e1
  have d2 : (loadErr y m != 0) = false := by simpa using e2
  obtain ⟨p1, p2, p3⟩ := wa.bounds
  obtain ⟨q1, q2, q3⟩ := wb.bounds
  ((have hd := trivial; repeat' (first | ((first | refine GdK_st (fun hd => ?_) (fun hd => ?_) | refine GdK_sf (fun hd => ?_) (fun hd => ?_) | refine CondK_s (fun hd => ?_) (fun hd => ?_)) <;> (try simp only [hd])) | simp (disch := first | assumption | omega | (simp only [nx] <;> omega) | fail) only [hd, hQr, hQn, c4_0, ↓YA, YB, YC, YE, YF, YZ, ↓reduceIte, Nat.reduceEqDiff, Nat.reduceAdd, Nat.reduceMul, Nat.reduceLeDiff, Int.reduceToNat, Int.reduceLE, Int.reduceLT, Int.reduceGT, Int.reduceGE, Int.reduceAdd, Int.reduceSub, Int.reduceNeg, Int.reduceBEq, Int.reduceBNe, d1, d2, ga4])) <;> (try (have hd_ : True := hd; clear hd_ hd)))
  (refine CallK.use (loads_sound .no x l _ (by omega) hs1) ?_; rintro _ _ ⟨rfl, k3, rfl⟩)
  ((have hd := trivial; repeat' (first | ((first | refine GdK_st (fun hd => ?_) (fun hd => ?_) | refine GdK_sf (fun hd => ?_) (fun hd => ?_) | refine CondK_s (fun hd => ?_) (fun hd => ?_)) <;> (try simp only [hd])) | simp (disch := first | assumption | omega | (simp only [nx] <;> omega) | fail) only [hd, hQr, hQn, c4_0, ↓YA, YB, YC, YE, YF, YZ, ↓reduceIte, Nat.reduceEqDiff, Nat.reduceAdd, Nat.reduceMul, Nat.reduceLeDiff, Int.reduceToNat, Int.reduceLE, Int.reduceLT, Int.reduceGT, Int.reduceGE, Int.reduceAdd, Int.reduceSub, Int.reduceNeg, Int.reduceBEq, Int.reduceBNe, d1, d2, gb4])) <;> (try (have hd_ : True := hd; clear hd_ hd)))
  (refine CallK.use (loads_sound .no y m _ (by omega) hs2) ?_; rintro _ _ ⟨rfl, k4, rfl⟩)
  ((have hd := trivial; repeat' (first | ((first | refine GdK_st (fun hd => ?_) (fun hd => ?_) | refine GdK_sf (fun hd => ?_) (fun hd => ?_) | refine CondK_s (fun hd => ?_) (fun hd => ?_)) <;> (try simp only [hd])) | simp (disch := first | assumption | omega | (simp only [nx] <;> omega) | fail) only [hd, hQr, hQn, c4_0, ↓YA, YB, YC, YE, YF, YZ, ↓reduceIte, Nat.reduceEqDiff, Nat.reduceAdd, Nat.reduceMul, Nat.reduceLeDiff, Int.reduceToNat, Int.reduceLE, Int.reduceLT, Int.reduceGT, Int.reduceGE, Int.reduceAdd, Int.reduceSub, Int.reduceNeg, Int.reduceBEq, Int.reduceBNe, d1, d2, ga4, gb4])) <;> (try (have hd_ : True := hd; clear hd_ hd)))
  have hxa : AHeap.Ext H4 ((H4.bump k3).bump k4) := by exact AXT
  (refine CallK.use (equal_sound (ha.ext hxa) (hb.ext hxa) wa wb) ?_; rintro _ H5 ⟨rfl, hx5⟩)
  have ga5 := hx5.get _ _ (hxa.get _ _ ga4)
  have gb5 := hx5.get _ _ (hxa.get _ _ gb4)
  have ha5 := (ha.ext hxa).ext hx5
  have hb5 := (hb.ext hxa).ext hx5
  ((have hd := trivial; repeat' (first | ((first | refine GdK_st (fun hd => ?_) (fun hd => ?_) | refine GdK_sf (fun hd => ?_) (fun hd => ?_) | refine CondK_s (fun hd => ?_) (fun hd => ?_)) <;> (try simp only [hd])) | simp (disch := first | assumption | omega | (simp only [nx] <;> omega) | fail) only [hd, hQr, hQn, c4_0, ↓YA, YB, YC, YE, YF, YZ, ↓reduceIte, Nat.reduceEqDiff, Nat.reduceAdd, Nat.reduceMul, Nat.reduceLeDiff, Int.reduceToNat, Int.reduceLE, Int.reduceLT, Int.reduceGT, Int.reduceGE, Int.reduceAdd, Int.reduceSub, Int.reduceNeg, Int.reduceBEq, Int.reduceBNe, ga5, gb5])) <;> (try (have hd_ : True := hd; clear hd_ hd)))
  (refine CallK.use (lshapes_sound .no .no x y _ (by omega) (fun s hs => by have := p3 s hs; omega)) ?_; rintro _ _ ⟨rfl, k5, rfl⟩)
  by_cases hxy : x = y
  case neg =>
    have hxy : decide (x = y) = false := decide_eq_false hxy
    have he : eqB x y l m = false := by unfold eqB; rw [hxy]; rfl
    have ht : tellB x y l m = false := by unfold tellB; rw [hxy]; simp
    ((have hd := trivial; repeat' (first | ((first | refine GdK_st (fun hd => ?_) (fun hd => ?_) | refine GdK_sf (fun hd => ?_) (fun hd => ?_) | refine CondK_s (fun hd => ?_) (fun hd => ?_)) <;> (try simp only [hd])) | simp (disch := first | assumption | omega | (simp only [nx] <;> omega) | fail) only [hd, hQr, hQn, c4_0, ↓YA, YB, YC, YE, YF, YZ, ↓reduceIte, Nat.reduceEqDiff, Nat.reduceAdd, Nat.reduceMul, Nat.reduceLeDiff, Int.reduceToNat, Int.reduceLE, Int.reduceLT, Int.reduceGT, Int.reduceGE, Int.reduceAdd, Int.reduceSub, Int.reduceNeg, Int.reduceBEq, Int.reduceBNe, hxy, he])) <;> (try (have hd_ : True := hd; clear hd_ hd)))
    (refine CallK.use (tells_sound (ha5.ext (AHeap.Ext.refl H5).bump) (hb5.ext (AHeap.Ext.refl H5).bump) wa wb) ?_; rintro _ H6 ⟨rfl, hx6⟩)
    have ga6 := hx6.get _ _ ((AHeap.Ext.refl H5).bump.get _ _ ga5)
    have gb6 := hx6.get _ _ ((AHeap.Ext.refl H5).bump.get _ _ gb5)
    ((have hd := trivial; repeat' (first | ((first | refine GdK_st (fun hd => ?_) (fun hd => ?_) | refine GdK_sf (fun hd => ?_) (fun hd => ?_) | refine CondK_s (fun hd => ?_) (fun hd => ?_)) <;> (try simp only [hd])) | simp (disch := first | assumption | omega | (simp only [nx] <;> omega) | fail) only [hd, hQr, hQn, c4_0, ↓YA, YB, YC, YE, YF, YZ, ↓reduceIte, Nat.reduceEqDiff, Nat.reduceAdd, Nat.reduceMul, Nat.reduceLeDiff, Int.reduceToNat, Int.reduceLE, Int.reduceLT, Int.reduceGT, Int.reduceGE, Int.reduceAdd, Int.reduceSub, Int.reduceNeg, Int.reduceBEq, Int.reduceBNe, ga6, gb6, ht])) <;> (try (have hd_ : True := hd; clear hd_ hd)))
    (refine CallK.use (lshapes_sound .no .no x y _ (by omega) (fun s hs => by have := p3 s hs; omega)) ?_; rintro _ _ ⟨rfl, k6, rfl⟩)
    ((have hd := trivial; repeat' (first | ((first | refine GdK_st (fun hd => ?_) (fun hd => ?_) | refine GdK_sf (fun hd => ?_) (fun hd => ?_) | refine CondK_s (fun hd => ?_) (fun hd => ?_)) <;> (try simp only [hd])) | simp (disch := first | assumption | omega | (simp only [nx] <;> omega) | fail) only [hd, hQr, hQn, c4_0, ↓YA, YB, YC, YE, YF, YZ, ↓reduceIte, Nat.reduceEqDiff, Nat.reduceAdd, Nat.reduceMul, Nat.reduceLeDiff, Int.reduceToNat, Int.reduceLE, Int.reduceLT, Int.reduceGT, Int.reduceGE, Int.reduceAdd, Int.reduceSub, Int.reduceNeg, Int.reduceBEq, Int.reduceBNe, hxy, ht])) <;> (try (have hd_ : True := hd; clear hd_ hd)))
    (refine CallK.use (awake31 _) ?_; rintro _ _ ⟨rfl, k7, rfl⟩)
    ((have hd := trivial; repeat' (first | ((first | refine GdK_st (fun hd => ?_) (fun hd => ?_) | refine GdK_sf (fun hd => ?_) (fun hd => ?_) | refine CondK_s (fun hd => ?_) (fun hd => ?_)) <;> (try simp only [hd])) | simp (disch := first | assumption | omega | (simp only [nx] <;> omega) | fail) only [hd, hQr, hQn, c4_0, ↓YA, YB, YC, YE, YF, YZ, ↓reduceIte, Nat.reduceEqDiff, Nat.reduceAdd, Nat.reduceMul, Nat.reduceLeDiff, Int.reduceToNat, Int.reduceLE, Int.reduceLT, Int.reduceGT, Int.reduceGE, Int.reduceAdd, Int.reduceSub, Int.reduceNeg, Int.reduceBEq, Int.reduceBNe])) <;> (try (have hd_ : True := hd; clear hd_ hd)))
    exact fin_keep rfl
  obtain rfl : x = y := hxy
  have hxy : decide (x = x) = true := by simp
  ((have hd := trivial; repeat' (first | ((first | refine GdK_st (fun hd => ?_) (fun hd => ?_) | refine GdK_sf (fun hd => ?_) (fun hd => ?_) | refine CondK_s (fun hd => ?_) (fun hd => ?_)) <;> (try simp only [hd])) | simp (disch := first | assumption | omega | (simp only [nx] <;> omega) | fail) only [hd, hQr, hQn, c4_0, ↓YA, YB, YC, YE, YF, YZ, ↓reduceIte, Nat.reduceEqDiff, Nat.reduceAdd, Nat.reduceMul, Nat.reduceLeDiff, Int.reduceToNat, Int.reduceLE, Int.reduceLT, Int.reduceGT, Int.reduceGE, Int.reduceAdd, Int.reduceSub, Int.reduceNeg, Int.reduceBEq, Int.reduceBNe, hxy])) <;> (try (have hd_ : True := hd; clear hd_ hd)))
  (refine CallK.use (rall_sound .no .no l m _ (by omega) hs1) ?_; rintro _ _ ⟨rfl, k6, rfl⟩)
  have he : eqB x x l m = decide (l = m) := by unfold eqB; simp
  ((have hd := trivial; repeat' (first | ((first | refine GdK_st (fun hd => ?_) (fun hd => ?_) | refine GdK_sf (fun hd => ?_) (fun hd => ?_) | refine CondK_s (fun hd => ?_) (fun hd => ?_)) <;> (try simp only [hd])) | simp (disch := first | assumption | omega | (simp only [nx] <;> omega) | fail) only [hd, hQr, hQn, c4_0, ↓YA, YB, YC, YE, YF, YZ, ↓reduceIte, Nat.reduceEqDiff, Nat.reduceAdd, Nat.reduceMul, Nat.reduceLeDiff, Int.reduceToNat, Int.reduceLE, Int.reduceLT, Int.reduceGT, Int.reduceGE, Int.reduceAdd, Int.reduceSub, Int.reduceNeg, Int.reduceBEq, Int.reduceBNe, he])) <;> (try (have hd_ : True := hd; clear hd_ hd)))
  have hx6 : AHeap.Ext H5 ((H5.bump k5).bump k6) := by exact AXT
  (refine CallK.use (tells_sound (ha5.ext hx6) (hb5.ext hx6) wa wb) ?_; rintro _ H6 ⟨rfl, hx7⟩)
  have ga6 := hx7.get _ _ (hx6.get _ _ ga5)
  have gb6 := hx7.get _ _ (hx6.get _ _ gb5)
  ((have hd := trivial; repeat' (first | ((first | refine GdK_st (fun hd => ?_) (fun hd => ?_) | refine GdK_sf (fun hd => ?_) (fun hd => ?_) | refine CondK_s (fun hd => ?_) (fun hd => ?_)) <;> (try simp only [hd])) | simp (disch := first | assumption | omega | (simp only [nx] <;> omega) | fail) only [hd, hQr, hQn, c4_0, ↓YA, YB, YC, YE, YF, YZ, ↓reduceIte, Nat.reduceEqDiff, Nat.reduceAdd, Nat.reduceMul, Nat.reduceLeDiff, Int.reduceToNat, Int.reduceLE, Int.reduceLT, Int.reduceGT, Int.reduceGE, Int.reduceAdd, Int.reduceSub, Int.reduceNeg, Int.reduceBEq, Int.reduceBNe, ga6, gb6])) <;> (try (have hd_ : True := hd; clear hd_ hd)))
  (refine CallK.use (lshapes_sound .no .no x x _ (by omega) (fun s hs => by have := p3 s hs; omega)) ?_; rintro _ _ ⟨rfl, k7, rfl⟩)
  ((have hd := trivial; repeat' (first | ((first | refine GdK_st (fun hd => ?_) (fun hd => ?_) | refine GdK_sf (fun hd => ?_) (fun hd => ?_) | refine CondK_s (fun hd => ?_) (fun hd => ?_)) <;> (try simp only [hd])) | simp (disch := first | assumption | omega | (simp only [nx] <;> omega) | fail) only [hd, hQr, hQn, c4_0, ↓YA, YB, YC, YE, YF, YZ, ↓reduceIte, Nat.reduceEqDiff, Nat.reduceAdd, Nat.reduceMul, Nat.reduceLeDiff, Int.reduceToNat, Int.reduceLE, Int.reduceLT, Int.reduceGT, Int.reduceGE, Int.reduceAdd, Int.reduceSub, Int.reduceNeg, Int.reduceBEq, Int.reduceBNe, hxy, ga6, gb6])) <;> (try (have hd_ : True := hd; clear hd_ hd)))
  (refine CallK.use (rwhole_sound .no x l _ (by omega) (by omega) hs1 da) ?_; rintro _ _ ⟨rfl, k8, rfl⟩)
  have w1 := bfc (wholeB x l)
  rcases w1 with w1 | w1
  · have ht : tellB x x l m = false := by unfold tellB; rw [w1]; rfl
    ((have hd := trivial; repeat' (first | ((first | refine GdK_st (fun hd => ?_) (fun hd => ?_) | refine GdK_sf (fun hd => ?_) (fun hd => ?_) | refine CondK_s (fun hd => ?_) (fun hd => ?_)) <;> (try simp only [hd])) | simp (disch := first | assumption | omega | (simp only [nx] <;> omega) | fail) only [hd, hQr, hQn, c4_0, ↓YA, YB, YC, YE, YF, YZ, ↓reduceIte, Nat.reduceEqDiff, Nat.reduceAdd, Nat.reduceMul, Nat.reduceLeDiff, Int.reduceToNat, Int.reduceLE, Int.reduceLT, Int.reduceGT, Int.reduceGE, Int.reduceAdd, Int.reduceSub, Int.reduceNeg, Int.reduceBEq, Int.reduceBNe, w1, ht])) <;> (try (have hd_ : True := hd; clear hd_ hd)))
    (refine CallK.use (awake31 _) ?_; rintro _ _ ⟨rfl, k9, rfl⟩)
    ((have hd := trivial; repeat' (first | ((first | refine GdK_st (fun hd => ?_) (fun hd => ?_) | refine GdK_sf (fun hd => ?_) (fun hd => ?_) | refine CondK_s (fun hd => ?_) (fun hd => ?_)) <;> (try simp only [hd])) | simp (disch := first | assumption | omega | (simp only [nx] <;> omega) | fail) only [hd, hQr, hQn, c4_0, ↓YA, YB, YC, YE, YF, YZ, ↓reduceIte, Nat.reduceEqDiff, Nat.reduceAdd, Nat.reduceMul, Nat.reduceLeDiff, Int.reduceToNat, Int.reduceLE, Int.reduceLT, Int.reduceGT, Int.reduceGE, Int.reduceAdd, Int.reduceSub, Int.reduceNeg, Int.reduceBEq, Int.reduceBNe])) <;> (try (have hd_ : True := hd; clear hd_ hd)))
    exact fin_keep rfl
  ((have hd := trivial; repeat' (first | ((first | refine GdK_st (fun hd => ?_) (fun hd => ?_) | refine GdK_sf (fun hd => ?_) (fun hd => ?_) | refine CondK_s (fun hd => ?_) (fun hd => ?_)) <;> (try simp only [hd])) | simp (disch := first | assumption | omega | (simp only [nx] <;> omega) | fail) only [hd, hQr, hQn, c4_0, ↓YA, YB, YC, YE, YF, YZ, ↓reduceIte, Nat.reduceEqDiff, Nat.reduceAdd, Nat.reduceMul, Nat.reduceLeDiff, Int.reduceToNat, Int.reduceLE, Int.reduceLT, Int.reduceGT, Int.reduceGE, Int.reduceAdd, Int.reduceSub, Int.reduceNeg, Int.reduceBEq, Int.reduceBNe, w1, ga6, gb6])) <;> (try (have hd_ : True := hd; clear hd_ hd)))
  (refine CallK.use (rwhole_sound .no x m _ (by omega) (by omega) hs2 db) ?_; rintro _ _ ⟨rfl, k9, rfl⟩)
  have w2 := bfc (wholeB x m)
  rcases w2 with w2 | w2
  · have ht : tellB x x l m = false := by unfold tellB; rw [w1, w2]; rfl
    ((have hd := trivial; repeat' (first | ((first | refine GdK_st (fun hd => ?_) (fun hd => ?_) | refine GdK_sf (fun hd => ?_) (fun hd => ?_) | refine CondK_s (fun hd => ?_) (fun hd => ?_)) <;> (try simp only [hd])) | simp (disch := first | assumption | omega | (simp only [nx] <;> omega) | fail) only [hd, hQr, hQn, c4_0, ↓YA, YB, YC, YE, YF, YZ, ↓reduceIte, Nat.reduceEqDiff, Nat.reduceAdd, Nat.reduceMul, Nat.reduceLeDiff, Int.reduceToNat, Int.reduceLE, Int.reduceLT, Int.reduceGT, Int.reduceGE, Int.reduceAdd, Int.reduceSub, Int.reduceNeg, Int.reduceBEq, Int.reduceBNe, w2, ht])) <;> (try (have hd_ : True := hd; clear hd_ hd)))
    (refine CallK.use (awake31 _) ?_; rintro _ _ ⟨rfl, k10, rfl⟩)
    ((have hd := trivial; repeat' (first | ((first | refine GdK_st (fun hd => ?_) (fun hd => ?_) | refine GdK_sf (fun hd => ?_) (fun hd => ?_) | refine CondK_s (fun hd => ?_) (fun hd => ?_)) <;> (try simp only [hd])) | simp (disch := first | assumption | omega | (simp only [nx] <;> omega) | fail) only [hd, hQr, hQn, c4_0, ↓YA, YB, YC, YE, YF, YZ, ↓reduceIte, Nat.reduceEqDiff, Nat.reduceAdd, Nat.reduceMul, Nat.reduceLeDiff, Int.reduceToNat, Int.reduceLE, Int.reduceLT, Int.reduceGT, Int.reduceGE, Int.reduceAdd, Int.reduceSub, Int.reduceNeg, Int.reduceBEq, Int.reduceBNe])) <;> (try (have hd_ : True := hd; clear hd_ hd)))
    exact fin_keep rfl
  have ht : tellB x x l m = (if l.length = 0 ∨ m.length = 0 then decide (l.length = m.length) else tellsB x l m) := by unfold tellB; rw [w1, w2]; simp
  have hee : ((l.length : Int) == (m.length : Int)) = decide (l.length = m.length) := by rw [Bool.eq_iff_iff]; simp; omega
  by_cases hl0 : l.length = 0
  · have d3 : ((l.length : Int) == 0) = true := by simp [hl0]
    rw [if_pos (.inl hl0)] at ht
    ((have hd := trivial; repeat' (first | ((first | refine GdK_st (fun hd => ?_) (fun hd => ?_) | refine GdK_sf (fun hd => ?_) (fun hd => ?_) | refine CondK_s (fun hd => ?_) (fun hd => ?_)) <;> (try simp only [hd])) | simp (disch := first | assumption | omega | (simp only [nx] <;> omega) | fail) only [hd, hQr, hQn, c4_0, ↓YA, YB, YC, YE, YF, YZ, ↓reduceIte, Nat.reduceEqDiff, Nat.reduceAdd, Nat.reduceMul, Nat.reduceLeDiff, Int.reduceToNat, Int.reduceLE, Int.reduceLT, Int.reduceGT, Int.reduceGE, Int.reduceAdd, Int.reduceSub, Int.reduceNeg, Int.reduceBEq, Int.reduceBNe, w2, d3, ht, hee])) <;> (try (have hd_ : True := hd; clear hd_ hd)))
    (refine CallK.use (awake31 _) ?_; rintro _ _ ⟨rfl, k10, rfl⟩)
    ((have hd := trivial; repeat' (first | ((first | refine GdK_st (fun hd => ?_) (fun hd => ?_) | refine GdK_sf (fun hd => ?_) (fun hd => ?_) | refine CondK_s (fun hd => ?_) (fun hd => ?_)) <;> (try simp only [hd])) | simp (disch := first | assumption | omega | (simp only [nx] <;> omega) | fail) only [hd, hQr, hQn, c4_0, ↓YA, YB, YC, YE, YF, YZ, ↓reduceIte, Nat.reduceEqDiff, Nat.reduceAdd, Nat.reduceMul, Nat.reduceLeDiff, Int.reduceToNat, Int.reduceLE, Int.reduceLT, Int.reduceGT, Int.reduceGE, Int.reduceAdd, Int.reduceSub, Int.reduceNeg, Int.reduceBEq, Int.reduceBNe])) <;> (try (have hd_ : True := hd; clear hd_ hd)))
    exact fin_keep rfl
  · have d3 : ((l.length : Int) == 0) = false := by rw [beq_eq_false_iff_ne]; omega
    by_cases hm0 : m.length = 0
    · have d4 : ((m.length : Int) == 0) = true := by simp [hm0]
      rw [if_pos (.inr hm0)] at ht
      ((have hd := trivial; repeat' (first | ((first | refine GdK_st (fun hd => ?_) (fun hd => ?_) | refine GdK_sf (fun hd => ?_) (fun hd => ?_) | refine CondK_s (fun hd => ?_) (fun hd => ?_)) <;> (try simp only [hd])) | simp (disch := first | assumption | omega | (simp only [nx] <;> omega) | fail) only [hd, hQr, hQn, c4_0, ↓YA, YB, YC, YE, YF, YZ, ↓reduceIte, Nat.reduceEqDiff, Nat.reduceAdd, Nat.reduceMul, Nat.reduceLeDiff, Int.reduceToNat, Int.reduceLE, Int.reduceLT, Int.reduceGT, Int.reduceGE, Int.reduceAdd, Int.reduceSub, Int.reduceNeg, Int.reduceBEq, Int.reduceBNe, w2, d3, d4, ht, hee])) <;> (try (have hd_ : True := hd; clear hd_ hd)))
      (refine CallK.use (awake31 _) ?_; rintro _ _ ⟨rfl, k10, rfl⟩)
      ((have hd := trivial; repeat' (first | ((first | refine GdK_st (fun hd => ?_) (fun hd => ?_) | refine GdK_sf (fun hd => ?_) (fun hd => ?_) | refine CondK_s (fun hd => ?_) (fun hd => ?_)) <;> (try simp only [hd])) | simp (disch := first | assumption | omega | (simp only [nx] <;> omega) | fail) only [hd, hQr, hQn, c4_0, ↓YA, YB, YC, YE, YF, YZ, ↓reduceIte, Nat.reduceEqDiff, Nat.reduceAdd, Nat.reduceMul, Nat.reduceLeDiff, Int.reduceToNat, Int.reduceLE, Int.reduceLT, Int.reduceGT, Int.reduceGE, Int.reduceAdd, Int.reduceSub, Int.reduceNeg, Int.reduceBEq, Int.reduceBNe])) <;> (try (have hd_ : True := hd; clear hd_ hd)))
      exact fin_keep rfl
    · have d4 : ((m.length : Int) == 0) = false := by rw [beq_eq_false_iff_ne]; omega
      rw [if_neg (by omega), ← tellsB_tab wa.down wb.down hl0 hm0] at ht
      ((have hd := trivial; repeat' (first | ((first | refine GdK_st (fun hd => ?_) (fun hd => ?_) | refine GdK_sf (fun hd => ?_) (fun hd => ?_) | refine CondK_s (fun hd => ?_) (fun hd => ?_)) <;> (try simp only [hd])) | simp (disch := first | assumption | omega | (simp only [nx] <;> omega) | fail) only [hd, hQr, hQn, c4_0, ↓YA, YB, YC, YE, YF, YZ, ↓reduceIte, Nat.reduceEqDiff, Nat.reduceAdd, Nat.reduceMul, Nat.reduceLeDiff, Int.reduceToNat, Int.reduceLE, Int.reduceLT, Int.reduceGT, Int.reduceGE, Int.reduceAdd, Int.reduceSub, Int.reduceNeg, Int.reduceBEq, Int.reduceBNe, w2, d3, d4, ga6, gb6])) <;> (try (have hd_ : True := hd; clear hd_ hd)))
      (refine CallK.use (told_sound .no .no x l m (by omega) hl0 hm0 (by omega) (by omega) hs1 hs2 wa.down wb.down) ?_; rintro _ _ ⟨rfl, k10, rfl⟩)
      ((have hd := trivial; repeat' (first | ((first | refine GdK_st (fun hd => ?_) (fun hd => ?_) | refine GdK_sf (fun hd => ?_) (fun hd => ?_) | refine CondK_s (fun hd => ?_) (fun hd => ?_)) <;> (try simp only [hd])) | simp (disch := first | assumption | omega | (simp only [nx] <;> omega) | fail) only [hd, hQr, hQn, c4_0, ↓YA, YB, YC, YE, YF, YZ, ↓reduceIte, Nat.reduceEqDiff, Nat.reduceAdd, Nat.reduceMul, Nat.reduceLeDiff, Int.reduceToNat, Int.reduceLE, Int.reduceLT, Int.reduceGT, Int.reduceGE, Int.reduceAdd, Int.reduceSub, Int.reduceNeg, Int.reduceBEq, Int.reduceBNe, ht])) <;> (try (have hd_ : True := hd; clear hd_ hd)))
      (refine CallK.use (awake31 _) ?_; rintro _ _ ⟨rfl, k11, rfl⟩)
      ((have hd := trivial; repeat' (first | ((first | refine GdK_st (fun hd => ?_) (fun hd => ?_) | refine GdK_sf (fun hd => ?_) (fun hd => ?_) | refine CondK_s (fun hd => ?_) (fun hd => ?_)) <;> (try simp only [hd])) | simp (disch := first | assumption | omega | (simp only [nx] <;> omega) | fail) only [hd, hQr, hQn, c4_0, ↓YA, YB, YC, YE, YF, YZ, ↓reduceIte, Nat.reduceEqDiff, Nat.reduceAdd, Nat.reduceMul, Nat.reduceLeDiff, Int.reduceToNat, Int.reduceLE, Int.reduceLT, Int.reduceGT, Int.reduceGE, Int.reduceAdd, Int.reduceSub, Int.reduceNeg, Int.reduceBEq, Int.reduceBNe])) <;> (try (have hd_ : True := hd; clear hd_ hd)))
      exact fin_keep rfl
end Go.Proofs.Ytgnpihhakogeeaa
