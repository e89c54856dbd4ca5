/- Texts of the walk, joined: Wa Wb Wc Wd We Wf Wg Wh. -/
import Derived.Test.YtaapiigfmdhobaaMw
import Derived.Test.YtaapiigfmdhobaaMk
import Derived.Test.YtaapiigfmdhobaaMj
import Derived.Test.YtaapiigfmdhobaaMx
import Derived.Test.YtaapiigfmdhobaaMf
namespace Go.Proofs.Ytaapiigfmdhobaa
set_option linter.unusedSimpArgs false
set_option linter.unusedVariables false
open Go.RowKit
def fcts (x : Shp) (l : List Nod) : Nat → List Int → Int → List Fct
 | 0, _, _ => []
 | n + 1, ks, a => ((nodAt l a).lists.headD []).flatMap fun c => if lastB x (nodAt l a).dim = true then [(ks ++ [c.key], c.agg)] else fcts x l n (ks ++ [c.key]) c.child
theorem flatMap_mem {α β : Type} {f g : α → List β} : ∀ (l : List α), (∀ a ∈ l, f a = g a) → l.flatMap f = l.flatMap g
 | [], _ => rfl
 | a :: l, h => by rw [List.flatMap_cons, List.flatMap_cons, h a List.mem_cons_self, flatMap_mem l fun b hb => h b (List.mem_cons_of_mem _ hb)]
theorem head_each {n : Nod} {c : Cel} (h : c ∈ n.lists.headD []) : c ∈ each n := by
 unfold each
 cases hl : n.lists with
 | nil => rw [hl] at h; cases h
 | cons a r => rw [hl] at h; exact List.mem_append_left _ (List.mem_flatten.2 ⟨a, List.mem_cons_self, h⟩)
theorem head_down {x : Shp} {l : List Nod} (hd : Down x l) {a : Int} (h0 : 0 ≤ a) (h1 : a < l.length) (hb : lastB x (nodAt l a).dim = false) {c : Cel} (hc : c ∈ (nodAt l a).lists.headD []) : 0 ≤ c.child ∧ c.child < a :=
 chs_down hd h0 h1 (by unfold chs; rw [hb]; exact List.mem_map.2 ⟨c, head_each hc, rfl⟩)
theorem fcts_any {x : Shp} {l : List Nod} (hd : Down x l) : ∀ (n m : Nat) (ks : List Int) (a : Int), 0 ≤ a → a < l.length → a < n → a < m → fcts x l n ks a = fcts x l m ks a
 | 0, _, _, _, _, _, h, _ => by omega
 | _, 0, _, _, _, _, _, h => by omega
 | n + 1, m + 1, ks, a, h0, h1, h2, h3 => by
  simp only [fcts]
  refine flatMap_mem _ fun c hc => ?_
  split
  ·rfl
  ·rename_i hb
   have := head_down hd h0 h1 (by simpa using hb) hc
   exact fcts_any hd n m _ _ (by omega) (by omega) (by omega) (by omega)
def fct (x : Shp) (l : List Nod) (ks : List Int) (a : Int) : List Fct := fcts x l (a.toNat + 1) ks a
def fcel (x : Shp) (l : List Nod) (a : Int) (ks : List Int) (c : Cel) : List Fct := if lastB x (nodAt l a).dim = true then [(ks ++ [c.key], c.agg)] else fct x l (ks ++ [c.key]) c.child
theorem fct_eq {x : Shp} {l : List Nod} (hd : Down x l) (ks : List Int) {a : Int} (h0 : 0 ≤ a) (h1 : a < l.length) : fct x l ks a = ((nodAt l a).lists.headD []).flatMap (fcel x l a ks) := by
 unfold fct
 simp only [fcts]
 refine flatMap_mem _ fun c hc => ?_
 unfold fcel
 split
 ·rfl
 ·rename_i hb
  have := head_down hd h0 h1 (by simpa using hb) hc
  exact fcts_any hd _ _ _ _ (by omega) (by omega) (by omega) (by omega)
theorem flatMap_take {α β : Type} {f : α → List β} {l : List α} {k : Nat} (h : k < l.length) : (l.take (k + 1)).flatMap f = (l.take k).flatMap f ++ f l[k] := by
 rw [List.take_succ_eq_append_getElem h, List.flatMap_append]; simp
def fill (most : Int) (out F : List Fct) : List Fct × Int := if ((out ++ F).length : Int) ≤ most then (out ++ F, 0) else ((out ++ F).take most.toNat, 6)
theorem fill_app {most : Int} {out F G : List Fct} (h : (fill most out F).2 = 0) : fill most (fill most out F).1 G = fill most out (F ++ G) := by
 unfold fill at h ⊢
 split at h
 ·rename_i h1
  rw [if_pos h1]
  simp only [List.append_assoc]
 ·cases h
theorem fill_stop {most : Int} {out F G : List Fct} (h : (fill most out F).2 ≠ 0) : fill most out (F ++ G) = fill most out F := by
 unfold fill at h ⊢
 split at h
 ·exact absurd rfl h
 ·rename_i h1
  rw [if_neg h1, if_neg (by rw [← List.append_assoc]; simp only [List.length_append] at h1 ⊢; omega), ← List.append_assoc, List.take_append_of_le_length (by omega)]
theorem fill_len {most : Int} {out F : List Fct} (h : out.length ≤ most.toNat) : (fill most out F).1.length ≤ most.toNat := by
 unfold fill
 split
 ·rename_i h1; simp only; omega
 ·simp only [List.length_take]; omega
set_option maxHeartbeats 2000000 in
theorem less_self (f : Fct) (H : AHeap) (hl : f.1.length ≤ 1000000) : Sound Try.prog 45 [.agg (eFct f), .agg (eFct f)] H (Pure H (.b false)) := by
 obtain ⟨ks, a⟩ := f
 simp only at hl
 have e0 : (eFct (ks, a))[0]? = some (.sl .no (rI ks)) := rfl
 have el : (eFct (ks, a)).length = 11 := rfl
 refine fn_soundQ hE cf45 (Nat.le_of_ble_eq_true rfl) fun Q hQr hQn => ?_
 ((have hd := trivial; repeat' (first | ((first | apply GdK_st | apply GdK_sf | apply CondK_s) <;> intro hd <;> (try simp only [hd])) | simp (disch := first | assumption | omega | (simp only [nx] <;> omega) | fail) only [hd, hQr, hQn, c45_0, ↓YA, YB, YC, YE, YF, YZ, ↓reduceIte, Nat.reduceEqDiff, Nat.reduceAdd, Nat.reduceMul, Nat.reduceLeDiff, Int.reduceToNat, Int.reduceLE, Int.reduceLT, Int.reduceGT, Int.reduceGE, Int.reduceAdd, Int.reduceSub, Int.reduceNeg, Int.reduceBEq, Int.reduceBNe, e0])) <;> (try (have hd_ : True := hd; clear hd_ hd)))
 have g2 : ((H.alloc (.cells (eFct (ks, a)) 76)).alloc (.cells (eFct (ks, a)) 76)).get H.next = some (.cells (eFct (ks, a)) 76) := by
  rw [AHeap.get_alloc_ne (by simp only [nx]; omega)]; exact AHeap.get_alloc_self
 have g3 : ((H.alloc (.cells (eFct (ks, a)) 76)).alloc (.cells (eFct (ks, a)) 76)).get (H.next + 1) = some (.cells (eFct (ks, a)) 76) := AHeap.get_alloc_self (H := H.alloc _)
 have hx0 : AHeap.Ext H ((H.alloc (.cells (eFct (ks, a)) 76)).alloc (.cells (eFct (ks, a)) 76)) := by exact AXT
 generalize (H.alloc (.cells (eFct (ks, a)) 76)).alloc (.cells (eFct (ks, a)) 76) = G0 at *
 have l2 := AHeap.lt g2
 have l3 := AHeap.lt g3
 refine AW_lop [2, 3] (σ := Nat) (fun s => s ≤ ks.length) (fun s => ks.length - s) (fun s => [(5, .i (s : Int))]) (fun s => []) (0 : Nat) (GStep.refl _ _) (by simp only [keep_nil, keep_cons, Fr.put, Fr.get, ↓reduceIte, Nat.reduceEqDiff]; rfl) ?_ (by simp only [FrL_nil, FrL_cons, Fr.put, Fr.get, ↓reduceIte, Nat.reduceEqDiff, and_self] <;> simp) (by simp only [ObjL_nil]) ?_
 ·exact Nat.zero_le _
 ·(rintro s G ht hG hn1; try simp only [nx] at hn1)
  have h2 : G.get H.next = _ := (hG.get _ l2).trans g2
  have h3 : G.get (H.next + 1) = _ := (hG.get _ l3).trans g3
  by_cases c : s < ks.length
  ·have d1 : decide ((s : Int) < (ks.length : Int)) = true := by simp; omega
   have h0 : (0 : Int) ≤ (s : Int) := by omega
   ((have hd := trivial; repeat' (first | ((first | apply GdK_st | apply GdK_sf | apply CondK_s) <;> intro hd <;> (try simp only [hd])) | simp (disch := first | assumption | omega | (simp only [nx] <;> omega) | fail) only [hd, hQr, hQn, c45_0, ↓YA, YB, YC, YE, YF, YZ, ↓reduceIte, Nat.reduceEqDiff, Nat.reduceAdd, Nat.reduceMul, Nat.reduceLeDiff, Int.reduceToNat, Int.reduceLE, Int.reduceLT, Int.reduceGT, Int.reduceGE, Int.reduceAdd, Int.reduceSub, Int.reduceNeg, Int.reduceBEq, Int.reduceBNe, h2, h3, e0, d1, List.length_map, h0, c])) <;> (try (have hd_ : True := hd; clear hd_ hd)))
   exact ⟨s + 1, by omega, by omega, by simp, by exact HXT⟩
  ·have d1 : decide ((s : Int) < (ks.length : Int)) = false := by simp; omega
   have d2 : decide ((ks.length : Int) < (ks.length : Int)) = false := by simp
   ((have hd := trivial; repeat' (first | ((first | apply GdK_st | apply GdK_sf | apply CondK_s) <;> intro hd <;> (try simp only [hd])) | simp (disch := first | assumption | omega | (simp only [nx] <;> omega) | fail) only [hd, hQr, hQn, c45_0, ↓YA, YB, YC, YE, YF, YZ, ↓reduceIte, Nat.reduceEqDiff, Nat.reduceAdd, Nat.reduceMul, Nat.reduceLeDiff, Int.reduceToNat, Int.reduceLE, Int.reduceLT, Int.reduceGT, Int.reduceGE, Int.reduceAdd, Int.reduceSub, Int.reduceNeg, Int.reduceBEq, Int.reduceBNe, h2, h3, e0, d1, d2, List.length_map])) <;> (try (have hd_ : True := hd; clear hd_ hd)))
   exact fin_bA rfl (hx0.trans hG.ext)
set_option maxHeartbeats 2000000 in
theorem same19_sound (t u : Tok) (fs : List Fct) (H : AHeap) (hl : fs.length ≤ 1000000) (hk : ∀ f ∈ fs, f.1.length ≤ 1000000) : Sound Try.prog 23 [.sl t (rF fs), .sl u (rF fs)] H (Pure H (.b true)) := by
 refine fn_soundQ hE cf23 (Nat.le_of_ble_eq_true rfl) fun Q hQr hQn => ?_
 have d0 : ((fs.length : Int) != (fs.length : Int)) = false := by simp
 ((have hd := trivial; repeat' (first | ((first | apply GdK_st | apply GdK_sf | apply CondK_s) <;> intro hd <;> (try simp only [hd])) | simp (disch := first | assumption | omega | (simp only [nx] <;> omega) | fail) only [hd, hQr, hQn, c23_0, ↓YA, YB, YC, YE, YF, YZ, ↓reduceIte, Nat.reduceEqDiff, Nat.reduceAdd, Nat.reduceMul, Nat.reduceLeDiff, Int.reduceToNat, Int.reduceLE, Int.reduceLT, Int.reduceGT, Int.reduceGE, Int.reduceAdd, Int.reduceSub, Int.reduceNeg, Int.reduceBEq, Int.reduceBNe, List.length_map, d0])) <;> (try (have hd_ : True := hd; clear hd_ hd)))
 refine AW_for [0, 1, 12] (σ := Unit) (fun (k : Nat) s => True) (fun k s => []) (fun k s => []) () (GStep.refl _ _) (by simp only [keep_nil, keep_cons, Fr.put, Fr.get, ↓reduceIte, Nat.reduceEqDiff]; rfl) (by intro k s; rfl) (by intro k s; rfl) (by rfl) (by unfold maxLen; omega) ?_ (by simp only [FrL_nil]) (by simp only [ObjL_nil]) ?_ ?_
 ·trivial
 ·(rintro k s G hk1 ht hG hn1; try simp only [nx] at hn1)
  have e0 : ((eFct fs[k]).drop 1).take 10 = eAg fs[k].2 := rfl
  have e1 : (eFct fs[k]).length = 11 := rfl
  have e2 : (eFct fs[k]).take 11 = eFct fs[k] := rfl
  have d1 : decide (fs[k].2 = fs[k].2) = true := by simp
  ((have hd := trivial; repeat' (first | ((first | apply GdK_st | apply GdK_sf | apply CondK_s) <;> intro hd <;> (try simp only [hd])) | simp (disch := first | assumption | omega | (simp only [nx] <;> omega) | fail) only [hd, hQr, hQn, c23_0, ↓YA, YB, YC, YE, YF, YZ, ↓reduceIte, Nat.reduceEqDiff, Nat.reduceAdd, Nat.reduceMul, Nat.reduceLeDiff, Int.reduceToNat, Int.reduceLE, Int.reduceLT, Int.reduceGT, Int.reduceGE, Int.reduceAdd, Int.reduceSub, Int.reduceNeg, Int.reduceBEq, Int.reduceBNe, e0, e1, e2, d1, hk1])) <;> (try (have hd_ : True := hd; clear hd_ hd)))
  (refine CallK.use (less_self fs[k] _ (hk _ (List.getElem_mem hk1))) ?_; rintro _ _ ⟨rfl, k1, rfl⟩)
  ((have hd := trivial; repeat' (first | ((first | apply GdK_st | apply GdK_sf | apply CondK_s) <;> intro hd <;> (try simp only [hd])) | simp (disch := first | assumption | omega | (simp only [nx] <;> omega) | fail) only [hd, hQr, hQn, c23_0, ↓YA, YB, YC, YE, YF, YZ, ↓reduceIte, Nat.reduceEqDiff, Nat.reduceAdd, Nat.reduceMul, Nat.reduceLeDiff, Int.reduceToNat, Int.reduceLE, Int.reduceLT, Int.reduceGT, Int.reduceGE, Int.reduceAdd, Int.reduceSub, Int.reduceNeg, Int.reduceBEq, Int.reduceBNe, e0, e1, e2, d1, hk1])) <;> (try (have hd_ : True := hd; clear hd_ hd)))
  (refine CallK.use (less_self fs[k] _ (hk _ (List.getElem_mem hk1))) ?_; rintro _ _ ⟨rfl, k2, rfl⟩)
  ((have hd := trivial; repeat' (first | ((first | apply GdK_st | apply GdK_sf | apply CondK_s) <;> intro hd <;> (try simp only [hd])) | simp (disch := first | assumption | omega | (simp only [nx] <;> omega) | fail) only [hd, hQr, hQn, c23_0, ↓YA, YB, YC, YE, YF, YZ, ↓reduceIte, Nat.reduceEqDiff, Nat.reduceAdd, Nat.reduceMul, Nat.reduceLeDiff, Int.reduceToNat, Int.reduceLE, Int.reduceLT, Int.reduceGT, Int.reduceGE, Int.reduceAdd, Int.reduceSub, Int.reduceNeg, Int.reduceBEq, Int.reduceBNe])) <;> (try (have hd_ : True := hd; clear hd_ hd)))
  exact ⟨(), by exact HXT⟩
 ·(rintro s G ht hG hn1; try simp only [nx] at hn1)
  ((have hd := trivial; repeat' (first | ((first | apply GdK_st | apply GdK_sf | apply CondK_s) <;> intro hd <;> (try simp only [hd])) | simp (disch := first | assumption | omega | (simp only [nx] <;> omega) | fail) only [hd, hQr, hQn, c23_0, ↓YA, YB, YC, YE, YF, YZ, ↓reduceIte, Nat.reduceEqDiff, Nat.reduceAdd, Nat.reduceMul, Nat.reduceLeDiff, Int.reduceToNat, Int.reduceLE, Int.reduceLT, Int.reduceGT, Int.reduceGE, Int.reduceAdd, Int.reduceSub, Int.reduceNeg, Int.reduceBEq, Int.reduceBNe])) <;> (try (have hd_ : True := hd; clear hd_ hd)))
  refine fin_bA (by rfl)
theorem chunk_one : ∀ (ks : List Int) (tail : List AV), chunk 1 ks.length (ks.map AV.i ++ tail) = rI ks
 | [], _ => rfl
 | k :: ks, tail => by
  have ih := chunk_one ks tail
  simp only [List.length_cons, chunk, List.map_cons, List.cons_append, List.take_succ_cons, List.take_zero, List.drop_succ_cons, List.drop_zero, ih]
theorem cloneA_sound {H : AHeap} {id cap E : Nat} {ks : List Int} {tail : List AV} (hg : H.get id = some (.cells (ks.map AV.i ++ tail) E)) (hl : ks.length ≤ 1000000) : Sound Try.prog 55 [.arr id 0 ks.length cap] H (Pure H (.sl .no (rI ks))) := by
 have hal := allLen_rI ks
 have h1 : ks.length ≤ maxLen := by unfold maxLen; omega
 have h2 : ks.length * 8 ≤ 140737488355328 := by omega
 have la3 : allLen 1 ([] : List (List AV)) = true := rfl
 have hch := chunk_one ks tail
 have hln : ks.length ≤ (ks.map AV.i ++ tail).length := by simp
 generalize ks.map AV.i ++ tail = C at *
 refine fn_soundQ hE cf55 (Nat.le_of_ble_eq_true rfl) fun Q hQr hQn => ?_
 cases ks with
 | nil =>
  simp only [List.length_nil] at hch hln h1 h2
  have hch : chunk 1 0 C = [] := hch
  ((have hd := trivial; repeat' (first | ((first | apply GdK_st | apply GdK_sf | apply CondK_s) <;> intro hd <;> (try simp only [hd])) | simp (disch := first | assumption | omega | (simp only [nx] <;> omega) | fail) only [hd, hQr, hQn, c55_0, ↓YA, YB, YC, YE, YF, YZ, ↓reduceIte, Nat.reduceEqDiff, Nat.reduceAdd, Nat.reduceMul, Nat.reduceLeDiff, Int.reduceToNat, Int.reduceLE, Int.reduceLT, Int.reduceGT, Int.reduceGE, Int.reduceAdd, Int.reduceSub, Int.reduceNeg, Int.reduceBEq, Int.reduceBNe, hg, hch, hln, h1, h2, la3, List.drop_zero])) <;> (try (have hd_ : True := hd; clear hd_ hd)))
  exact fin_pure (by exact AXT) rfl
 | cons k ks =>
  simp only [List.length_cons] at hch hln h1 h2
  have hal : allLen 1 ([AV.i k] :: rI ks) = true := hal
  have hch : chunk 1 (ks.length + 1) C = [AV.i k] :: rI ks := hch
  ((have hd := trivial; repeat' (first | ((first | apply GdK_st | apply GdK_sf | apply CondK_s) <;> intro hd <;> (try simp only [hd])) | simp (disch := first | assumption | omega | (simp only [nx] <;> omega) | fail) only [hd, hQr, hQn, c55_0, ↓YA, YB, YC, YE, YF, YZ, ↓reduceIte, Nat.reduceEqDiff, Nat.reduceAdd, Nat.reduceMul, Nat.reduceLeDiff, Int.reduceToNat, Int.reduceLE, Int.reduceLT, Int.reduceGT, Int.reduceGE, Int.reduceAdd, Int.reduceSub, Int.reduceNeg, Int.reduceBEq, Int.reduceBNe, hg, hch, hln, h1, h2, la3, List.drop_zero, hal, List.length_map])) <;> (try (have hd_ : True := hd; clear hd_ hd)))
  exact fin_pure (by exact AXT) rfl
def wCells (aid : Nat) (last : Int) (kv : AV) (most : Int) (ov : AV) (err : Int) : List AV := [.ptr aid 0, .i last, kv, .i most, ov, .i err]
def KeysV (wid : Nat) (ks : List Int) (kv : AV) (G : AHeap) : Prop := (kv = .sl .full [] ∧ ks = []) ∨ ∃ kid cap tail, kv = .arr kid 0 ks.length cap ∧ G.get kid = some (.cells (ks.map AV.i ++ tail) 3) ∧ wid < kid ∧ (ks.map AV.i ++ tail).length = cap
def OutV (wid : Nat) (out : List Fct) (ov : AV) (G : AHeap) : Prop := (ov = .sl .full [] ∧ out = []) ∨ ∃ tk, ov = .sl (.own tk) (rF out) ∧ G.get tk = some (.tok out.length 76 11) ∧ wid < tk
structure Wkr (wid aid : Nat) (last most : Int) (ks : List Int) (out : List Fct) (err : Int) (G : AHeap) : Prop where
 ex : ∃ kv ov, G.get wid = some (.cells (wCells aid last kv most ov err) 100) ∧ KeysV wid ks kv G ∧ OutV wid out ov G
 a : aid < wid
theorem KeysV.keep {wid : Nat} {ks : List Int} {kv : AV} {G G' : AHeap} (h : KeysV wid ks kv G) (hk : ∀ i cs E, wid < i → G.get i = some (.cells cs E) → G'.get i = some (.cells cs E)) : KeysV wid ks kv G' := by
 rcases h with h | ⟨kid, cap, tail, h1, h2, h3, h4⟩
 ·exact .inl h
 ·exact .inr ⟨kid, cap, tail, h1, hk _ _ _ h3 h2, h3, h4⟩
theorem OutV.keep {wid : Nat} {out : List Fct} {ov : AV} {G G' : AHeap} (h : OutV wid out ov G) (hk : ∀ i n E sz, wid < i → G.get i = some (.tok n E sz) → G'.get i = some (.tok n E sz)) : OutV wid out ov G' := by
 rcases h with h | ⟨tk, h1, h2, h3⟩
 ·exact .inl h
 ·exact .inr ⟨tk, h1, hk _ _ _ _ h3 h2, h3⟩
structure ExtLo (b : Nat) (H H' : AHeap) : Prop where
 next : H.next ≤ H'.next
 get : ∀ i o, i < b → H.get i = some o → H'.get i = some o
theorem ExtLo.refl (b : Nat) (H : AHeap) : ExtLo b H H := ⟨Nat.le_refl _, fun _ _ _ h => h⟩
theorem ExtLo.trans {b : Nat} {H H' H'' : AHeap} (h : ExtLo b H H') (k : ExtLo b H' H'') : ExtLo b H H'' := ⟨Nat.le_trans h.next k.next, fun i o hi e => k.get i o hi (h.get i o hi e)⟩
theorem ExtLo.of {b : Nat} {H H' : AHeap} (h : AHeap.Ext H H') : ExtLo b H H' := ⟨h.next, fun i o _ e => h.get i o e⟩
theorem ExtLo.set {b id : Nat} {H H' : AHeap} {o : AObj} (h : ExtLo b H H') (hi : b ≤ id) : ExtLo b H (H'.set id o) := ⟨h.next, fun i o hl e => by rw [AHeap.get_set_ne (by omega)]; exact h.get i o hl e⟩
theorem ExtLo.alloc {b : Nat} {H H' : AHeap} {o : AObj} (h : ExtLo b H H') : ExtLo b H (H'.alloc o) := h.trans (.of (AHeap.Ext.refl _).alloc)
theorem ExtLo.bump {b k : Nat} {H H' : AHeap} (h : ExtLo b H H') : ExtLo b H (H'.bump k) := h.trans (.of (AHeap.Ext.refl _).bump)
theorem ExtLo.ara {b aid : Nat} {H H' : AHeap} {x : Shp} {l : List Nod} (h : ExtLo b H H') (ha : ArA H aid x l) (hb : aid < b) : ArA H' aid x l := by
 obtain ⟨tok, nt, most, e⟩ := ha
 exact ⟨tok, nt, most, h.get _ _ hb e⟩
theorem keys_clone {wid : Nat} {ks : List Int} {kv : AV} {G : AHeap} (h : KeysV wid ks kv G) (hl : ks.length ≤ 1000000) : Sound Try.prog 55 [kv] G (Pure G (.sl .no (rI ks))) := by
 rcases h with ⟨rfl, rfl⟩ | ⟨kid, cap, tail, rfl, h2, h3, h4⟩
 ·exact clone_sound .full [] G (by simp)
 ·exact cloneA_sound h2 hl
def FillQ (wid aid : Nat) (last most : Int) (ks : List Int) (out F : List Fct) (H : AHeap) (H' : AHeap) : Prop := ExtLo wid H H' ∧ Wkr wid aid last most ks (fill most out F).1 (fill most out F).2 H'
set_option maxHeartbeats 4000000 in
theorem fact_sound {wid aid : Nat} {last most : Int} {ks : List Int} {out : List Fct} {H : AHeap} (hW : Wkr wid aid last most ks out 0 H) (hk : ks.length ≤ 1000000) (ho : out.length ≤ most.toNat) (hm : most ≤ 1000000) (a : Ag) :
  Sound Try.prog 86 [.ptr wid 0, .agg (eAg a)] H (fun r H' => FillQ wid aid last most ks out [(ks, a)] H H') := by
 obtain ⟨⟨kv, ov, hg, hK, hO⟩, haw⟩ := hW
 have hwl := AHeap.lt hg
 unfold wCells at hg
 have hov : ∃ t, ov = .sl t (rF out) := by
  rcases hO with ⟨rfl, rfl⟩ | ⟨tk, rfl, _⟩
  ·exact ⟨.full, rfl⟩
  ·exact ⟨_, rfl⟩
 refine fn_soundQ hEi vf86 (Nat.le_of_ble_eq_true rfl) fun Q hQr hQn => ?_
 by_cases c : (out.length : Int) ≥ most
 ·have d1 : decide ((out.length : Int) ≥ most) = true := by simpa using c
  have hf : fill most out [(ks, a)] = (out, 6) := by
   unfold fill
   rw [if_neg (by simp; omega), List.take_append_of_le_length (by omega), List.take_of_length_le (by omega)]
  obtain ⟨t, rfl⟩ := hov
  ((have hd := trivial; repeat' (first | ((first | apply GdK_st | apply GdK_sf | apply CondK_s) <;> intro hd <;> (try simp only [hd])) | simp (disch := first | assumption | omega | (simp only [nx] <;> omega) | fail) only [hd, hQr, hQn, v86_0, ↓YA, YB, YC, YE, YF, YZ, ↓reduceIte, Nat.reduceEqDiff, Nat.reduceAdd, Nat.reduceMul, Nat.reduceLeDiff, Int.reduceToNat, Int.reduceLE, Int.reduceLT, Int.reduceGT, Int.reduceGE, Int.reduceAdd, Int.reduceSub, Int.reduceNeg, Int.reduceBEq, Int.reduceBNe, YZv, hg, d1, List.length_map])) <;> (try (have hd_ : True := hd; clear hd_ hd)))
  refine fin_keep ⟨((ExtLo.refl wid H).alloc).set (Nat.le_refl _), ⟨⟨kv, .sl t (rF out), ?_, ?_, ?_⟩, haw⟩⟩
  ·rw [hf, AHeap.get_set_self (by simp only [nx]; omega)]; rfl
  ·exact hK.keep fun i cs E hi e => by have := AHeap.lt e; rw [AHeap.get_set_ne (by omega), AHeap.get_alloc_ne (by omega)]; exact e
  ·rw [hf]
   exact hO.keep fun i n E sz hi e => by have := AHeap.lt e; rw [AHeap.get_set_ne (by omega), AHeap.get_alloc_ne (by omega)]; exact e
 ·have d1 : decide ((out.length : Int) ≥ most) = false := by simpa using c
  have hf : fill most out [(ks, a)] = (out ++ [(ks, a)], 0) := by
   unfold fill
   rw [if_pos (by simp; omega)]
  have hw2 : (H.alloc (.cells (eAg a) 56)).get wid = _ := (AHeap.get_alloc_ne (by omega)).trans hg
  have hKc := keys_clone (hK.keep (G' := H.alloc (.cells (eAg a) 56)) fun i cs E hi e => by rw [AHeap.get_alloc_ne (by have := AHeap.lt e; omega)]; exact e) hk
  have e10 : (eAg a).length = 10 := rfl
  have et : (eAg a).take 10 = eAg a := rfl
  have la5 : allLen 11 [AV.sl .no (rI ks) :: eAg a] = true := rfl
  have la6 := allLen_rF out
  have la7 : allLen 11 ([] : List (List AV)) = true := rfl
  have m1 : out.length + 1 ≤ maxLen := by unfold maxLen; omega
  have m2 : (out.length + 1) * 104 ≤ 140737488355328 := by omega
  have z1 : 1 ≤ maxLen := by decide
  have hsn : rF out ++ [AV.sl .no (rI ks) :: eAg a] = rF (out ++ [(ks, a)]) := by rw [rF, rF, List.map_append]; rfl
  rcases hO with ⟨rfl, rfl⟩ | ⟨tk, rfl, hgt, htk⟩
  ·simp only [List.length_nil] at d1 m1 m2
   ((have hd := trivial; repeat' (first | ((first | apply GdK_st | apply GdK_sf | apply CondK_s) <;> intro hd <;> (try simp only [hd])) | simp (disch := first | assumption | omega | (simp only [nx] <;> omega) | fail) only [hd, hQr, hQn, v86_0, ↓YA, YB, YC, YE, YF, YZ, ↓reduceIte, Nat.reduceEqDiff, Nat.reduceAdd, Nat.reduceMul, Nat.reduceLeDiff, Int.reduceToNat, Int.reduceLE, Int.reduceLT, Int.reduceGT, Int.reduceGE, Int.reduceAdd, Int.reduceSub, Int.reduceNeg, Int.reduceBEq, Int.reduceBNe, YZv, hg, d1, List.length_map, List.length_nil, e10, et])) <;> (try (have hd_ : True := hd; clear hd_ hd)))
   (refine CallK.use (hKc) ?_; rintro _ _ ⟨rfl, k1, rfl⟩)
   ((have hd := trivial; repeat' (first | ((first | apply GdK_st | apply GdK_sf | apply CondK_s) <;> intro hd <;> (try simp only [hd])) | simp (disch := first | assumption | omega | (simp only [nx] <;> omega) | fail) only [hd, hQr, hQn, v86_0, ↓YA, YB, YC, YE, YF, YZ, ↓reduceIte, Nat.reduceEqDiff, Nat.reduceAdd, Nat.reduceMul, Nat.reduceLeDiff, Int.reduceToNat, Int.reduceLE, Int.reduceLT, Int.reduceGT, Int.reduceGE, Int.reduceAdd, Int.reduceSub, Int.reduceNeg, Int.reduceBEq, Int.reduceBNe, YZv, hg, d1, List.length_map, e10, et, la5, la7, m1, m2, z1])) <;> (try (have hd_ : True := hd; clear hd_ hd)))
   refine fin_keep ⟨(((ExtLo.refl wid H).alloc.bump).alloc).set (Nat.le_refl _), ⟨⟨kv, .sl (.own (H.next + 1 + k1)) (rF [(ks, a)]), ?_, ?_, ?_⟩, haw⟩⟩
   ·rw [hf, AHeap.get_set_self (by simp only [nx]; omega)]; rfl
   ·exact hK.keep fun i cs E hi e => by have := AHeap.lt e; rw [AHeap.get_set_ne (by omega), AHeap.get_alloc_ne (by simp only [nx]; omega)]; simp only [AHeap.get_bump]; rw [AHeap.get_alloc_ne (by omega)]; exact e
   ·rw [hf]
    refine .inr ⟨_, rfl, ?_, by omega⟩
    rw [AHeap.get_set_ne (by omega)]
    exact AHeap.get_alloc_at (by simp only [nx])
  ·have hlt := AHeap.lt hgt
   have hgt2 : (H.alloc (.cells (eAg a) 56)).get tk = _ := (AHeap.get_alloc_ne (by omega)).trans hgt
   ((have hd := trivial; repeat' (first | ((first | apply GdK_st | apply GdK_sf | apply CondK_s) <;> intro hd <;> (try simp only [hd])) | simp (disch := first | assumption | omega | (simp only [nx] <;> omega) | fail) only [hd, hQr, hQn, v86_0, ↓YA, YB, YC, YE, YF, YZ, ↓reduceIte, Nat.reduceEqDiff, Nat.reduceAdd, Nat.reduceMul, Nat.reduceLeDiff, Int.reduceToNat, Int.reduceLE, Int.reduceLT, Int.reduceGT, Int.reduceGE, Int.reduceAdd, Int.reduceSub, Int.reduceNeg, Int.reduceBEq, Int.reduceBNe, YZv, hg, d1, List.length_map, e10, et])) <;> (try (have hd_ : True := hd; clear hd_ hd)))
   (refine CallK.use (hKc) ?_; rintro _ _ ⟨rfl, k1, rfl⟩)
   ((have hd := trivial; repeat' (first | ((first | apply GdK_st | apply GdK_sf | apply CondK_s) <;> intro hd <;> (try simp only [hd])) | simp (disch := first | assumption | omega | (simp only [nx] <;> omega) | fail) only [hd, hQr, hQn, v86_0, ↓YA, YB, YC, YE, YF, YZ, ↓reduceIte, Nat.reduceEqDiff, Nat.reduceAdd, Nat.reduceMul, Nat.reduceLeDiff, Int.reduceToNat, Int.reduceLE, Int.reduceLT, Int.reduceGT, Int.reduceGE, Int.reduceAdd, Int.reduceSub, Int.reduceNeg, Int.reduceBEq, Int.reduceBNe, YZv, hg, d1, List.length_map, e10, et, la5, la6, m1, m2, hgt2, hgt])) <;> (try (have hd_ : True := hd; clear hd_ hd)))
   rw [hsn]
   refine fin_keep ⟨(((ExtLo.refl wid H).alloc.bump).set (by omega)).set (Nat.le_refl _), ⟨⟨kv, .sl (.own tk) (rF (out ++ [(ks, a)])), ?_, ?_, ?_⟩, haw⟩⟩
   ·rw [hf, AHeap.get_set_self (by simp only [nx]; omega)]; rfl
   ·exact hK.keep fun i cs E hi e => by
     have := AHeap.lt e
     have hne : i ≠ tk := fun h => by rw [h, hgt] at e; cases e
     rw [AHeap.get_set_ne (by omega), AHeap.get_set_ne hne]; simp only [AHeap.get_bump]; rw [AHeap.get_alloc_ne (by omega)]; exact e
   ·rw [hf]
    refine .inr ⟨tk, rfl, ?_, htk⟩
    rw [AHeap.get_set_ne (by omega), AHeap.get_set_self (by simp only [nx]; omega)]
    simp
theorem rI_flat (ks : List Int) : (rI ks).flatten = ks.map AV.i := by
 induction ks with
 | nil => rfl
 | cons a ks ih => simp only [List.map_cons, List.flatten_cons, ih]; rfl
theorem apv_fresh {H : AHeap} {E sz bytes : Nat} {zero : List AV} {x : AV} {K : AV → AHeap → Prop} {xs : List (List AV)} (hx : rowsIn H sz x = some xs) (hne : xs ≠ []) (ha : allLen sz xs = true) (hl : ∀ q ∈ xs, q.length = sz) (hz : zero.length = sz) (h1 : xs.length ≤ maxLen) (h2 : xs.length * bytes ≤ 140737488355328)
  (k : ∀ cap tail, xs.length ≤ cap → (xs.flatten ++ tail).length = cap * sz → K (.arr H.next 0 xs.length cap) (H.alloc (.cells (xs.flatten ++ tail) E))) : ApvK H E sz bytes zero (.sl .full []) x K := by
 unfold ApvK
 rw [hx]
 refine ⟨⟨hne, ha, h1, h2⟩, fun cap hc _ => k cap _ hc ?_⟩
 rw [List.length_append, flat_lenA hl, flat_lenA (sz := sz) (rows := List.replicate (cap - xs.length) zero) (fun q hq => by rw [(List.mem_replicate.1 hq).2]; exact hz), List.length_replicate, ← Nat.add_mul]
 congr 1
 omega
theorem keys_push {H : AHeap} {id cap : Nat} {ks : List Int} {tail : List AV} {x : AV} {K : AV → AHeap → Prop} (v : Int)
  (ho : H.get id = some (.cells (ks.map AV.i ++ tail) 3)) (hc : (ks.map AV.i ++ tail).length = cap) (hb : ks.length ≤ 1000000) (hx : rowsIn H 1 x = some [[.i v]])
  (k : ∀ id' cap' tail' H', (id' = id ∧ H' = H.set id (.cells ((ks ++ [v]).map AV.i ++ tail') 3)) ∨ (id' = H.next ∧ H' = H.alloc (.cells ((ks ++ [v]).map AV.i ++ tail') 3)) → ((ks ++ [v]).map AV.i ++ tail').length = cap' → K (.arr id' 0 (ks.length + 1) cap') H') :
  ApvK H 3 1 8 [.i 0] (.arr id 0 ks.length cap) x K := by
 have hrl : (rI ks).length = ks.length := by simp
 have hl : ∀ q ∈ rI ks, q.length = 1 := fun q hq => by obtain ⟨p, _, rfl⟩ := List.mem_map.1 hq; rfl
 have he : ∀ tail', (rI ks ++ [[AV.i v]]).flatten ++ tail' = (ks ++ [v]).map AV.i ++ tail' := fun tail' => by rw [List.flatten_append, rI_flat, List.map_append]; rfl
 have h := apv_push (H := H) (E := 3) (sz := 1) (bytes := 8) (id := id) (cap := cap) (zero := [.i 0]) (rows := rI ks) (tail := tail) (r := [.i v]) (x := x) (K := K)
  (by rw [rI_flat]; exact ho) hl hx rfl (by rw [rI_flat, Nat.mul_one]; exact hc) (by rw [hrl, ← hc]; simp) (by unfold maxLen; omega) (by omega) rfl (fun id' cap' tail' H' h1 h2 h3 _ => by
   rw [he] at h1 h2
   rw [hrl]
   rw [Nat.mul_one] at h2
   exact k id' cap' tail' H' h1 h2)
 rw [hrl] at h
 exact h
set_option maxHeartbeats 8000000 in
theorem cell_walk {x : Shp} {l : List Nod} {wid aid : Nat} {last most : Int} {ks : List Int} {out : List Fct} {H : AHeap} {a : Int} {c : Cel} (hW : Wkr wid aid last most ks out 0 H) (ha : ArA H aid x l) (hk : ks.length ≤ 999999) (ho : out.length ≤ most.toNat) (hm : most ≤ 1000000)
  (hlast : ((ks.length : Int) == last) = lastB x (nodAt l a).dim)
  (hP : lastB x (nodAt l a).dim = false → ∀ G, Wkr wid aid last most (ks ++ [c.key]) out 0 G → ArA G aid x l → Sound Try.prog 43 [.ptr wid 0, .i ((ks ++ [c.key]).length : Nat), .i c.child] G (fun r G' => FillQ wid aid last most (ks ++ [c.key]) out (fct x l (ks ++ [c.key]) c.child) G G')) :
  Sound Try.prog 68 [.ptr wid 0, .i (ks.length : Nat), .agg (eCel c)] H (fun r H' => FillQ wid aid last most ks out (fcel x l a ks c) H H') := by
 obtain ⟨⟨kv, ov, hg, hK, hO⟩, haw⟩ := hW
 have hwl := AHeap.lt hg
 unfold wCells at hg
 have hb := bfd (lastB x (nodAt l a).dim)
 refine fn_soundQ hEi vf68 (Nat.le_of_ble_eq_true rfl) fun Q hQr hQn => ?_
 have hrow : ∀ G : AHeap, G.get (H.next + 1) = some (.cells [[AV.sc (Value.int IntKind.i64 c.key)]].flatten 3) → rowsIn G 1 (.arr (H.next + 1) 0 1 1) = some [[.i c.key]] := fun G h => by
  simp only [rowsIn, h]
  rfl
 rcases hK with ⟨rfl, hks⟩ | ⟨kid, cap, tail, rfl, hkg, hkw0, hcap⟩
 ·((have hd := trivial; repeat' (first | ((first | apply GdK_st | apply GdK_sf | apply CondK_s) <;> intro hd <;> (try simp only [hd])) | simp (disch := first | assumption | omega | (simp only [nx] <;> omega) | fail) only [hd, hQr, hQn, v68_0, ↓YA, YB, YC, YE, YF, YZ, ↓reduceIte, Nat.reduceEqDiff, Nat.reduceAdd, Nat.reduceMul, Nat.reduceLeDiff, Int.reduceToNat, Int.reduceLE, Int.reduceLT, Int.reduceGT, Int.reduceGE, Int.reduceAdd, Int.reduceSub, Int.reduceNeg, Int.reduceBEq, Int.reduceBNe, YZv, hg])) <;> (try (have hd_ : True := hd; clear hd_ hd)))
  refine apv_fresh (xs := [[.i c.key]]) (hrow _ (AHeap.get_alloc_self (H := H.alloc _))) (by simp) rfl (by simp) rfl (by simp [maxLen]) (by simp) fun cap' tail' hc1 hcap0 => ?_
  ·rw [show [[AV.i c.key]].length = ks.length + 1 by rw [hks]; rfl]
   have hcap' : ((ks ++ [c.key]).map AV.i ++ tail').length = cap' := by rw [hks]; simpa using hcap0
   have hkid : (((H.alloc (.cells (eCel c) 58)).alloc (.cells [[AV.sc (Value.int IntKind.i64 c.key)]].flatten 3)).alloc (.cells ([[AV.i c.key]].flatten ++ tail') 3)).get ((H.alloc (.cells (eCel c) 58)).alloc (.cells [[AV.sc (Value.int IntKind.i64 c.key)]].flatten 3)).next = some (.cells ((ks ++ [c.key]).map AV.i ++ tail') 3) := by rw [hks]; exact AHeap.get_alloc_self (H := (H.alloc _).alloc _)
   have hk50 : (((H.alloc (.cells (eCel c) 58)).alloc (.cells [[AV.sc (Value.int IntKind.i64 c.key)]].flatten 3)).alloc (.cells ([[AV.i c.key]].flatten ++ tail') 3)).get H.next = some (.cells (eCel c) 58) := by rw [AHeap.get_alloc_ne (by simp only [nx]; omega), AHeap.get_alloc_ne (by simp only [nx]; omega)]; exact AHeap.get_alloc_self
   have hw0 : (((H.alloc (.cells (eCel c) 58)).alloc (.cells [[AV.sc (Value.int IntKind.i64 c.key)]].flatten 3)).alloc (.cells ([[AV.i c.key]].flatten ++ tail') 3)).get wid = some (.cells [.ptr aid 0, .i last, .sl .full [], .i most, ov, .i 0] 100) := by rw [AHeap.get_alloc_ne (by simp only [nx]; omega), AHeap.get_alloc_ne (by simp only [nx]; omega), AHeap.get_alloc_ne (by omega)]; exact hg
   have hX0 : ExtLo wid H (((H.alloc (.cells (eCel c) 58)).alloc (.cells [[AV.sc (Value.int IntKind.i64 c.key)]].flatten 3)).alloc (.cells ([[AV.i c.key]].flatten ++ tail') 3)) := (ExtLo.refl wid H).alloc.alloc.alloc
   have hO0 : OutV wid out ov (((H.alloc (.cells (eCel c) 58)).alloc (.cells [[AV.sc (Value.int IntKind.i64 c.key)]].flatten 3)).alloc (.cells ([[AV.i c.key]].flatten ++ tail') 3)) := hO.keep fun i n E sz hi e => by have := AHeap.lt e; rw [AHeap.get_alloc_ne (by simp only [nx]; omega), AHeap.get_alloc_ne (by simp only [nx]; omega), AHeap.get_alloc_ne (by omega)]; exact e
   have hkw : wid < ((H.alloc (.cells (eCel c) 58)).alloc (.cells [[AV.sc (Value.int IntKind.i64 c.key)]].flatten 3)).next := by simp only [nx]; omega
   generalize (((H.alloc (.cells (eCel c) 58)).alloc (.cells [[AV.sc (Value.int IntKind.i64 c.key)]].flatten 3)).alloc (.cells ([[AV.i c.key]].flatten ++ tail') 3)) = H' at *
   generalize ((H.alloc (.cells (eCel c) 58)).alloc (.cells [[AV.sc (Value.int IntKind.i64 c.key)]].flatten 3)).next = kid' at *
   have hk5 : H'.get H.next = some (.cells (eCel c) 58) := hk50
   have hw' : H'.get wid = some (.cells [.ptr aid 0, .i last, .sl .full [], .i most, ov, .i 0] 100) := hw0
   have hX' : ExtLo wid H H' := hX0
   have hO' : OutV wid out ov H' := hO0
   have hlk' := AHeap.lt hkid
   have hlw' := AHeap.lt hw'
   have hl5' := AHeap.lt hk5
   rcases hb with hb | hb
   ·have hla : ((ks.length : Int) == last) = false := by rw [hlast]; exact hb
    have hfc : fcel x l a ks c = fct x l (ks ++ [c.key]) c.child := by unfold fcel; rw [hb]; rfl
    rw [hfc] at hQr hQn
    ((have hd := trivial; repeat' (first | ((first | apply GdK_st | apply GdK_sf | apply CondK_s) <;> intro hd <;> (try simp only [hd])) | simp (disch := first | assumption | omega | (simp only [nx] <;> omega) | fail) only [hd, hQr, hQn, v68_0, ↓YA, YB, YC, YE, YF, YZ, ↓reduceIte, Nat.reduceEqDiff, Nat.reduceAdd, Nat.reduceMul, Nat.reduceLeDiff, Int.reduceToNat, Int.reduceLE, Int.reduceLT, Int.reduceGT, Int.reduceGE, Int.reduceAdd, Int.reduceSub, Int.reduceNeg, Int.reduceBEq, Int.reduceBNe, hw', hk5, hla, YZv])) <;> (try (have hd_ : True := hd; clear hd_ hd)))
    have g1w : (H'.set wid (.cells [.ptr aid 0, .i last, .arr kid' 0 (ks.length + 1) cap', .i most, ov, .i 0] 100)).get wid = some (.cells [.ptr aid 0, .i last, .arr kid' 0 (ks.length + 1) cap', .i most, ov, .i 0] 100) := AHeap.get_set_self hlw'
    have g15 : (H'.set wid (.cells [.ptr aid 0, .i last, .arr kid' 0 (ks.length + 1) cap', .i most, ov, .i 0] 100)).get H.next = some (.cells (eCel c) 58) := by rw [AHeap.get_set_ne (by omega)]; exact hk5
    have hW1 : Wkr wid aid last most (ks ++ [c.key]) out 0 (H'.set wid (.cells [.ptr aid 0, .i last, .arr kid' 0 (ks.length + 1) cap', .i most, ov, .i 0] 100)) := by
     refine ⟨⟨.arr kid' 0 (ks.length + 1) cap', ov, g1w, .inr ⟨kid', cap', tail', by simp, ?_, hkw, hcap'⟩, hO'.keep fun i n E sz hi e => by rw [AHeap.get_set_ne (by omega)]; exact e⟩, haw⟩
     rw [AHeap.get_set_ne (by omega)]; exact hkid
    have hX1 : ExtLo wid H (H'.set wid (.cells [.ptr aid 0, .i last, .arr kid' 0 (ks.length + 1) cap', .i most, ov, .i 0] 100)) := hX'.set (Nat.le_refl _)
    generalize H'.set wid (.cells [.ptr aid 0, .i last, .arr kid' 0 (ks.length + 1) cap', .i most, ov, .i 0] 100) = G1 at *
    have hcall := hP hb G1 hW1 (hX1.ara ha haw)
    rw [show ((ks.length : Int) + 1) = (((ks ++ [c.key]).length : Nat) : Int) by simp]
    refine CallK.use hcall ?_
    rintro r G2 hq
    obtain ⟨hx2, ⟨⟨kv2, ov2, hg2, hK2, hO2⟩, _⟩⟩ := hq
    rcases hK2 with ⟨_, h⟩ | ⟨kid2, cap2, tail2, rfl, hkg2, hkw2, hc2⟩
    ·simp at h
    have hl2 := AHeap.lt hg2
    unfold wCells at hg2
    have hc3 : 1 ≤ cap2 := by rw [← hc2]; simp; omega
    have hb0 : (0 : Int) ≤ (ks.length : Int) := by omega
    have hb3 : ks.length ≤ cap2 := by rw [← hc2]; simp
    have hb4 : cap2 ≤ cap2 := Nat.le_refl _
    have hl3 : ¬ (cap2 = 0) := by omega
    ((have hd := trivial; repeat' (first | ((first | apply GdK_st | apply GdK_sf | apply CondK_s) <;> intro hd <;> (try simp only [hd])) | simp (disch := first | assumption | omega | (simp only [nx] <;> omega) | fail) only [hd, hQr, hQn, v68_0, ↓YA, YB, YC, YE, YF, YZ, ↓reduceIte, Nat.reduceEqDiff, Nat.reduceAdd, Nat.reduceMul, Nat.reduceLeDiff, Int.reduceToNat, Int.reduceLE, Int.reduceLT, Int.reduceGT, Int.reduceGE, Int.reduceAdd, Int.reduceSub, Int.reduceNeg, Int.reduceBEq, Int.reduceBNe, hg2, bndA, AX.ev, Fr.get, hb0, hb3, hb4, hl3, Int.toNat_natCast, Nat.sub_zero, Nat.zero_mul, Nat.zero_le])) <;> (try (have hd_ : True := hd; clear hd_ hd)))
    refine fin_keep ⟨(hX1.trans hx2).set (Nat.le_refl _), ⟨⟨.arr kid2 0 ks.length cap2, ov2, AHeap.get_set_self hl2, .inr ⟨kid2, cap2, .i c.key :: tail2, rfl, ?_, hkw2, ?_⟩, hO2.keep fun i n E sz hi e => by rw [AHeap.get_set_ne (by omega)]; exact e⟩, haw⟩⟩
    ·rw [AHeap.get_set_ne (by omega), hkg2]; simp
    ·rw [← hc2]; simp
   ·have hla : ((ks.length : Int) == last) = true := by rw [hlast]; exact hb
    have hfc : fcel x l a ks c = [(ks ++ [c.key], c.agg)] := by unfold fcel; rw [hb]; rfl
    rw [hfc] at hQr hQn
    ((have hd := trivial; repeat' (first | ((first | apply GdK_st | apply GdK_sf | apply CondK_s) <;> intro hd <;> (try simp only [hd])) | simp (disch := first | assumption | omega | (simp only [nx] <;> omega) | fail) only [hd, hQr, hQn, v68_0, ↓YA, YB, YC, YE, YF, YZ, ↓reduceIte, Nat.reduceEqDiff, Nat.reduceAdd, Nat.reduceMul, Nat.reduceLeDiff, Int.reduceToNat, Int.reduceLE, Int.reduceLT, Int.reduceGT, Int.reduceGE, Int.reduceAdd, Int.reduceSub, Int.reduceNeg, Int.reduceBEq, Int.reduceBNe, hw', hk5, hla, YZv])) <;> (try (have hd_ : True := hd; clear hd_ hd)))
    have g1w : (H'.set wid (.cells [.ptr aid 0, .i last, .arr kid' 0 (ks.length + 1) cap', .i most, ov, .i 0] 100)).get wid = some (.cells [.ptr aid 0, .i last, .arr kid' 0 (ks.length + 1) cap', .i most, ov, .i 0] 100) := AHeap.get_set_self hlw'
    have g15 : (H'.set wid (.cells [.ptr aid 0, .i last, .arr kid' 0 (ks.length + 1) cap', .i most, ov, .i 0] 100)).get H.next = some (.cells (eCel c) 58) := by rw [AHeap.get_set_ne (by omega)]; exact hk5
    have hW1 : Wkr wid aid last most (ks ++ [c.key]) out 0 (H'.set wid (.cells [.ptr aid 0, .i last, .arr kid' 0 (ks.length + 1) cap', .i most, ov, .i 0] 100)) := by
     refine ⟨⟨.arr kid' 0 (ks.length + 1) cap', ov, g1w, .inr ⟨kid', cap', tail', by simp, ?_, hkw, hcap'⟩, hO'.keep fun i n E sz hi e => by rw [AHeap.get_set_ne (by omega)]; exact e⟩, haw⟩
     rw [AHeap.get_set_ne (by omega)]; exact hkid
    have hX1 : ExtLo wid H (H'.set wid (.cells [.ptr aid 0, .i last, .arr kid' 0 (ks.length + 1) cap', .i most, ov, .i 0] 100)) := hX'.set (Nat.le_refl _)
    generalize H'.set wid (.cells [.ptr aid 0, .i last, .arr kid' 0 (ks.length + 1) cap', .i most, ov, .i 0] 100) = G1 at *
    refine CallK.use (fact_sound hW1 (by simp; omega) ho hm c.agg) ?_
    rintro r G2 hq
    obtain ⟨hx2, ⟨⟨kv2, ov2, hg2, hK2, hO2⟩, _⟩⟩ := hq
    rcases hK2 with ⟨_, h⟩ | ⟨kid2, cap2, tail2, rfl, hkg2, hkw2, hc2⟩
    ·simp at h
    have hl2 := AHeap.lt hg2
    unfold wCells at hg2
    have hc3 : 1 ≤ cap2 := by rw [← hc2]; simp; omega
    have hb0 : (0 : Int) ≤ (ks.length : Int) := by omega
    have hb3 : ks.length ≤ cap2 := by rw [← hc2]; simp
    have hb4 : cap2 ≤ cap2 := Nat.le_refl _
    have hl3 : ¬ (cap2 = 0) := by omega
    ((have hd := trivial; repeat' (first | ((first | apply GdK_st | apply GdK_sf | apply CondK_s) <;> intro hd <;> (try simp only [hd])) | simp (disch := first | assumption | omega | (simp only [nx] <;> omega) | fail) only [hd, hQr, hQn, v68_0, ↓YA, YB, YC, YE, YF, YZ, ↓reduceIte, Nat.reduceEqDiff, Nat.reduceAdd, Nat.reduceMul, Nat.reduceLeDiff, Int.reduceToNat, Int.reduceLE, Int.reduceLT, Int.reduceGT, Int.reduceGE, Int.reduceAdd, Int.reduceSub, Int.reduceNeg, Int.reduceBEq, Int.reduceBNe, hg2, bndA, AX.ev, Fr.get, hb0, hb3, hb4, hl3, Int.toNat_natCast, Nat.sub_zero, Nat.zero_mul, Nat.zero_le])) <;> (try (have hd_ : True := hd; clear hd_ hd)))
    refine fin_keep ⟨(hX1.trans hx2).set (Nat.le_refl _), ⟨⟨.arr kid2 0 ks.length cap2, ov2, AHeap.get_set_self hl2, .inr ⟨kid2, cap2, .i c.key :: tail2, rfl, ?_, hkw2, ?_⟩, hO2.keep fun i n E sz hi e => by rw [AHeap.get_set_ne (by omega)]; exact e⟩, haw⟩⟩
    ·rw [AHeap.get_set_ne (by omega), hkg2]; simp
    ·rw [← hc2]; simp
 ·have hlk := AHeap.lt hkg
  ((have hd := trivial; repeat' (first | ((first | apply GdK_st | apply GdK_sf | apply CondK_s) <;> intro hd <;> (try simp only [hd])) | simp (disch := first | assumption | omega | (simp only [nx] <;> omega) | fail) only [hd, hQr, hQn, v68_0, ↓YA, YB, YC, YE, YF, YZ, ↓reduceIte, Nat.reduceEqDiff, Nat.reduceAdd, Nat.reduceMul, Nat.reduceLeDiff, Int.reduceToNat, Int.reduceLE, Int.reduceLT, Int.reduceGT, Int.reduceGE, Int.reduceAdd, Int.reduceSub, Int.reduceNeg, Int.reduceBEq, Int.reduceBNe, YZv, hg])) <;> (try (have hd_ : True := hd; clear hd_ hd)))
  refine keys_push (ks := ks) (tail := tail) c.key ?_ hcap (by omega) (hrow _ (AHeap.get_alloc_self (H := H.alloc _))) ?_
  ·rw [AHeap.get_alloc_ne (by simp only [nx]; omega), AHeap.get_alloc_ne (by omega)]; exact hkg
  ·rintro kid' cap' tail' H' hor hcap'
   have b5 : ((H.alloc (.cells (eCel c) 58)).alloc (.cells [[AV.sc (Value.int IntKind.i64 c.key)]].flatten 3)).get H.next = some (.cells (eCel c) 58) := by rw [AHeap.get_alloc_ne (by simp only [nx]; omega)]; exact AHeap.get_alloc_self
   have bw : ((H.alloc (.cells (eCel c) 58)).alloc (.cells [[AV.sc (Value.int IntKind.i64 c.key)]].flatten 3)).get wid = some (.cells [.ptr aid 0, .i last, .arr kid 0 ks.length cap, .i most, ov, .i 0] 100) := by rw [AHeap.get_alloc_ne (by simp only [nx]; omega), AHeap.get_alloc_ne (by omega)]; exact hg
   have bX : ExtLo wid H ((H.alloc (.cells (eCel c) 58)).alloc (.cells [[AV.sc (Value.int IntKind.i64 c.key)]].flatten 3)) := (ExtLo.refl wid H).alloc.alloc
   have bO : ∀ i n E sz, wid < i → H.get i = some (.tok n E sz) → ((H.alloc (.cells (eCel c) 58)).alloc (.cells [[AV.sc (Value.int IntKind.i64 c.key)]].flatten 3)).get i = some (.tok n E sz) := fun i n E sz hi e => by have := AHeap.lt e; rw [AHeap.get_alloc_ne (by simp only [nx]; omega), AHeap.get_alloc_ne (by omega)]; exact e
   have bn : ((H.alloc (.cells (eCel c) 58)).alloc (.cells [[AV.sc (Value.int IntKind.i64 c.key)]].flatten 3)).next = H.next + 2 := by simp only [nx]
   have bk : ((H.alloc (.cells (eCel c) 58)).alloc (.cells [[AV.sc (Value.int IntKind.i64 c.key)]].flatten 3)).get kid = some (.cells (ks.map AV.i ++ tail) 3) := by rw [AHeap.get_alloc_ne (by simp only [nx]; omega), AHeap.get_alloc_ne (by omega)]; exact hkg
   generalize ((H.alloc (.cells (eCel c) 58)).alloc (.cells [[AV.sc (Value.int IntKind.i64 c.key)]].flatten 3)) = B0 at *
   obtain ⟨hkid, hk50, hw0, hX0, hO0, hkw⟩ : H'.get kid' = some (.cells ((ks ++ [c.key]).map AV.i ++ tail') 3) ∧ H'.get H.next = some (.cells (eCel c) 58) ∧ H'.get wid = some (.cells [.ptr aid 0, .i last, .arr kid 0 ks.length cap, .i most, ov, .i 0] 100) ∧ ExtLo wid H H' ∧ OutV wid out ov H' ∧ wid < kid' := by
    have bkl := AHeap.lt bk
    rcases hor with ⟨rfl, rfl⟩ | ⟨rfl, rfl⟩
    ·refine ⟨AHeap.get_set_self bkl, by rw [AHeap.get_set_ne (by omega)]; exact b5, by rw [AHeap.get_set_ne (by omega)]; exact bw, bX.set (by omega), hO.keep fun i n E sz hi e => ?_, hkw0⟩
     have hne : i ≠ kid' := fun h => by rw [h, hkg] at e; cases e
     rw [AHeap.get_set_ne hne]; exact bO i n E sz hi e
    ·refine ⟨AHeap.get_alloc_self, by rw [AHeap.get_alloc_ne (by omega)]; exact b5, by rw [AHeap.get_alloc_ne (by omega)]; exact bw, bX.alloc, hO.keep fun i n E sz hi e => ?_, by omega⟩
     have := AHeap.lt e
     rw [AHeap.get_alloc_ne (by omega)]; exact bO i n E sz hi e
   have hk5 : H'.get H.next = some (.cells (eCel c) 58) := hk50
   have hw' : H'.get wid = some (.cells [.ptr aid 0, .i last, .arr kid 0 ks.length cap, .i most, ov, .i 0] 100) := hw0
   have hX' : ExtLo wid H H' := hX0
   have hO' : OutV wid out ov H' := hO0
   have hlk' := AHeap.lt hkid
   have hlw' := AHeap.lt hw'
   have hl5' := AHeap.lt hk5
   rcases hb with hb | hb
   ·have hla : ((ks.length : Int) == last) = false := by rw [hlast]; exact hb
    have hfc : fcel x l a ks c = fct x l (ks ++ [c.key]) c.child := by unfold fcel; rw [hb]; rfl
    rw [hfc] at hQr hQn
    ((have hd := trivial; repeat' (first | ((first | apply GdK_st | apply GdK_sf | apply CondK_s) <;> intro hd <;> (try simp only [hd])) | simp (disch := first | assumption | omega | (simp only [nx] <;> omega) | fail) only [hd, hQr, hQn, v68_0, ↓YA, YB, YC, YE, YF, YZ, ↓reduceIte, Nat.reduceEqDiff, Nat.reduceAdd, Nat.reduceMul, Nat.reduceLeDiff, Int.reduceToNat, Int.reduceLE, Int.reduceLT, Int.reduceGT, Int.reduceGE, Int.reduceAdd, Int.reduceSub, Int.reduceNeg, Int.reduceBEq, Int.reduceBNe, hw', hk5, hla, YZv])) <;> (try (have hd_ : True := hd; clear hd_ hd)))
    have g1w : (H'.set wid (.cells [.ptr aid 0, .i last, .arr kid' 0 (ks.length + 1) cap', .i most, ov, .i 0] 100)).get wid = some (.cells [.ptr aid 0, .i last, .arr kid' 0 (ks.length + 1) cap', .i most, ov, .i 0] 100) := AHeap.get_set_self hlw'
    have g15 : (H'.set wid (.cells [.ptr aid 0, .i last, .arr kid' 0 (ks.length + 1) cap', .i most, ov, .i 0] 100)).get H.next = some (.cells (eCel c) 58) := by rw [AHeap.get_set_ne (by omega)]; exact hk5
    have hW1 : Wkr wid aid last most (ks ++ [c.key]) out 0 (H'.set wid (.cells [.ptr aid 0, .i last, .arr kid' 0 (ks.length + 1) cap', .i most, ov, .i 0] 100)) := by
     refine ⟨⟨.arr kid' 0 (ks.length + 1) cap', ov, g1w, .inr ⟨kid', cap', tail', by simp, ?_, hkw, hcap'⟩, hO'.keep fun i n E sz hi e => by rw [AHeap.get_set_ne (by omega)]; exact e⟩, haw⟩
     rw [AHeap.get_set_ne (by omega)]; exact hkid
    have hX1 : ExtLo wid H (H'.set wid (.cells [.ptr aid 0, .i last, .arr kid' 0 (ks.length + 1) cap', .i most, ov, .i 0] 100)) := hX'.set (Nat.le_refl _)
    generalize H'.set wid (.cells [.ptr aid 0, .i last, .arr kid' 0 (ks.length + 1) cap', .i most, ov, .i 0] 100) = G1 at *
    have hcall := hP hb G1 hW1 (hX1.ara ha haw)
    rw [show ((ks.length : Int) + 1) = (((ks ++ [c.key]).length : Nat) : Int) by simp]
    refine CallK.use hcall ?_
    rintro r G2 hq
    obtain ⟨hx2, ⟨⟨kv2, ov2, hg2, hK2, hO2⟩, _⟩⟩ := hq
    rcases hK2 with ⟨_, h⟩ | ⟨kid2, cap2, tail2, rfl, hkg2, hkw2, hc2⟩
    ·simp at h
    have hl2 := AHeap.lt hg2
    unfold wCells at hg2
    have hc3 : 1 ≤ cap2 := by rw [← hc2]; simp; omega
    have hb0 : (0 : Int) ≤ (ks.length : Int) := by omega
    have hb3 : ks.length ≤ cap2 := by rw [← hc2]; simp
    have hb4 : cap2 ≤ cap2 := Nat.le_refl _
    have hl3 : ¬ (cap2 = 0) := by omega
    ((have hd := trivial; repeat' (first | ((first | apply GdK_st | apply GdK_sf | apply CondK_s) <;> intro hd <;> (try simp only [hd])) | simp (disch := first | assumption | omega | (simp only [nx] <;> omega) | fail) only [hd, hQr, hQn, v68_0, ↓YA, YB, YC, YE, YF, YZ, ↓reduceIte, Nat.reduceEqDiff, Nat.reduceAdd, Nat.reduceMul, Nat.reduceLeDiff, Int.reduceToNat, Int.reduceLE, Int.reduceLT, Int.reduceGT, Int.reduceGE, Int.reduceAdd, Int.reduceSub, Int.reduceNeg, Int.reduceBEq, Int.reduceBNe, hg2, bndA, AX.ev, Fr.get, hb0, hb3, hb4, hl3, Int.toNat_natCast, Nat.sub_zero, Nat.zero_mul, Nat.zero_le])) <;> (try (have hd_ : True := hd; clear hd_ hd)))
    refine fin_keep ⟨(hX1.trans hx2).set (Nat.le_refl _), ⟨⟨.arr kid2 0 ks.length cap2, ov2, AHeap.get_set_self hl2, .inr ⟨kid2, cap2, .i c.key :: tail2, rfl, ?_, hkw2, ?_⟩, hO2.keep fun i n E sz hi e => by rw [AHeap.get_set_ne (by omega)]; exact e⟩, haw⟩⟩
    ·rw [AHeap.get_set_ne (by omega), hkg2]; simp
    ·rw [← hc2]; simp
   ·have hla : ((ks.length : Int) == last) = true := by rw [hlast]; exact hb
    have hfc : fcel x l a ks c = [(ks ++ [c.key], c.agg)] := by unfold fcel; rw [hb]; rfl
    rw [hfc] at hQr hQn
    ((have hd := trivial; repeat' (first | ((first | apply GdK_st | apply GdK_sf | apply CondK_s) <;> intro hd <;> (try simp only [hd])) | simp (disch := first | assumption | omega | (simp only [nx] <;> omega) | fail) only [hd, hQr, hQn, v68_0, ↓YA, YB, YC, YE, YF, YZ, ↓reduceIte, Nat.reduceEqDiff, Nat.reduceAdd, Nat.reduceMul, Nat.reduceLeDiff, Int.reduceToNat, Int.reduceLE, Int.reduceLT, Int.reduceGT, Int.reduceGE, Int.reduceAdd, Int.reduceSub, Int.reduceNeg, Int.reduceBEq, Int.reduceBNe, hw', hk5, hla, YZv])) <;> (try (have hd_ : True := hd; clear hd_ hd)))
    have g1w : (H'.set wid (.cells [.ptr aid 0, .i last, .arr kid' 0 (ks.length + 1) cap', .i most, ov, .i 0] 100)).get wid = some (.cells [.ptr aid 0, .i last, .arr kid' 0 (ks.length + 1) cap', .i most, ov, .i 0] 100) := AHeap.get_set_self hlw'
    have g15 : (H'.set wid (.cells [.ptr aid 0, .i last, .arr kid' 0 (ks.length + 1) cap', .i most, ov, .i 0] 100)).get H.next = some (.cells (eCel c) 58) := by rw [AHeap.get_set_ne (by omega)]; exact hk5
    have hW1 : Wkr wid aid last most (ks ++ [c.key]) out 0 (H'.set wid (.cells [.ptr aid 0, .i last, .arr kid' 0 (ks.length + 1) cap', .i most, ov, .i 0] 100)) := by
     refine ⟨⟨.arr kid' 0 (ks.length + 1) cap', ov, g1w, .inr ⟨kid', cap', tail', by simp, ?_, hkw, hcap'⟩, hO'.keep fun i n E sz hi e => by rw [AHeap.get_set_ne (by omega)]; exact e⟩, haw⟩
     rw [AHeap.get_set_ne (by omega)]; exact hkid
    have hX1 : ExtLo wid H (H'.set wid (.cells [.ptr aid 0, .i last, .arr kid' 0 (ks.length + 1) cap', .i most, ov, .i 0] 100)) := hX'.set (Nat.le_refl _)
    generalize H'.set wid (.cells [.ptr aid 0, .i last, .arr kid' 0 (ks.length + 1) cap', .i most, ov, .i 0] 100) = G1 at *
    refine CallK.use (fact_sound hW1 (by simp; omega) ho hm c.agg) ?_
    rintro r G2 hq
    obtain ⟨hx2, ⟨⟨kv2, ov2, hg2, hK2, hO2⟩, _⟩⟩ := hq
    rcases hK2 with ⟨_, h⟩ | ⟨kid2, cap2, tail2, rfl, hkg2, hkw2, hc2⟩
    ·simp at h
    have hl2 := AHeap.lt hg2
    unfold wCells at hg2
    have hc3 : 1 ≤ cap2 := by rw [← hc2]; simp; omega
    have hb0 : (0 : Int) ≤ (ks.length : Int) := by omega
    have hb3 : ks.length ≤ cap2 := by rw [← hc2]; simp
    have hb4 : cap2 ≤ cap2 := Nat.le_refl _
    have hl3 : ¬ (cap2 = 0) := by omega
    ((have hd := trivial; repeat' (first | ((first | apply GdK_st | apply GdK_sf | apply CondK_s) <;> intro hd <;> (try simp only [hd])) | simp (disch := first | assumption | omega | (simp only [nx] <;> omega) | fail) only [hd, hQr, hQn, v68_0, ↓YA, YB, YC, YE, YF, YZ, ↓reduceIte, Nat.reduceEqDiff, Nat.reduceAdd, Nat.reduceMul, Nat.reduceLeDiff, Int.reduceToNat, Int.reduceLE, Int.reduceLT, Int.reduceGT, Int.reduceGE, Int.reduceAdd, Int.reduceSub, Int.reduceNeg, Int.reduceBEq, Int.reduceBNe, hg2, bndA, AX.ev, Fr.get, hb0, hb3, hb4, hl3, Int.toNat_natCast, Nat.sub_zero, Nat.zero_mul, Nat.zero_le])) <;> (try (have hd_ : True := hd; clear hd_ hd)))
    refine fin_keep ⟨(hX1.trans hx2).set (Nat.le_refl _), ⟨⟨.arr kid2 0 ks.length cap2, ov2, AHeap.get_set_self hl2, .inr ⟨kid2, cap2, .i c.key :: tail2, rfl, ?_, hkw2, ?_⟩, hO2.keep fun i n E sz hi e => by rw [AHeap.get_set_ne (by omega)]; exact e⟩, haw⟩⟩
    ·rw [AHeap.get_set_ne (by omega), hkg2]; simp
    ·rw [← hc2]; simp
theorem Wkr.ext {wid aid : Nat} {last most : Int} {ks : List Int} {out : List Fct} {e : Int} {G G' : AHeap} (h : Wkr wid aid last most ks out e G) (hx : AHeap.Ext G G') : Wkr wid aid last most ks out e G' := by
 obtain ⟨⟨kv, ov, hg, hK, hO⟩, haw⟩ := h
 exact ⟨⟨kv, ov, hx.get _ _ hg, hK.keep fun i cs E _ e => hx.get _ _ e, hO.keep fun i n E sz _ e => hx.get _ _ e⟩, haw⟩
def WkA (most : Int) (out : List Fct) (A : Nat → List Fct) (k : Nat) (o : List Fct) (e : Int) : Prop := (k = 0 ∧ o = out ∧ e = 0) ∨ (0 < k ∧ o = (fill most out (A k)).1 ∧ e = (fill most out (A k)).2)
theorem WkA.next {most : Int} {out o : List Fct} {A : Nat → List Fct} {k : Nat} {F : List Fct} (h : WkA most out A k o 0) (h0 : A 0 = []) (hA : A (k + 1) = A k ++ F) : WkA most out A (k + 1) (fill most o F).1 (fill most o F).2 := by
 refine .inr ⟨Nat.succ_pos _, ?_⟩
 rcases h with ⟨rfl, rfl, _⟩ | ⟨_, rfl, he⟩
 ·rw [hA, h0]; exact ⟨rfl, rfl⟩
 ·rw [fill_app he.symm, hA]; exact ⟨rfl, rfl⟩
theorem WkA.len {most : Int} {out o : List Fct} {A : Nat → List Fct} {k : Nat} {e : Int} (h : WkA most out A k o e) (ho : out.length ≤ most.toNat) : o.length ≤ most.toNat := by
 rcases h with ⟨_, rfl, _⟩ | ⟨_, rfl, _⟩
 ·exact ho
 ·exact fill_len ho
theorem WkA.stop {most : Int} {out o : List Fct} {A : Nat → List Fct} {k : Nat} {e : Int} {F : List Fct} (h : WkA most out A k o e) (he : e ≠ 0) : o = (fill most out (A k ++ F)).1 ∧ e = (fill most out (A k ++ F)).2 := by
 rcases h with ⟨_, _, h⟩ | ⟨_, h1, h2⟩
 ·exact absurd h he
 ·rw [h2] at he
  rw [fill_stop he]
  exact ⟨h1, h2⟩
structure Wlk (x : Shp) (l : List Nod) : Prop where
 w : ArW x l
 ne : ∀ n ∈ l, n.lists ≠ []
 ne2 : ∀ n ∈ l, ∀ c ∈ n.lists, c ≠ []
 dm : ∀ i : Nat, i < l.length → 0 ≤ (nodAt l i).dim ∧ (nodAt l i).dim < x.sizes.length
 dim : ∀ i : Nat, i < l.length → lastB x (nodAt l i).dim = false → ∀ c ∈ each (nodAt l i), (nodAt l c.child).dim = (nodAt l i).dim + 1
set_option maxHeartbeats 8000000 in
theorem node_walk {x : Shp} {l : List Nod} {wid aid : Nat} {last most d0 : Int} (hw : Wlk x l) (hd0 : last = (x.sizes.length : Int) - 1 - d0) (hm : most ≤ 1000000) :
  ∀ (n : Nat) (ks : List Int) (out : List Fct) (a : Int) (H : AHeap), 0 ≤ a → a < l.length → a < (n : Int) → (nodAt l a).dim = d0 + ks.length → ks.length + n ≤ 999999 → out.length ≤ most.toNat → Wkr wid aid last most ks out 0 H → ArA H aid x l →
   Sound Try.prog 43 [.ptr wid 0, .i (ks.length : Nat), .i a] H (fun r H' => FillQ wid aid last most ks out (fct x l ks a) H H')
 | 0, ks, out, a, H, h0, h1, h2, _, _, _, _, _ => by omega
 | n + 1, ks, out, a, H, h0, h1, h2, h3, h4, ho, hW, ha => by
  obtain ⟨b, rfl⟩ : ∃ b : Nat, a = b := ⟨a.toNat, by omega⟩
  have hbl : b < l.length := by omega
  have hnod := nodAt_nat hbl
  have hs := hw.w.small _ (List.getElem_mem hbl)
  obtain ⟨p1, p2, p3⟩ := hw.w.bounds
  have hdn := hw.w.down
  have hf := fct_eq hdn ks h0 h1
  obtain ⟨L, ls, hL⟩ : ∃ L ls, (nodAt l b).lists = L :: ls := by
   cases h : (nodAt l b).lists with
   | nil => rw [hnod] at h; exact absurd h (hw.ne _ (List.getElem_mem hbl))
   | cons a r => exact ⟨a, r, rfl⟩
  have hLe : ∀ c ∈ L, c ∈ (nodAt l b).lists.headD [] := by rw [hL]; exact fun c h => h
  rw [hL, List.headD_cons] at hf
  have hLl : L.length ≤ 1000000 := (nodAt_small b hw.w.small).2.2 L (by rw [hL]; exact List.mem_cons_self)
  have hL0 : L ≠ [] := hw.ne2 _ (List.getElem_mem hbl) L (by rw [← hnod, hL]; exact List.mem_cons_self)
  have hlast : ((ks.length : Int) == last) = lastB x (nodAt l b).dim := by
   unfold lastB
   rw [h3, hd0, Bool.eq_iff_iff]
   simp
   omega
  obtain ⟨⟨kv, ov, hg, _, _⟩, haw⟩ := id hW
  unfold wCells at hg
  have hin : inB l (b : Int) = true := by unfold inB; simp; omega
  refine fn_soundQ hEi vf43 (Nat.le_of_ble_eq_true rfl) fun Q hQr hQn => ?_
  ((have hd := trivial; repeat' (first | ((first | apply GdK_st | apply GdK_sf | apply CondK_s) <;> intro hd <;> (try simp only [hd])) | simp (disch := first | assumption | omega | (simp only [nx] <;> omega) | fail) only [hd, hQr, hQn, v43_0, ↓YA, YB, YC, YE, YF, YZ, ↓reduceIte, Nat.reduceEqDiff, Nat.reduceAdd, Nat.reduceMul, Nat.reduceLeDiff, Int.reduceToNat, Int.reduceLE, Int.reduceLT, Int.reduceGT, Int.reduceGE, Int.reduceAdd, Int.reduceSub, Int.reduceNeg, Int.reduceBEq, Int.reduceBNe, YZv, hg])) <;> (try (have hd_ : True := hd; clear hd_ hd)))
  refine CallK.use (anode_sound (b : Int) ha p1 hw.w.small) ?_
  rintro r G1 ⟨hx1, t1, rfl⟩
  rw [hin]
  have e1 : (eNod t1 (nodAt l b))[1]? = some (.sl t1 ([.sl .no (rC L)] :: rL ls)) := by
   show some (AV.sl t1 (rL (nodAt l b).lists)) = _
   rw [hL]; rfl
  have e14 : (eNod t1 (nodAt l b)).length = 14 := rfl
  ((have hd := trivial; repeat' (first | ((first | apply GdK_st | apply GdK_sf | apply CondK_s) <;> intro hd <;> (try simp only [hd])) | simp (disch := first | assumption | omega | (simp only [nx] <;> omega) | fail) only [hd, hQr, hQn, v43_0, ↓YA, YB, YC, YE, YF, YZ, ↓reduceIte, Nat.reduceEqDiff, Nat.reduceAdd, Nat.reduceMul, Nat.reduceLeDiff, Int.reduceToNat, Int.reduceLE, Int.reduceLT, Int.reduceGT, Int.reduceGE, Int.reduceAdd, Int.reduceSub, Int.reduceNeg, Int.reduceBEq, Int.reduceBNe, YZv, e1, e14])) <;> (try (have hd_ : True := hd; clear hd_ hd)))
  have hxG : AHeap.Ext H (G1.alloc (.cells (eNod t1 (nodAt l b)) 60)) := hx1.alloc
  have haG := ha.ext hxG
  have hWG := hW.ext hxG
  generalize G1.alloc (.cells (eNod t1 (nodAt l b)) 60) = G2 at *
  generalize hA : (fun k => (L.take k).flatMap (fcel x l b ks)) = A at *
  have hA0 : A 0 = [] := by rw [← hA]; rfl
  have hAn : A L.length = L.flatMap (fcel x l b ks) := by rw [← hA]; simp
  have hA1 : ∀ k (h : k < L.length), A (k + 1) = A k ++ fcel x l b ks L[k] := fun k h => by rw [← hA]; exact flatMap_take h
  have hAk : ∀ k, k ≤ L.length → ∃ R, fct x l ks b = A k ++ R := fun k hk => ⟨(L.drop k).flatMap (fcel x l b ks), by rw [hf, ← hA]; simp only; rw [← List.flatMap_append, List.take_append_drop]⟩
  clear hA
  refine AW_forI (N := L.length) (fun k F S => Fr.get F 33 = .i (k : Int) ∧ Fr.get F 32 = .i (L.length : Int) ∧ Fr.get F 31 = .sl .no (rC L) ∧ Fr.get F 0 = .ptr wid 0 ∧ Fr.get F 1 = .i (ks.length : Int) ∧ Fr.get F 8 = .fn 68 [.ptr wid 0] [] ∧ ExtLo wid H S ∧ ∃ o e, Wkr wid aid last most ks o e S ∧ WkA most out A k o e) (by unfold maxLen; omega) (fun k F G h => ⟨h.1, h.2.1⟩) (GStep.refl _ _) ⟨rfl, rfl, rfl, rfl, rfl, rfl, .of hxG, out, 0, hWG, .inl ⟨rfl, rfl, rfl⟩⟩ ?_ ?_
  ·rintro k F S hk ⟨f33, f32, f31, f0, f1, f8, hxS, o, e, hWo, hWA⟩
   obtain ⟨⟨kv2, ov2, hg2, _, _⟩, _⟩ := id hWo
   have hl2 := AHeap.lt hg2
   unfold wCells at hg2
   have hg3 : (S.alloc (.cells (eCel L[k]) 58)).get wid = _ := (AHeap.get_alloc_ne (by omega)).trans hg2
   by_cases he : e = 0
   ·subst he
    have hW1 := hWo.ext ((AHeap.Ext.refl S).alloc (o := .cells (eCel L[k]) 58))
    have hxS1 : ExtLo wid H (S.alloc (.cells (eCel L[k]) 58)) := hxS.alloc
    have hcall := cell_walk (a := (b : Int)) (c := L[k]) hW1 (hxS1.ara ha haw) (by omega) (hWA.len ho) hm hlast (fun hb G hWG haG => by
     have hch := head_down hdn h0 h1 hb (hLe _ (List.getElem_mem hk))
     refine node_walk hw hd0 hm n (ks ++ [L[k].key]) o L[k].child G hch.1 (by omega) (by omega) ?_ (by simp; omega) (hWA.len ho) hWG haG
     rw [hw.dim b hbl hb _ (head_each (hLe _ (List.getElem_mem hk))), h3]
     simp
     omega)
    ((have hd := trivial; repeat' (first | ((first | apply GdK_st | apply GdK_sf | apply CondK_s) <;> intro hd <;> (try simp only [hd])) | simp (disch := first | assumption | omega | (simp only [nx] <;> omega) | fail) only [hd, hQr, hQn, v43_0, ↓YA, YB, YC, YE, YF, YZ, ↓reduceIte, Nat.reduceEqDiff, Nat.reduceAdd, Nat.reduceMul, Nat.reduceLeDiff, Int.reduceToNat, Int.reduceLE, Int.reduceLT, Int.reduceGT, Int.reduceGE, Int.reduceAdd, Int.reduceSub, Int.reduceNeg, Int.reduceBEq, Int.reduceBNe, f33, f32, f31, f0, f1, f8, hg3, hg2, YZv])) <;> (try (have hd_ : True := hd; clear hd_ hd)))
    refine CallK.use hcall ?_
    rintro r G3 ⟨hx3, hW3⟩
    ((have hd := trivial; repeat' (first | ((first | apply GdK_st | apply GdK_sf | apply CondK_s) <;> intro hd <;> (try simp only [hd])) | simp (disch := first | assumption | omega | (simp only [nx] <;> omega) | fail) only [hd, hQr, hQn, v43_0, ↓YA, YB, YC, YE, YF, YZ, ↓reduceIte, Nat.reduceEqDiff, Nat.reduceAdd, Nat.reduceMul, Nat.reduceLeDiff, Int.reduceToNat, Int.reduceLE, Int.reduceLT, Int.reduceGT, Int.reduceGE, Int.reduceAdd, Int.reduceSub, Int.reduceNeg, Int.reduceBEq, Int.reduceBNe, f33, f32, f31, f0, f1, f8])) <;> (try (have hd_ : True := hd; clear hd_ hd)))
    exact ⟨hxS1.trans hx3, _, _, hW3, hWA.next hA0 (hA1 k hk)⟩
   ·have d1 : (e != 0) = true := by simpa using he
    obtain ⟨R, hR⟩ := hAk k (by omega)
    obtain ⟨r1, r2⟩ := hWA.stop (F := R) he
    ((have hd := trivial; repeat' (first | ((first | apply GdK_st | apply GdK_sf | apply CondK_s) <;> intro hd <;> (try simp only [hd])) | simp (disch := first | assumption | omega | (simp only [nx] <;> omega) | fail) only [hd, hQr, hQn, v43_0, ↓YA, YB, YC, YE, YF, YZ, ↓reduceIte, Nat.reduceEqDiff, Nat.reduceAdd, Nat.reduceMul, Nat.reduceLeDiff, Int.reduceToNat, Int.reduceLE, Int.reduceLT, Int.reduceGT, Int.reduceGE, Int.reduceAdd, Int.reduceSub, Int.reduceNeg, Int.reduceBEq, Int.reduceBNe, f33, f32, f31, f0, f1, f8, hg3, hg2, d1, YZv])) <;> (try (have hd_ : True := hd; clear hd_ hd)))
    refine fin_keep ⟨hxS.alloc, ?_⟩
    rw [hR, ← r1, ← r2]
    exact hWo.ext (AHeap.Ext.refl S).alloc
  ·rintro F S ⟨f33, f32, f31, f0, f1, f8, hxS, o, e, hWo, hWA⟩
   ((have hd := trivial; repeat' (first | ((first | apply GdK_st | apply GdK_sf | apply CondK_s) <;> intro hd <;> (try simp only [hd])) | simp (disch := first | assumption | omega | (simp only [nx] <;> omega) | fail) only [hd, hQr, hQn, v43_0, ↓YA, YB, YC, YE, YF, YZ, ↓reduceIte, Nat.reduceEqDiff, Nat.reduceAdd, Nat.reduceMul, Nat.reduceLeDiff, Int.reduceToNat, Int.reduceLE, Int.reduceLT, Int.reduceGT, Int.reduceGE, Int.reduceAdd, Int.reduceSub, Int.reduceNeg, Int.reduceBEq, Int.reduceBNe])) <;> (try (have hd_ : True := hd; clear hd_ hd)))
   refine fin_keep ⟨hxS, ?_⟩
   rcases hWA with ⟨h, _, _⟩ | ⟨_, r1, r2⟩
   ·exact absurd (List.length_eq_zero_iff.1 h) hL0
   ·rw [hf, ← hAn, ← r1, ← r2]; exact hWo
def resF (most : Int) (F : List Fct) : AV := if (fill most [] F).2 = 0 then .tup [.sl .no (rF (fill most [] F).1), .i 0] else .tup [.sl .no [], .i (fill most [] F).2]
def resFacts (x : Shp) (l : List Nod) (most : Int) : AV := if wholeB x l = false then .tup [.sl .no [], .i 2] else if l.length = 0 then .tup [.sl .no [], .i 0] else resF most (fct x l [] ((l.length : Int) - 1))
theorem whole_dim {x : Shp} {l : List Nod} (h : wholeB x l = true) (hl : l.length ≠ 0) : (nodAt l ((l.length : Int) - 1)).dim = 0 := by
 unfold wholeB at h
 rw [if_neg hl, Bool.and_eq_true] at h
 simpa using h.1
set_option maxHeartbeats 4000000 in
theorem facts_sound {x : Shp} {l : List Nod} {aid : Nat} {most : Int} {H : AHeap} (hw : Wlk x l) (ha : ArA H aid x l) (hm : most ≤ 1000000) (hlen : l.length ≤ 900000) : Sound Try.prog 22 [.ptr aid 0, .i most] H (Pure H (resFacts x l most)) := by
 obtain ⟨p1, p2, p3⟩ := hw.w.bounds
 obtain ⟨b1, b2, b3, b4, b5⟩ := shpMay_bounds hw.w.may
 obtain ⟨_, _, _, g1⟩ := ha.eAr
 refine fn_soundQ hE cf22 (Nat.le_of_ble_eq_true rfl) fun Q hQr hQn => ?_
 ((have hd := trivial; repeat' (first | ((first | apply GdK_st | apply GdK_sf | apply CondK_s) <;> intro hd <;> (try simp only [hd])) | simp (disch := first | assumption | omega | (simp only [nx] <;> omega) | fail) only [hd, hQr, hQn, c22_0, ↓YA, YB, YC, YE, YF, YZ, ↓reduceIte, Nat.reduceEqDiff, Nat.reduceAdd, Nat.reduceMul, Nat.reduceLeDiff, Int.reduceToNat, Int.reduceLE, Int.reduceLT, Int.reduceGT, Int.reduceGE, Int.reduceAdd, Int.reduceSub, Int.reduceNeg, Int.reduceBEq, Int.reduceBNe])) <;> (try (have hd_ : True := hd; clear hd_ hd)))
 refine CallK.use (shape_yes g1 hw.w.may) ?_
 rintro r H1 ⟨hx1, t1, rfl⟩
 have d1 : (x.measures == 0) = false := by rw [beq_eq_false_iff_ne]; omega
 ((have hd := trivial; repeat' (first | ((first | apply GdK_st | apply GdK_sf | apply CondK_s) <;> intro hd <;> (try simp only [hd])) | simp (disch := first | assumption | omega | (simp only [nx] <;> omega) | fail) only [hd, hQr, hQn, c22_0, ↓YA, YB, YC, YE, YF, YZ, ↓reduceIte, Nat.reduceEqDiff, Nat.reduceAdd, Nat.reduceMul, Nat.reduceLeDiff, Int.reduceToNat, Int.reduceLE, Int.reduceLT, Int.reduceGT, Int.reduceGE, Int.reduceAdd, Int.reduceSub, Int.reduceNeg, Int.reduceBEq, Int.reduceBNe, d1])) <;> (try (have hd_ : True := hd; clear hd_ hd)))
 (refine CallK.use (awhole_sound (ha.ext hx1) hw.w) ?_; rintro _ _ ⟨rfl, k1, rfl⟩)
 have w1 := bfd (wholeB x l)
 rcases w1 with w1 | w1
 ·have hr : resFacts x l most = .tup [.sl .no [], .i 2] := by unfold resFacts; rw [if_pos w1]
  rw [hr] at hQr hQn
  ((have hd := trivial; repeat' (first | ((first | apply GdK_st | apply GdK_sf | apply CondK_s) <;> intro hd <;> (try simp only [hd])) | simp (disch := first | assumption | omega | (simp only [nx] <;> omega) | fail) only [hd, hQr, hQn, c22_0, ↓YA, YB, YC, YE, YF, YZ, ↓reduceIte, Nat.reduceEqDiff, Nat.reduceAdd, Nat.reduceMul, Nat.reduceLeDiff, Int.reduceToNat, Int.reduceLE, Int.reduceLT, Int.reduceGT, Int.reduceGE, Int.reduceAdd, Int.reduceSub, Int.reduceNeg, Int.reduceBEq, Int.reduceBNe, w1])) <;> (try (have hd_ : True := hd; clear hd_ hd)))
  exact fin_pure (by exact AXT) rfl
 ((have hd := trivial; repeat' (first | ((first | apply GdK_st | apply GdK_sf | apply CondK_s) <;> intro hd <;> (try simp only [hd])) | simp (disch := first | assumption | omega | (simp only [nx] <;> omega) | fail) only [hd, hQr, hQn, c22_0, ↓YA, YB, YC, YE, YF, YZ, ↓reduceIte, Nat.reduceEqDiff, Nat.reduceAdd, Nat.reduceMul, Nat.reduceLeDiff, Int.reduceToNat, Int.reduceLE, Int.reduceLT, Int.reduceGT, Int.reduceGE, Int.reduceAdd, Int.reduceSub, Int.reduceNeg, Int.reduceBEq, Int.reduceBNe, w1])) <;> (try (have hd_ : True := hd; clear hd_ hd)))
 have hx2 : AHeap.Ext H (H1.bump k1) := hx1.bump
 generalize H1.bump k1 = H2 at *
 (refine CallK.use (alen_sound (ha.ext hx2) hw.w) ?_; rintro _ H3 ⟨rfl, hx3⟩)
 have hx3 := hx2.trans hx3
 by_cases hl0 : l.length = 0
 ·have hr : resFacts x l most = .tup [.sl .no [], .i 0] := by unfold resFacts; rw [w1, if_neg (by simp), if_pos hl0]
  rw [hr] at hQr hQn
  have d2 : ((l.length : Int) == 0) = true := by simp [hl0]
  ((have hd := trivial; repeat' (first | ((first | apply GdK_st | apply GdK_sf | apply CondK_s) <;> intro hd <;> (try simp only [hd])) | simp (disch := first | assumption | omega | (simp only [nx] <;> omega) | fail) only [hd, hQr, hQn, c22_0, ↓YA, YB, YC, YE, YF, YZ, ↓reduceIte, Nat.reduceEqDiff, Nat.reduceAdd, Nat.reduceMul, Nat.reduceLeDiff, Int.reduceToNat, Int.reduceLE, Int.reduceLT, Int.reduceGT, Int.reduceGE, Int.reduceAdd, Int.reduceSub, Int.reduceNeg, Int.reduceBEq, Int.reduceBNe, d2])) <;> (try (have hd_ : True := hd; clear hd_ hd)))
  exact fin_pure (by exact AXT) rfl
 have d2 : ((l.length : Int) == 0) = false := by rw [beq_eq_false_iff_ne]; omega
 have hr : resFacts x l most = resF most (fct x l [] ((l.length : Int) - 1)) := by unfold resFacts; rw [w1, if_neg (by simp), if_neg hl0]
 rw [hr] at hQr hQn
 ((have hd := trivial; repeat' (first | ((first | apply GdK_st | apply GdK_sf | apply CondK_s) <;> intro hd <;> (try simp only [hd])) | simp (disch := first | assumption | omega | (simp only [nx] <;> omega) | fail) only [hd, hQr, hQn, c22_0, ↓YA, YB, YC, YE, YF, YZ, ↓reduceIte, Nat.reduceEqDiff, Nat.reduceAdd, Nat.reduceMul, Nat.reduceLeDiff, Int.reduceToNat, Int.reduceLE, Int.reduceLT, Int.reduceGT, Int.reduceGE, Int.reduceAdd, Int.reduceSub, Int.reduceNeg, Int.reduceBEq, Int.reduceBNe, d2])) <;> (try (have hd_ : True := hd; clear hd_ hd)))
 obtain ⟨_, _, _, g3⟩ := (ha.ext hx3).eAr
 refine CallK.use (shape_yes g3 hw.w.may) ?_
 rintro r H4 ⟨hx4, t4, rfl⟩
 have hx4 := hx3.trans hx4
 ((have hd := trivial; repeat' (first | ((first | apply GdK_st | apply GdK_sf | apply CondK_s) <;> intro hd <;> (try simp only [hd])) | simp (disch := first | assumption | omega | (simp only [nx] <;> omega) | fail) only [hd, hQr, hQn, c22_0, ↓YA, YB, YC, YE, YF, YZ, ↓reduceIte, Nat.reduceEqDiff, Nat.reduceAdd, Nat.reduceMul, Nat.reduceLeDiff, Int.reduceToNat, Int.reduceLE, Int.reduceLT, Int.reduceGT, Int.reduceGE, Int.reduceAdd, Int.reduceSub, Int.reduceNeg, Int.reduceBEq, Int.reduceBNe])) <;> (try (have hd_ : True := hd; clear hd_ hd)))
 have haw : aid < H4.next := by obtain ⟨_, _, _, e⟩ := ha.ext hx4; exact AHeap.lt e
 have hW0 : Wkr H4.next aid ((x.sizes.length : Int) - 1) most [] [] 0 (H4.alloc (.cells [.ptr aid 0, .i ((x.sizes.length : Int) - 1), .sl .full [], .i most, .sl .full [], .i 0] 100)) :=
  ⟨⟨_, _, AHeap.get_alloc_self, .inl ⟨rfl, rfl⟩, .inl ⟨rfl, rfl⟩⟩, haw⟩
 have hx5 : AHeap.Ext H (H4.alloc (.cells [.ptr aid 0, .i ((x.sizes.length : Int) - 1), .sl .full [], .i most, .sl .full [], .i 0] 100)) := hx4.alloc
 have hn4 := hx4.next
 generalize hwid : H4.next = wid at *
 generalize H4.alloc (.cells [.ptr aid 0, .i ((x.sizes.length : Int) - 1), .sl .full [], .i most, .sl .full [], .i 0] 100) = H5 at *
 refine CallK.use (top_sound (ha.ext hx5) p1 (by omega)) ?_
 rintro _ H6 ⟨rfl, hx6⟩
 ((have hd := trivial; repeat' (first | ((first | apply GdK_st | apply GdK_sf | apply CondK_s) <;> intro hd <;> (try simp only [hd])) | simp (disch := first | assumption | omega | (simp only [nx] <;> omega) | fail) only [hd, hQr, hQn, c22_0, ↓YA, YB, YC, YE, YF, YZ, ↓reduceIte, Nat.reduceEqDiff, Nat.reduceAdd, Nat.reduceMul, Nat.reduceLeDiff, Int.reduceToNat, Int.reduceLE, Int.reduceLT, Int.reduceGT, Int.reduceGE, Int.reduceAdd, Int.reduceSub, Int.reduceNeg, Int.reduceBEq, Int.reduceBNe])) <;> (try (have hd_ : True := hd; clear hd_ hd)))
 have hx56 := hx5.trans hx6
 have hdim := whole_dim w1 hl0
 have hcall := node_walk (wid := wid) (aid := aid) (d0 := 0) hw (by omega : ((x.sizes.length : Int) - 1) = (x.sizes.length : Int) - 1 - 0) hm l.length [] [] ((l.length : Int) - 1) H6 (by omega) (by omega) (by omega) (by rw [hdim]; simp) (by simp; omega) (by simp) (hW0.ext hx6) (ha.ext hx56)
 refine CallK.use hcall ?_
 rintro r H7 ⟨hx7, ⟨kv, ov, hg, hK, hO⟩, _⟩
 have hxH : AHeap.Ext H H7 := ⟨Nat.le_trans hx56.next hx7.next, fun i o e => hx7.get i o (by have := AHeap.lt e; omega) (hx56.get i o e)⟩
 unfold wCells at hg
 generalize fct x l [] ((l.length : Int) - 1) = F at *
 unfold resF at hQr hQn
 by_cases he : (fill most [] F).2 = 0
 ·rw [if_pos he] at hQr hQn
  have d3 : ((fill most [] F).2 != 0) = false := by simpa using he
  rw [he] at hg
  have hov : ∃ t, ov = .sl t (rF (fill most [] F).1) := by
   rcases hO with ⟨rfl, h⟩ | ⟨tk, rfl, _⟩
   ·rw [h]; exact ⟨.full, rfl⟩
   ·exact ⟨_, rfl⟩
  obtain ⟨t, rfl⟩ := hov
  ((have hd := trivial; repeat' (first | ((first | apply GdK_st | apply GdK_sf | apply CondK_s) <;> intro hd <;> (try simp only [hd])) | simp (disch := first | assumption | omega | (simp only [nx] <;> omega) | fail) only [hd, hQr, hQn, c22_0, ↓YA, YB, YC, YE, YF, YZ, ↓reduceIte, Nat.reduceEqDiff, Nat.reduceAdd, Nat.reduceMul, Nat.reduceLeDiff, Int.reduceToNat, Int.reduceLE, Int.reduceLT, Int.reduceGT, Int.reduceGE, Int.reduceAdd, Int.reduceSub, Int.reduceNeg, Int.reduceBEq, Int.reduceBNe, hg])) <;> (try (have hd_ : True := hd; clear hd_ hd)))
  exact fin_pure hxH rfl
 ·rw [if_neg he] at hQr hQn
  have d3 : ((fill most [] F).2 != 0) = true := by simpa using he
  generalize (fill most [] F).2 = e at *
  ((have hd := trivial; repeat' (first | ((first | apply GdK_st | apply GdK_sf | apply CondK_s) <;> intro hd <;> (try simp only [hd])) | simp (disch := first | assumption | omega | (simp only [nx] <;> omega) | fail) only [hd, hQr, hQn, c22_0, ↓YA, YB, YC, YE, YF, YZ, ↓reduceIte, Nat.reduceEqDiff, Nat.reduceAdd, Nat.reduceMul, Nat.reduceLeDiff, Int.reduceToNat, Int.reduceLE, Int.reduceLT, Int.reduceGT, Int.reduceGE, Int.reduceAdd, Int.reduceSub, Int.reduceNeg, Int.reduceBEq, Int.reduceBNe, hg, d3])) <;> (try (have hd_ : True := hd; clear hd_ hd)))
  exact fin_pure hxH rfl
theorem wlk_of {x : Shp} {l : List Nod} (h : loadErr x l = 0) (hlen : l.length ≤ 100000) (hs : ∀ n ∈ l, smallN n) : Wlk x l := by
 obtain ⟨hw, hd⟩ := load_w h hlen hs
 have ha := (load_all h).2
 refine ⟨hw, fun n hn => ?_, canon_nodes h, fun i hi => ?_, fun i hi hb c hc => ?_⟩
 ·obtain ⟨i, hi, rfl⟩ := List.getElem_of_mem hn
  have := (add_zero' (ha i hi)).1
  unfold checkErr at this
  simp only at this
  split at this
  ·cases this
  ·split at this
   ·cases this
   ·rename_i h2
    intro e
    rw [e] at h2
    simp at h2
 ·rw [nodAt_nat hi]
  exact hd _ (List.getElem_mem hi)
 ·have hl := (add_zero' (ha i hi)).2.1
  rw [nodAt_nat hi] at hb hc ⊢
  unfold leadsB at hl
  rw [hb, Bool.false_or, List.all_eq_true] at hl
  have := hl c hc
  rw [Bool.and_eq_true, decide_eq_true_eq, decide_eq_true_eq, List.length_take] at this
  have hc0 : 0 ≤ c.child ∧ c.child < i := by
   have := hw.down i hi
   rw [nodAt_nat hi] at this
   exact this hb c hc
  obtain ⟨b, hbb⟩ : ∃ b : Nat, c.child = b := ⟨c.child.toNat, by omega⟩
  have hbl : b < l.length := by omega
  have h2 := this.2
  rw [hbb, Int.toNat_natCast, List.getD_eq_getElem?_getD, List.getElem?_take, if_pos (by omega), List.getElem?_eq_getElem hbl, Option.getD_some] at h2
  rw [hbb, nodAt_nat hbl]
  exact h2
def fcn (x : Shp) (l : List Nod) (a : Int) : Nat := (fct x l [] a).length
def wgt (x : Shp) (l : List Nod) (a : Int) (c : Cel) : Nat := if lastB x (nodAt l a).dim = true then 1 else fcn x l c.child
theorem fcts_len {x : Shp} {l : List Nod} : ∀ (n : Nat) (ks ks' : List Int) (a : Int), (fcts x l n ks a).length = (fcts x l n ks' a).length
 | 0, _, _, _ => rfl
 | n + 1, ks, ks', a => by
  simp only [fcts, List.length_flatMap]
  congr 1
  refine List.map_congr_left fun c _ => ?_
  split
  ·rfl
  ·exact fcts_len n _ _ _
theorem fcel_len {x : Shp} {l : List Nod} (a : Int) (ks : List Int) (c : Cel) : (fcel x l a ks c).length = wgt x l a c := by
 unfold fcel wgt
 split
 ·rfl
 ·exact fcts_len _ _ _ _
theorem fcn_eq {x : Shp} {l : List Nod} (hd : Down x l) {a : Int} (h0 : 0 ≤ a) (h1 : a < l.length) : fcn x l a = (((nodAt l a).lists.headD []).map (wgt x l a)).sum := by
 unfold fcn
 rw [fct_eq hd [] h0 h1, List.length_flatMap]
 congr 1
 exact List.map_congr_left fun c _ => fcel_len a [] c
theorem sum_take {α : Type} {f : α → Nat} {l : List α} {k : Nat} (h : k < l.length) : ((l.take (k + 1)).map f).sum = ((l.take k).map f).sum + f l[k] := by
 rw [take_add_one' h, List.map_append, List.sum_append]; simp
theorem sum_take_le {α : Type} {f : α → Nat} {l : List α} (k : Nat) : ((l.take k).map f).sum ≤ (l.map f).sum := by
 rw [show (l.map f).sum = ((l.take k ++ l.drop k).map f).sum by rw [List.take_append_drop], List.map_append, List.sum_append]
 omega
def cntL (x : Shp) (l : List Nod) (m k : Nat) : List Int := (List.range k).map fun j : Nat => ((min (fcn x l (j : Int)) m : Nat) : Int)
theorem cntL_len (x : Shp) (l : List Nod) (m k : Nat) : (cntL x l m k).length = k := by simp [cntL]
@[simp] theorem cntL_zero (x : Shp) (l : List Nod) (m : Nat) : cntL x l m 0 = [] := rfl
theorem cntL_succ (x : Shp) (l : List Nod) (m k : Nat) : cntL x l m (k + 1) = cntL x l m k ++ [((min (fcn x l (k : Int)) m : Nat) : Int)] := by
 unfold cntL; rw [List.range_succ, List.map_append]; rfl
theorem HX.thnq {O : List (Nat × AObj)} {H H1 G : AHeap} (h : HX O H H1) (k : HX [] H1 G) : HX O H G :=
 ⟨Nat.le_trans h.n k.n, fun p hp => by
  have := h.o p hp
  rw [k.get _ (AHeap.lt this)]; exact this, fun i hi hn => by rw [k.get _ (Nat.lt_of_lt_of_le hi h.n)]; exact h.g i hi hn⟩
def resCount (x : Shp) (l : List Nod) (most : Int) : Int := if wholeB x l = true ∧ l.length ≠ 0 then ((min (fcn x l ((l.length : Int) - 1)) most.toNat : Nat) : Int) else 0
set_option maxHeartbeats 8000000 in
theorem count_sound {x : Shp} {l : List Nod} {aid : Nat} {most : Int} {H : AHeap} (hw : Wlk x l) (ha : ArA H aid x l) (hm : most ≤ 1000000) (hlen : l.length ≤ 900000) : Sound Try.prog 24 [.ptr aid 0, .i most] H (Pure H (.i (resCount x l most))) := by
 obtain ⟨p1, p2, p3⟩ := hw.w.bounds
 have hdn := hw.w.down
 refine fn_soundQ hE cf24 (Nat.le_of_ble_eq_true rfl) fun Q hQr hQn => ?_
 ((have hd := trivial; repeat' (first | ((first | apply GdK_st | apply GdK_sf | apply CondK_s) <;> intro hd <;> (try simp only [hd])) | simp (disch := first | assumption | omega | (simp only [nx] <;> omega) | fail) only [hd, hQr, hQn, c24_0, ↓YA, YB, YC, YE, YF, YZ, ↓reduceIte, Nat.reduceEqDiff, Nat.reduceAdd, Nat.reduceMul, Nat.reduceLeDiff, Int.reduceToNat, Int.reduceLE, Int.reduceLT, Int.reduceGT, Int.reduceGE, Int.reduceAdd, Int.reduceSub, Int.reduceNeg, Int.reduceBEq, Int.reduceBNe])) <;> (try (have hd_ : True := hd; clear hd_ hd)))
 (refine CallK.use (awhole_sound ha hw.w) ?_; rintro _ _ ⟨rfl, k1, rfl⟩)
 have w1 := bfd (wholeB x l)
 rcases w1 with w1 | w1
 ·have hr : resCount x l most = 0 := by unfold resCount; rw [if_neg (by rw [w1]; simp)]
  rw [hr] at hQr hQn
  ((have hd := trivial; repeat' (first | ((first | apply GdK_st | apply GdK_sf | apply CondK_s) <;> intro hd <;> (try simp only [hd])) | simp (disch := first | assumption | omega | (simp only [nx] <;> omega) | fail) only [hd, hQr, hQn, c24_0, ↓YA, YB, YC, YE, YF, YZ, ↓reduceIte, Nat.reduceEqDiff, Nat.reduceAdd, Nat.reduceMul, Nat.reduceLeDiff, Int.reduceToNat, Int.reduceLE, Int.reduceLT, Int.reduceGT, Int.reduceGE, Int.reduceAdd, Int.reduceSub, Int.reduceNeg, Int.reduceBEq, Int.reduceBNe, w1])) <;> (try (have hd_ : True := hd; clear hd_ hd)))
  exact fin_pure (by exact AXT) rfl
 ((have hd := trivial; repeat' (first | ((first | apply GdK_st | apply GdK_sf | apply CondK_s) <;> intro hd <;> (try simp only [hd])) | simp (disch := first | assumption | omega | (simp only [nx] <;> omega) | fail) only [hd, hQr, hQn, c24_0, ↓YA, YB, YC, YE, YF, YZ, ↓reduceIte, Nat.reduceEqDiff, Nat.reduceAdd, Nat.reduceMul, Nat.reduceLeDiff, Int.reduceToNat, Int.reduceLE, Int.reduceLT, Int.reduceGT, Int.reduceGE, Int.reduceAdd, Int.reduceSub, Int.reduceNeg, Int.reduceBEq, Int.reduceBNe, w1])) <;> (try (have hd_ : True := hd; clear hd_ hd)))
 have hx1 : AHeap.Ext H (H.bump k1) := by exact AXT
 obtain ⟨_, _, _, g1⟩ := (ha.ext hx1).eAr
 refine CallK.use (shape_yes g1 hw.w.may) ?_
 rintro r H2 ⟨hx2, t1, rfl⟩
 have hx2 := hx1.trans hx2
 have hmx : (if (0 : Int) > most then 0 else most) = ((most.toNat : Nat) : Int) := by split <;> omega
 ((have hd := trivial; repeat' (first | ((first | apply GdK_st | apply GdK_sf | apply CondK_s) <;> intro hd <;> (try simp only [hd])) | simp (disch := first | assumption | omega | (simp only [nx] <;> omega) | fail) only [hd, hQr, hQn, c24_0, ↓YA, YB, YC, YE, YF, YZ, ↓reduceIte, Nat.reduceEqDiff, Nat.reduceAdd, Nat.reduceMul, Nat.reduceLeDiff, Int.reduceToNat, Int.reduceLE, Int.reduceLT, Int.reduceGT, Int.reduceGE, Int.reduceAdd, Int.reduceSub, Int.reduceNeg, Int.reduceBEq, Int.reduceBNe, hmx])) <;> (try (have hd_ : True := hd; clear hd_ hd)))
 (refine CallK.use (nodes_sound (ha.ext hx2) p1 (by omega) hw.w.small) ?_; rintro _ _ ⟨rfl, k2, rfl⟩)
 have hx3 : AHeap.Ext H (H2.bump k2) := hx2.bump
 ((have hd := trivial; repeat' (first | ((first | apply GdK_st | apply GdK_sf | apply CondK_s) <;> intro hd <;> (try simp only [hd])) | simp (disch := first | assumption | omega | (simp only [nx] <;> omega) | fail) only [hd, hQr, hQn, c24_0, ↓YA, YB, YC, YE, YF, YZ, ↓reduceIte, Nat.reduceEqDiff, Nat.reduceAdd, Nat.reduceMul, Nat.reduceLeDiff, Int.reduceToNat, Int.reduceLE, Int.reduceLT, Int.reduceGT, Int.reduceGE, Int.reduceAdd, Int.reduceSub, Int.reduceNeg, Int.reduceBEq, Int.reduceBNe, hmx])) <;> (try (have hd_ : True := hd; clear hd_ hd)))
 generalize H2.bump k2 = G0 at *
 have hmm : most.toNat ≤ 1000000 := by omega
 generalize hmq : most.toNat = m at *
 have hcnt : ∀ k, k ≤ l.length → (cntL x l m k).length = k := fun k _ => cntL_len x l m k
 refine AW_for [1, 6, 24, 25] (σ := Unit) (fun (k : Nat) s => True) (fun k s => [(5, .sl (.own G0.next) (rI (cntL x l m k)))]) (fun k s => [(G0.next, .tok k 3 1)]) () (GStep.tok 5 3 1 rfl) (by simp only [keep_nil, keep_cons, Fr.put, Fr.get, ↓reduceIte, Nat.reduceEqDiff]; rfl) (by intro k s; rfl) (by intro k s; rfl) (by rfl) (by unfold maxLen; omega) ?_ (by simp only [FrL_nil, FrL_cons, Fr.put, Fr.get, ↓reduceIte, Nat.reduceEqDiff, and_self] <;> simp) ?_ ?_ ?_
 ·trivial
 ·rw [ObjL_cons]
  exact ⟨AHeap.get_alloc_self (H := G0), by simp [ObjL]⟩
 ·(rintro i s G hi ht hG hn1; try simp only [nx] at hn1)
  have hnod := nodAt_nat hi
  have hsn := hw.w.small _ (List.getElem_mem hi)
  obtain ⟨L, ls, hL⟩ : ∃ L ls, l[i].lists = L :: ls := by
   cases h : l[i].lists with
   | nil => exact absurd h (hw.ne _ (List.getElem_mem hi))
   | cons a r => exact ⟨a, r, rfl⟩
  have hLl : L.length ≤ 1000000 := hsn.2.2 L (by rw [hL]; exact List.mem_cons_self)
  have hL0 : L ≠ [] := hw.ne2 _ (List.getElem_mem hi) L (by rw [hL]; exact List.mem_cons_self)
  have e1 : (eNod .no l[i])[1]? = some (.sl .no ([.sl .no (rC L)] :: rL ls)) := by
   show some (AV.sl .no (rL l[i].lists)) = _
   rw [hL]; rfl
  have e14 : (eNod .no l[i]).length = 14 := rfl
  have hF : fcn x l (i : Int) = (L.map (wgt x l i)).sum := by rw [fcn_eq hdn (by omega) (by omega), hnod, hL]; rfl
  have hgt := hG.o _ (List.mem_singleton.2 rfl)
  simp only at hgt
  have hlt := AHeap.lt hgt
  ((have hd := trivial; repeat' (first | ((first | apply GdK_st | apply GdK_sf | apply CondK_s) <;> intro hd <;> (try simp only [hd])) | simp (disch := first | assumption | omega | (simp only [nx] <;> omega) | fail) only [hd, hQr, hQn, c24_0, ↓YA, YB, YC, YE, YF, YZ, ↓reduceIte, Nat.reduceEqDiff, Nat.reduceAdd, Nat.reduceMul, Nat.reduceLeDiff, Int.reduceToNat, Int.reduceLE, Int.reduceLT, Int.reduceGT, Int.reduceGE, Int.reduceAdd, Int.reduceSub, Int.reduceNeg, Int.reduceBEq, Int.reduceBNe, e1])) <;> (try (have hd_ : True := hd; clear hd_ hd)))
  have hx4 : AHeap.Ext G (G.alloc (.cells (eNod .no l[i]) 60)) := by exact AXT
  have hG4 : HX [(G0.next, .tok i 3 1)] (G0.alloc (.tok 0 3 1)) (G.alloc (.cells (eNod .no l[i]) 60)) := hG.alloc
  have hg8 : (G.alloc (.cells (eNod .no l[i]) 60)).get G.next = some (.cells (eNod .no l[i]) 60) := AHeap.get_alloc_self
  generalize hn8 : G.next = n8 at *
  generalize G.alloc (.cells (eNod .no l[i]) 60) = G4 at *
  have hl8 := AHeap.lt hg8
  have hgt4 : G4.get G0.next = some (.tok i 3 1) := hG4.o _ (List.mem_singleton.2 rfl)
  have hlt4 := AHeap.lt hgt4
  have la1 := allLen_rI (cntL x l m i)
  have la2 : ∀ v : Int, allLen 1 [[AV.i v]] = true := fun _ => rfl
  have hcl := cntL_len x l m i
  have m1 : i + 1 ≤ maxLen := by unfold maxLen; omega
  have m2 : (i + 1) * 8 ≤ 140737488355328 := by omega
  have hsn : ∀ v : Int, v = ((min (fcn x l (i : Int)) m : Nat) : Int) → rI (cntL x l m i) ++ [[AV.i v]] = rI (cntL x l m (i + 1)) := fun v hv => by rw [cntL_succ, hv, rI, rI, List.map_append]; rfl
  have e00 : ∀ h : 0 < (eNod .no l[i]).length, (eNod .no l[i])[0]'h = .i l[i].dim := fun _ => rfl
  refine AW_for [1, 5, 6, 8, 24, 25, 26, 33, 34] (σ := Unit) (fun (k : Nat) s => ((L.take k).map (wgt x l i)).sum ≤ m) (fun k s => [(9, .i ((((L.take k).map (wgt x l i)).sum : Nat) : Int))]) (fun k s => []) () (GStep.refl _ _) (by simp only [keep_nil, keep_cons, Fr.put, Fr.get, ↓reduceIte, Nat.reduceEqDiff]; rfl) (by intro k s; rfl) (by intro k s; rfl) (by rfl) (by unfold maxLen; omega) ?_ (by simp only [FrL_nil, FrL_cons, Fr.put, Fr.get, ↓reduceIte, Nat.reduceEqDiff, and_self] <;> simp) (by simp only [ObjL_nil]) ?_ ?_
  ·simp
  ·(rintro j s2 G5 hj ht2 hG5 hn2; try simp only [nx] at hn2)
   have hst := sum_take (f := wgt x l i) hj
   have hle := sum_take_le (f := wgt x l i) (l := L) (j + 1)
   have g8 : G5.get n8 = _ := (hG5.get _ hl8).trans hg8
   have gt5 : G5.get G0.next = _ := (hG5.get _ hlt4).trans hgt4
   have lt5 := AHeap.lt gt5
   have hb := bfd (lastB x l[i].dim)
   have hlast : decide (l[i].dim < (x.sizes.length : Int) - 1) = !(lastB x l[i].dim) := by
    have := hw.dm i hi
    rw [hnod] at this
    unfold lastB
    rw [Bool.eq_iff_iff]
    simp
    omega
   generalize hS : ((L.take j).map (wgt x l i)).sum = S at *
   generalize hS1 : ((L.take (j + 1)).map (wgt x l i)).sum = S1 at *
   rcases hb with hb | hb
   ·rw [hb] at hlast
    have hch := head_down hdn (a := (i : Int)) (by omega) (by omega) (by rw [hnod]; exact hb) (c := L[j]) (by rw [hnod, hL]; exact List.getElem_mem hj)
    obtain ⟨b, hbb⟩ : ∃ b : Nat, L[j].child = b := ⟨L[j].child.toNat, by omega⟩
    have hbi : b < i := by omega
    have h0b : (0 : Int) ≤ (b : Int) := by omega
    have hrow : (cntL x l m i)[b]? = some ((min (fcn x l (b : Int)) m : Nat) : Int) := by unfold cntL; simp [hbi]
    have hwg : wgt x l i L[j] = fcn x l (b : Int) := by unfold wgt; rw [hnod, hb, hbb]; rfl
    rw [hwg] at hst
    have hbl : b < (cntL x l m i).length := by omega
    have hrow2 : (cntL x l m i)[b] = ((min (fcn x l (b : Int)) m : Nat) : Int) := by rw [List.getElem?_eq_getElem hbl] at hrow; injection hrow
    generalize hq : min (fcn x l (b : Int)) m = q at *
    by_cases c : (S : Int) ≥ (m : Int) - (q : Int)
    ·have d1 : decide ((S : Int) ≥ (m : Int) - (q : Int)) = true := by simpa using c
     ((have hd := trivial; repeat' (first | ((first | apply GdK_st | apply GdK_sf | apply CondK_s) <;> intro hd <;> (try simp only [hd])) | simp (disch := first | assumption | omega | (simp only [nx] <;> omega) | fail) only [hd, hQr, hQn, c24_0, ↓YA, YB, YC, YE, YF, YZ, ↓reduceIte, Nat.reduceEqDiff, Nat.reduceAdd, Nat.reduceMul, Nat.reduceLeDiff, Int.reduceToNat, Int.reduceLE, Int.reduceLT, Int.reduceGT, Int.reduceGE, Int.reduceAdd, Int.reduceSub, Int.reduceNeg, Int.reduceBEq, Int.reduceBNe, g8, hlast, d1, e00, hbb, h0b, hrow2, hbl, gt5, la1, la2, hcl, m1, m2])) <;> (try (have hd_ : True := hd; clear hd_ hd)))
     refine ⟨(), ?_, (hG4.thnq hG5.alloc).put⟩
     exact congrArg (AV.sl _) (hsn _ (by rw [hF]; omega))
    ·have d1 : decide ((S : Int) ≥ (m : Int) - (q : Int)) = false := by simpa using c
     ((have hd := trivial; repeat' (first | ((first | apply GdK_st | apply GdK_sf | apply CondK_s) <;> intro hd <;> (try simp only [hd])) | simp (disch := first | assumption | omega | (simp only [nx] <;> omega) | fail) only [hd, hQr, hQn, c24_0, ↓YA, YB, YC, YE, YF, YZ, ↓reduceIte, Nat.reduceEqDiff, Nat.reduceAdd, Nat.reduceMul, Nat.reduceLeDiff, Int.reduceToNat, Int.reduceLE, Int.reduceLT, Int.reduceGT, Int.reduceGE, Int.reduceAdd, Int.reduceSub, Int.reduceNeg, Int.reduceBEq, Int.reduceBNe, g8, hlast, d1, e00, hbb, h0b, hrow2, hbl])) <;> (try (have hd_ : True := hd; clear hd_ hd)))
     exact ⟨(), by rw [hS1]; omega, by rw [hS1, hst]; exact AV_i (by omega), by exact HXT⟩
   ·rw [hb] at hlast
    have hwg : wgt x l i L[j] = 1 := by unfold wgt; rw [hnod, hb]; rfl
    rw [hwg] at hst
    by_cases c : (S : Int) ≥ (m : Int) - 1
    ·have d1 : decide ((S : Int) ≥ (m : Int) - 1) = true := by simpa using c
     ((have hd := trivial; repeat' (first | ((first | apply GdK_st | apply GdK_sf | apply CondK_s) <;> intro hd <;> (try simp only [hd])) | simp (disch := first | assumption | omega | (simp only [nx] <;> omega) | fail) only [hd, hQr, hQn, c24_0, ↓YA, YB, YC, YE, YF, YZ, ↓reduceIte, Nat.reduceEqDiff, Nat.reduceAdd, Nat.reduceMul, Nat.reduceLeDiff, Int.reduceToNat, Int.reduceLE, Int.reduceLT, Int.reduceGT, Int.reduceGE, Int.reduceAdd, Int.reduceSub, Int.reduceNeg, Int.reduceBEq, Int.reduceBNe, g8, hlast, d1, e00, gt5, la1, la2, hcl, m1, m2])) <;> (try (have hd_ : True := hd; clear hd_ hd)))
     refine ⟨(), ?_, (hG4.thnq hG5.alloc).put⟩
     exact congrArg (AV.sl _) (hsn _ (by rw [hF]; omega))
    ·have d1 : decide ((S : Int) ≥ (m : Int) - 1) = false := by simpa using c
     ((have hd := trivial; repeat' (first | ((first | apply GdK_st | apply GdK_sf | apply CondK_s) <;> intro hd <;> (try simp only [hd])) | simp (disch := first | assumption | omega | (simp only [nx] <;> omega) | fail) only [hd, hQr, hQn, c24_0, ↓YA, YB, YC, YE, YF, YZ, ↓reduceIte, Nat.reduceEqDiff, Nat.reduceAdd, Nat.reduceMul, Nat.reduceLeDiff, Int.reduceToNat, Int.reduceLE, Int.reduceLT, Int.reduceGT, Int.reduceGE, Int.reduceAdd, Int.reduceSub, Int.reduceNeg, Int.reduceBEq, Int.reduceBNe, g8, hlast, d1, e00])) <;> (try (have hd_ : True := hd; clear hd_ hd)))
     exact ⟨(), by rw [hS1]; omega, by rw [hS1, hst]; exact AV_i (by omega), by exact HXT⟩
  ·(rintro s2 G5 ht2 hG5 hn2; try simp only [nx] at hn2)
   have gt5 : G5.get G0.next = _ := (hG5.get _ hlt4).trans hgt4
   have lt5 := AHeap.lt gt5
   rw [List.take_length, ← hF] at ht2 ⊢
   ((have hd := trivial; repeat' (first | ((first | apply GdK_st | apply GdK_sf | apply CondK_s) <;> intro hd <;> (try simp only [hd])) | simp (disch := first | assumption | omega | (simp only [nx] <;> omega) | fail) only [hd, hQr, hQn, c24_0, ↓YA, YB, YC, YE, YF, YZ, ↓reduceIte, Nat.reduceEqDiff, Nat.reduceAdd, Nat.reduceMul, Nat.reduceLeDiff, Int.reduceToNat, Int.reduceLE, Int.reduceLT, Int.reduceGT, Int.reduceGE, Int.reduceAdd, Int.reduceSub, Int.reduceNeg, Int.reduceBEq, Int.reduceBNe, gt5, la1, la2, hcl, m1, m2])) <;> (try (have hd_ : True := hd; clear hd_ hd)))
   refine ⟨(), ?_, (hG4.thnq hG5).put⟩
   exact congrArg (AV.sl _) (hsn _ (by omega))
 ·(rintro s G ht hG hn1; try simp only [nx] at hn1)
  have hcl := cntL_len x l m l.length
  by_cases hl0 : l.length = 0
  ·have hr : resCount x l most = 0 := by unfold resCount; rw [if_neg (by simp [hl0])]
   rw [hr] at hQr hQn
   have d1 : ((l.length : Int) == 0) = true := by simp [hl0]
   ((have hd := trivial; repeat' (first | ((first | apply GdK_st | apply GdK_sf | apply CondK_s) <;> intro hd <;> (try simp only [hd])) | simp (disch := first | assumption | omega | (simp only [nx] <;> omega) | fail) only [hd, hQr, hQn, c24_0, ↓YA, YB, YC, YE, YF, YZ, ↓reduceIte, Nat.reduceEqDiff, Nat.reduceAdd, Nat.reduceMul, Nat.reduceLeDiff, Int.reduceToNat, Int.reduceLE, Int.reduceLT, Int.reduceGT, Int.reduceGE, Int.reduceAdd, Int.reduceSub, Int.reduceNeg, Int.reduceBEq, Int.reduceBNe, List.length_map, hcl, d1])) <;> (try (have hd_ : True := hd; clear hd_ hd)))
   exact fin_pure (hx3.trans (hG.extO (AHeap.Ext.refl G0).alloc (by simp))) rfl
  ·have hr : resCount x l most = ((min (fcn x l ((l.length : Int) - 1)) m : Nat) : Int) := by unfold resCount; rw [if_pos ⟨w1, hl0⟩, hmq]
   rw [hr] at hQr hQn
   have d1 : ((l.length : Int) == 0) = false := by rw [beq_eq_false_iff_ne]; omega
   have h0b : (0 : Int) ≤ (l.length : Int) - 1 := by omega
   have htn : ((l.length : Int) - 1).toNat = l.length - 1 := by omega
   have hbl : l.length - 1 < (cntL x l m l.length).length := by omega
   have hrow2 : (cntL x l m l.length)[l.length - 1] = ((min (fcn x l ((l.length : Int) - 1)) m : Nat) : Int) := by
    simp only [cntL, List.getElem_map, List.getElem_range]
    rw [show ((l.length - 1 : Nat) : Int) = (l.length : Int) - 1 by omega]
   ((have hd := trivial; repeat' (first | ((first | apply GdK_st | apply GdK_sf | apply CondK_s) <;> intro hd <;> (try simp only [hd])) | simp (disch := first | assumption | omega | (simp only [nx] <;> omega) | fail) only [hd, hQr, hQn, c24_0, ↓YA, YB, YC, YE, YF, YZ, ↓reduceIte, Nat.reduceEqDiff, Nat.reduceAdd, Nat.reduceMul, Nat.reduceLeDiff, Int.reduceToNat, Int.reduceLE, Int.reduceLT, Int.reduceGT, Int.reduceGE, Int.reduceAdd, Int.reduceSub, Int.reduceNeg, Int.reduceBEq, Int.reduceBNe, List.length_map, hcl, d1, h0b, htn, hbl, hrow2])) <;> (try (have hd_ : True := hd; clear hd_ hd)))
   exact fin_iA rfl (hx3.trans (hG.extO (AHeap.Ext.refl G0).alloc (by simp)))
end Go.Proofs.Ytaapiigfmdhobaa
