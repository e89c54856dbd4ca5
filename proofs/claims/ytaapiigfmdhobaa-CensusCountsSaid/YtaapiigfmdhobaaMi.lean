/- Texts of the walk, joined: Ta Tb Tc Td Te Tf Ye Ym Av. -/
import Derived.Test.YtaapiigfmdhobaaMh
import Derived.Sort.Walk0
import Derived.Test.YtaapiigfmdhobaaMd
import Derived.Test.YtaapiigfmdhobaaMe
namespace Go.Proofs.Ytaapiigfmdhobaa
set_option linter.unusedSimpArgs false
set_option linter.unusedVariables false
open Go.RowKit
def ArA (H : AHeap) (id : Nat) (x : Shp) (l : List Nod) : Prop := ∃ tok nt most, H.get id = some (.cells (eArN x tok nt l most) 93)
theorem ArA.ext {H H' : AHeap} {id : Nat} {x : Shp} {l : List Nod} (h : ArA H id x l) (hx : AHeap.Ext H H') : ArA H' id x l := by
 obtain ⟨tok, nt, most, h⟩ := h
 exact ⟨tok, nt, most, hx.get _ _ h⟩
theorem ArO.ara {H : AHeap} {id tk : Nat} {x : Shp} {tok : Tok} {l : List Nod} {most : Int} (h : ArO H id tk x tok l most) : ArA H id x l := ⟨_, _, _, h.cell⟩
set_option maxHeartbeats 1000000 in
theorem nodes_sound {H : AHeap} {id : Nat} {x : Shp} {l : List Nod} (ha : ArA H id x l) (hx : 1 ≤ x.sizes.length) (hl : l.length ≤ 1000000) (hn : ∀ n ∈ l, smallN n) : Sound Try.prog 33 [.ptr id 0] H (Pure H (.sl .no (rN l))) := by
 obtain ⟨tok, nt, most, h⟩ := ha
 refine fn_soundQ hE cf33 (Nat.le_of_ble_eq_true rfl) fun Q hQr hQn => ?_
 ((try simp (disch := first | assumption | omega | (simp only [nx_alloc, nx_bump, nx_set] <;> omega) | fail) only [↓YA, YB, YC, YZ, YF, ↓reduceIte, Nat.reduceEqDiff, Nat.reduceAdd, Nat.reduceMul, Nat.reduceLeDiff, hQr, hQn, c33_0]); repeat' ((first | apply GdK_st | apply GdK_sf | apply CondK_s) <;> intro hd <;> (try simp only [hd]) <;> (try simp (disch := first | assumption | omega | (simp only [nx_alloc, nx_bump, nx_set] <;> omega) | fail) only [↓YA, YB, YC, YZ, YF, ↓reduceIte, Nat.reduceEqDiff, Nat.reduceAdd, Nat.reduceMul, Nat.reduceLeDiff, hQr, hQn, hd, c33_0])))
 refine CallK.use (there_yes h hx) ?_
 rintro r H1 ⟨rfl, hx1⟩
 have hc := hx1.get _ _ h
 have hx1n := hx1.next
 unfold eArN eAr at hc
 ((try simp (disch := first | assumption | omega | (simp only [nx_alloc, nx_bump, nx_set] <;> omega) | fail) only [↓YA, YB, YC, YZ, YF, ↓reduceIte, Nat.reduceEqDiff, Nat.reduceAdd, Nat.reduceMul, Nat.reduceLeDiff, hQr, hQn, c33_0, hc, List.length_map]); repeat' ((first | apply GdK_st | apply GdK_sf | apply CondK_s) <;> intro hd <;> (try simp only [hd]) <;> (try simp (disch := first | assumption | omega | (simp only [nx_alloc, nx_bump, nx_set] <;> omega) | fail) only [↓YA, YB, YC, YZ, YF, ↓reduceIte, Nat.reduceEqDiff, Nat.reduceAdd, Nat.reduceMul, Nat.reduceLeDiff, hQr, hQn, hd, c33_0, hc, List.length_map])))
 refine AW_forI (N := l.length) (fun k F G => Fr.get F 14 = .i (k : Int) ∧ Fr.get F 13 = .i (l.length : Int) ∧ Fr.get F 12 = .sl nt (rN l) ∧ Fr.get F 3 = .sl (.own H1.next) (rN (l.take k)) ∧ AHeap.Ext H G ∧ G.get H1.next = some (.tok k 60 14)) (by unfold maxLen; omega) (fun k F G h => ⟨h.1, h.2.1⟩)
  (F1 := [(3, .sl (.own H1.next) []), (14, .i ((0 : Nat) : Int)), (13, .i (l.length : Int)), (12, .sl nt (rN l))]) (H1 := H1.alloc (.tok 0 60 14)) ?_ ?_ ?_ ?_
 ·exact (GStep.fr (F' := [(14, .i ((0 : Nat) : Int)), (13, .i (l.length : Int)), (12, .sl nt (rN l)), (3, .sl .full [])]) (by simp [Fr.get])).trans ((GStep.tok 3 60 14 rfl).trans (GStep.fr (by simp [Fr.get, Fr.put])))
 ·exact ⟨rfl, rfl, rfl, rfl, hx1.alloc, AHeap.get_alloc_self (H := H1)⟩
 ·rintro k F G hk ⟨f14, f13, f12, f3, hxG, hg⟩
  have hr := rN_get hk
  have h0 : (0 : Int) ≤ k := by omega
  have hlk : (rN (l.take k)).length = k := by simp; omega
  have hgl := AHeap.lt hg
  have hgn := hxG.next
  have hs := hn _ (List.getElem_mem hk)
  unfold eNod at hr
  ((try simp (disch := first | assumption | omega | (simp only [nx_alloc, nx_bump, nx_set] <;> omega) | fail) only [↓YA, YB, YC, YZ, YF, ↓reduceIte, Nat.reduceEqDiff, Nat.reduceAdd, Nat.reduceMul, Nat.reduceLeDiff, hQr, hQn, c33_0, f14, f12, f3, hr, h0]); repeat' ((first | apply GdK_st | apply GdK_sf | apply CondK_s) <;> intro hd <;> (try simp only [hd]) <;> (try simp (disch := first | assumption | omega | (simp only [nx_alloc, nx_bump, nx_set] <;> omega) | fail) only [↓YA, YB, YC, YZ, YF, ↓reduceIte, Nat.reduceEqDiff, Nat.reduceAdd, Nat.reduceMul, Nat.reduceLeDiff, hQr, hQn, hd, c33_0, f14, f12, f3, hr, h0])))
  refine CallK.use (nclone_sound .no l[k] _ ⟨hs.1, hs.2.2⟩) ?_
  rintro r H2 ⟨rfl, k2, rfl⟩
  have ha1 := allLen_rN (l.take k)
  have hb1 : k + 1 ≤ maxLen := by unfold maxLen; omega
  have hb2 : (k + 1) * 128 ≤ 140737488355328 := by omega
  have ho1 : allLen 14 [eNod .no l[k]] = true := rfl
  have hsn : rN (l.take k) ++ [eNod .no l[k]] = rN (l.take (k + 1)) := by rw [rN_snoc, List.take_succ_eq_append_getElem hk]
  unfold eNod at ho1
  conv at hsn => lhs; rhs; unfold eNod
  ((try simp (disch := first | assumption | omega | (simp only [nx_alloc, nx_bump, nx_set] <;> omega) | fail) only [↓YA, YB, YC, YZ, YF, ↓reduceIte, Nat.reduceEqDiff, Nat.reduceAdd, Nat.reduceMul, Nat.reduceLeDiff, hQr, hQn, eNod, f14, f13, f12, f3, hg, hlk, ha1, hb1, hb2, ho1]); repeat' ((first | apply GdK_st | apply GdK_sf | apply CondK_s) <;> intro hd <;> (try simp only [hd]) <;> (try simp (disch := first | assumption | omega | (simp only [nx_alloc, nx_bump, nx_set] <;> omega) | fail) only [↓YA, YB, YC, YZ, YF, ↓reduceIte, Nat.reduceEqDiff, Nat.reduceAdd, Nat.reduceMul, Nat.reduceLeDiff, hQr, hQn, hd, eNod, f14, f13, f12, f3, hg, hlk, ha1, hb1, hb2, ho1])))
  rw [hsn]
  refine ⟨rfl, ?_⟩
  (repeat (first | assumption | exact AHeap.Ext.refl _ | refine AHeap.Ext.set ?_ (by first | assumption | omega | (simp only [nx_alloc, nx_bump, nx_set]; omega)) | refine AHeap.Ext.alloc ?_ | refine AHeap.Ext.bump ?_))
 ·rintro F G ⟨f14, f13, f12, f3, hxG, hg⟩
  rw [List.take_length] at f3
  ((try simp (disch := first | assumption | omega | (simp only [nx_alloc, nx_bump, nx_set] <;> omega) | fail) only [↓YA, YB, YC, YZ, YF, ↓reduceIte, Nat.reduceEqDiff, Nat.reduceAdd, Nat.reduceMul, Nat.reduceLeDiff, hQr, hQn, c33_0, f3]); repeat' ((first | apply GdK_st | apply GdK_sf | apply CondK_s) <;> intro hd <;> (try simp only [hd]) <;> (try simp (disch := first | assumption | omega | (simp only [nx_alloc, nx_bump, nx_set] <;> omega) | fail) only [↓YA, YB, YC, YZ, YF, ↓reduceIte, Nat.reduceEqDiff, Nat.reduceAdd, Nat.reduceMul, Nat.reduceLeDiff, hQr, hQn, hd, c33_0, f3])))
  exact fin_pure hxG rfl
theorem each_len {n : Nod} (h : smallN n) : (each n).length ≤ 1000000 := by
 have := h.2.1
 unfold each; rw [List.length_append]; simp only [List.length_cons, List.length_nil]; omega
set_option maxHeartbeats 4000000 in
theorem rmay6_sound (m : Int) (a : Ag) (H : AHeap) : Sound Try.prog 94 [.i m, .agg (eAg a)] H (Pure H (.b (aggMay m a))) := by
  refine fn_soundQ hE cf94 (Nat.le_of_ble_eq_true rfl) fun Q hQr hQn => ?_
  have hx : AHeap.Ext H (H.alloc (.cells (eAg a) 56)) := (AHeap.Ext.refl H).alloc
  unfold eAg at hx ⊢
  ((try simp (disch := first | assumption | omega | (simp only [nx_alloc, nx_bump, nx_set] <;> omega) | fail) only [↓YA, YB, YC, YZ, YF, ↓reduceIte, Nat.reduceEqDiff, Nat.reduceAdd, Nat.reduceMul, Nat.reduceLeDiff, hQr, hQn, c94_0]); repeat' ((first | apply GdK_st | apply GdK_sf | apply CondK_s) <;> intro hd <;> (try simp only [hd]) <;> (try simp (disch := first | assumption | omega | (simp only [nx_alloc, nx_bump, nx_set] <;> omega) | fail) only [↓YA, YB, YC, YZ, YF, ↓reduceIte, Nat.reduceEqDiff, Nat.reduceAdd, Nat.reduceMul, Nat.reduceLeDiff, hQr, hQn, hd, c94_0])))
  any_goals
    refine fin_b hx ?_
    unfold aggMay
    grind
  have h0 : 0 ≤ m := by grind
  have h1 : m ≤ 3 := by grind
  have h2 : 1 ≤ a.n := by grind
  rw [tail0 h0 h1 h2] at hQr hQn
  refine AW_loopI (fun n F G => ∃ k : Nat, k ≤ 3 ∧ n = 3 - k ∧ Fr.get F 5 = .i (k : Int) ∧ Fr.get F 0 = .i m ∧ Fr.get F 3 = .ptr H.next 0 ∧ AHeap.Ext H G ∧ G.get H.next = some (.cells (eAg a) 56) ∧ tailMay 0 m a = tailMay k m a) 3 (GStep.refl _ _) ⟨0, by omega, rfl, rfl, rfl, rfl, hx, AHeap.get_alloc_self (H := H), rfl⟩ ?_
  rintro n F G ⟨k, hk, rfl, f5, f0, f3, hxG, hg, ht⟩
  by_cases hk3 : k = 3
  · subst hk3
    replace f5 : Fr.get F 5 = .i 3 := f5
    have d : decide ((3 : Int) < 3) = false := by decide
    ((try simp (disch := first | assumption | omega | (simp only [nx_alloc, nx_bump, nx_set] <;> omega) | fail) only [↓YA, YB, YC, YZ, YF, ↓reduceIte, Nat.reduceEqDiff, Nat.reduceAdd, Nat.reduceMul, Nat.reduceLeDiff, hQr, hQn, c94_0, f5, d]); repeat' ((first | apply GdK_st | apply GdK_sf | apply CondK_s) <;> intro hd <;> (try simp only [hd]) <;> (try simp (disch := first | assumption | omega | (simp only [nx_alloc, nx_bump, nx_set] <;> omega) | fail) only [↓YA, YB, YC, YZ, YF, ↓reduceIte, Nat.reduceEqDiff, Nat.reduceAdd, Nat.reduceMul, Nat.reduceLeDiff, hQr, hQn, hd, c94_0, f5, d])))
    ((try simp (disch := first | assumption | omega | (simp only [nx_alloc, nx_bump, nx_set] <;> omega) | fail) only [↓YA, YB, YC, YZ, YF, ↓reduceIte, Nat.reduceEqDiff, Nat.reduceAdd, Nat.reduceMul, Nat.reduceLeDiff, hQr, hQn, c94_0]); repeat' ((first | apply GdK_st | apply GdK_sf | apply CondK_s) <;> intro hd <;> (try simp only [hd]) <;> (try simp (disch := first | assumption | omega | (simp only [nx_alloc, nx_bump, nx_set] <;> omega) | fail) only [↓YA, YB, YC, YZ, YF, ↓reduceIte, Nat.reduceEqDiff, Nat.reduceAdd, Nat.reduceMul, Nat.reduceLeDiff, hQr, hQn, hd, c94_0])))
    exact fin_b hxG (by rw [ht]; rfl)
  · have hk' : k < 3 := by omega
    rw [tail_step hk'] at ht
    have hgl := AHeap.lt hg
    have hg0 := hg
    have hxn := hxG.next
    unfold eAg at hg
    obtain rfl | rfl | rfl : k = 0 ∨ k = 1 ∨ k = 2 := by omega
    · replace f5 : Fr.get F 5 = .i 0 := f5
      ((try simp (disch := first | assumption | omega | (simp only [nx_alloc, nx_bump, nx_set] <;> omega) | fail) only [↓YA, YB, YC, YZ, YF, ↓reduceIte, Nat.reduceEqDiff, Nat.reduceAdd, Nat.reduceMul, Nat.reduceLeDiff, hQr, hQn, c94_0, f5, f0, f3, hg, eAg, Int.cast_ofNat_Int, Int.reduceLE, Int.reduceLT, Int.reduceToNat, Nat.reduceMul, Int.reduceAdd, decide_true]); repeat' ((first | apply GdK_st | apply GdK_sf | apply CondK_s) <;> intro hd <;> (try simp only [hd]) <;> (try simp (disch := first | assumption | omega | (simp only [nx_alloc, nx_bump, nx_set] <;> omega) | fail) only [↓YA, YB, YC, YZ, YF, ↓reduceIte, Nat.reduceEqDiff, Nat.reduceAdd, Nat.reduceMul, Nat.reduceLeDiff, hQr, hQn, hd, c94_0, f5, f0, f3, hg, eAg, Int.cast_ofNat_Int, Int.reduceLE, Int.reduceLT, Int.reduceToNat, Nat.reduceMul, Int.reduceAdd, decide_true])))
      all_goals first
        | (refine fin_b ?_ ?_
           · (repeat (first | assumption | exact AHeap.Ext.refl _ | refine AHeap.Ext.set ?_ (by first | assumption | omega | (simp only [nx_alloc, nx_bump, nx_set]; omega)) | refine AHeap.Ext.alloc ?_ | refine AHeap.Ext.bump ?_))
           · rw [ht]; simp only [prtMay, Ag.prt]; grind)
        | (refine ⟨2, by omega, 1, by omega, rfl, rfl, ?_, ?_⟩
           · (repeat (first | assumption | exact AHeap.Ext.refl _ | refine AHeap.Ext.set ?_ (by first | assumption | omega | (simp only [nx_alloc, nx_bump, nx_set]; omega)) | refine AHeap.Ext.alloc ?_ | refine AHeap.Ext.bump ?_))
           · rw [ht]; simp only [prtMay, Ag.prt]; grind)
    · replace f5 : Fr.get F 5 = .i 1 := f5
      ((try simp (disch := first | assumption | omega | (simp only [nx_alloc, nx_bump, nx_set] <;> omega) | fail) only [↓YA, YB, YC, YZ, YF, ↓reduceIte, Nat.reduceEqDiff, Nat.reduceAdd, Nat.reduceMul, Nat.reduceLeDiff, hQr, hQn, c94_0, f5, f0, f3, hg, eAg, Int.cast_ofNat_Int, Int.reduceLE, Int.reduceLT, Int.reduceToNat, Nat.reduceMul, Int.reduceAdd, decide_true]); repeat' ((first | apply GdK_st | apply GdK_sf | apply CondK_s) <;> intro hd <;> (try simp only [hd]) <;> (try simp (disch := first | assumption | omega | (simp only [nx_alloc, nx_bump, nx_set] <;> omega) | fail) only [↓YA, YB, YC, YZ, YF, ↓reduceIte, Nat.reduceEqDiff, Nat.reduceAdd, Nat.reduceMul, Nat.reduceLeDiff, hQr, hQn, hd, c94_0, f5, f0, f3, hg, eAg, Int.cast_ofNat_Int, Int.reduceLE, Int.reduceLT, Int.reduceToNat, Nat.reduceMul, Int.reduceAdd, decide_true])))
      all_goals first
        | (refine fin_b ?_ ?_
           · (repeat (first | assumption | exact AHeap.Ext.refl _ | refine AHeap.Ext.set ?_ (by first | assumption | omega | (simp only [nx_alloc, nx_bump, nx_set]; omega)) | refine AHeap.Ext.alloc ?_ | refine AHeap.Ext.bump ?_))
           · rw [ht]; simp only [prtMay, Ag.prt]; grind)
        | (refine ⟨1, by omega, 2, by omega, rfl, rfl, ?_, ?_⟩
           · (repeat (first | assumption | exact AHeap.Ext.refl _ | refine AHeap.Ext.set ?_ (by first | assumption | omega | (simp only [nx_alloc, nx_bump, nx_set]; omega)) | refine AHeap.Ext.alloc ?_ | refine AHeap.Ext.bump ?_))
           · rw [ht]; simp only [prtMay, Ag.prt]; grind)
    · replace f5 : Fr.get F 5 = .i 2 := f5
      ((try simp (disch := first | assumption | omega | (simp only [nx_alloc, nx_bump, nx_set] <;> omega) | fail) only [↓YA, YB, YC, YZ, YF, ↓reduceIte, Nat.reduceEqDiff, Nat.reduceAdd, Nat.reduceMul, Nat.reduceLeDiff, hQr, hQn, c94_0, f5, f0, f3, hg, eAg, Int.cast_ofNat_Int, Int.reduceLE, Int.reduceLT, Int.reduceToNat, Nat.reduceMul, Int.reduceAdd, decide_true]); repeat' ((first | apply GdK_st | apply GdK_sf | apply CondK_s) <;> intro hd <;> (try simp only [hd]) <;> (try simp (disch := first | assumption | omega | (simp only [nx_alloc, nx_bump, nx_set] <;> omega) | fail) only [↓YA, YB, YC, YZ, YF, ↓reduceIte, Nat.reduceEqDiff, Nat.reduceAdd, Nat.reduceMul, Nat.reduceLeDiff, hQr, hQn, hd, c94_0, f5, f0, f3, hg, eAg, Int.cast_ofNat_Int, Int.reduceLE, Int.reduceLT, Int.reduceToNat, Nat.reduceMul, Int.reduceAdd, decide_true])))
      all_goals first
        | (refine fin_b ?_ ?_
           · (repeat (first | assumption | exact AHeap.Ext.refl _ | refine AHeap.Ext.set ?_ (by first | assumption | omega | (simp only [nx_alloc, nx_bump, nx_set]; omega)) | refine AHeap.Ext.alloc ?_ | refine AHeap.Ext.bump ?_))
           · rw [ht]; simp only [prtMay, Ag.prt]; grind)
        | (refine ⟨0, by omega, 3, by omega, rfl, rfl, ?_, ?_⟩
           · (repeat (first | assumption | exact AHeap.Ext.refl _ | refine AHeap.Ext.set ?_ (by first | assumption | omega | (simp only [nx_alloc, nx_bump, nx_set]; omega)) | refine AHeap.Ext.alloc ?_ | refine AHeap.Ext.bump ?_))
           · rw [ht]; simp only [prtMay, Ag.prt]; grind)
theorem rcell_sound (tok : Tok) (x : Shp) (dim : Int) (c : Cel) (H : AHeap) (hl : x.sizes.length ≤ 1000000) : Sound Try.prog 85 [.agg [.sl tok (rII x.sizes), .i x.measures], .i dim, .agg (eCel c)] H (Pure H (.b (cellOk x dim c))) := by
 refine fn_soundQ hE cf85 (Nat.le_of_ble_eq_true rfl) fun Q hQr hQn => ?_
 have hlb : lastB x dim = (dim == (x.sizes.length : Int) - 1) := rfl
 cases hb : (dim == (x.sizes.length : Int) - 1) with
 | true =>
  rw [hb] at hlb
  ((try simp (disch := first | assumption | omega | (simp only [nx_alloc, nx_bump, nx_set] <;> omega) | fail) only [↓YA, YB, YC, YZ, YF, ↓reduceIte, Nat.reduceEqDiff, Nat.reduceAdd, Nat.reduceMul, Nat.reduceLeDiff, hQr, hQn, c85_0, eCel, List.length_map, hb]); repeat' ((first | apply GdK_st | apply GdK_sf | apply CondK_s) <;> intro hd <;> (try simp only [hd]) <;> (try simp (disch := first | assumption | omega | (simp only [nx_alloc, nx_bump, nx_set] <;> omega) | fail) only [↓YA, YB, YC, YZ, YF, ↓reduceIte, Nat.reduceEqDiff, Nat.reduceAdd, Nat.reduceMul, Nat.reduceLeDiff, hQr, hQn, hd, c85_0, eCel, List.length_map, hb])))
  ·refine CallK.use (rmay6_sound x.measures c.agg _) ?_
   rintro r H' ⟨rfl, k2, rfl⟩
   ((try simp (disch := first | assumption | omega | (simp only [nx_alloc, nx_bump, nx_set] <;> omega) | fail) only [↓YA, YB, YC, YZ, YF, ↓reduceIte, Nat.reduceEqDiff, Nat.reduceAdd, Nat.reduceMul, Nat.reduceLeDiff, hQr, hQn]); repeat' ((first | apply GdK_st | apply GdK_sf | apply CondK_s) <;> intro hd <;> (try simp only [hd]) <;> (try simp (disch := first | assumption | omega | (simp only [nx_alloc, nx_bump, nx_set] <;> omega) | fail) only [↓YA, YB, YC, YZ, YF, ↓reduceIte, Nat.reduceEqDiff, Nat.reduceAdd, Nat.reduceMul, Nat.reduceLeDiff, hQr, hQn, hd])))
   refine fin_b ?_ ?_
   ·(repeat (first | assumption | exact AHeap.Ext.refl _ | refine AHeap.Ext.set ?_ (by first | assumption | omega | (simp only [nx_alloc, nx_bump, nx_set]; omega)) | refine AHeap.Ext.alloc ?_ | refine AHeap.Ext.bump ?_))
   ·unfold cellOk; rw [hlb]; grind
  ·refine fin_b ?_ ?_
   ·(repeat (first | assumption | exact AHeap.Ext.refl _ | refine AHeap.Ext.set ?_ (by first | assumption | omega | (simp only [nx_alloc, nx_bump, nx_set]; omega)) | refine AHeap.Ext.alloc ?_ | refine AHeap.Ext.bump ?_))
   ·unfold cellOk; rw [hlb]; grind
 | false =>
  rw [hb] at hlb
  ((try simp (disch := first | assumption | omega | (simp only [nx_alloc, nx_bump, nx_set] <;> omega) | fail) only [↓YA, YB, YC, YZ, YF, ↓reduceIte, Nat.reduceEqDiff, Nat.reduceAdd, Nat.reduceMul, Nat.reduceLeDiff, hQr, hQn, c85_0, eCel, List.length_map, hb, scs, SK.is, vsEq, vEq_int, ag0_iff]); repeat' ((first | apply GdK_st | apply GdK_sf | apply CondK_s) <;> intro hd <;> (try simp only [hd]) <;> (try simp (disch := first | assumption | omega | (simp only [nx_alloc, nx_bump, nx_set] <;> omega) | fail) only [↓YA, YB, YC, YZ, YF, ↓reduceIte, Nat.reduceEqDiff, Nat.reduceAdd, Nat.reduceMul, Nat.reduceLeDiff, hQr, hQn, hd, c85_0, eCel, List.length_map, hb, scs, SK.is, vsEq, vEq_int, ag0_iff])))
  all_goals
   refine fin_b ?_ ?_
   ·(repeat (first | assumption | exact AHeap.Ext.refl _ | refine AHeap.Ext.set ?_ (by first | assumption | omega | (simp only [nx_alloc, nx_bump, nx_set]; omega)) | refine AHeap.Ext.alloc ?_ | refine AHeap.Ext.bump ?_))
   ·unfold cellOk; rw [hlb]; grind
set_option maxHeartbeats 8000000 in
theorem wrong_sound (tok t : Tok) (x : Shp) (n : Nod) (H : AHeap) (hl : x.sizes.length ≤ 1000000) (hx : ∀ s ∈ x.sizes, s.length ≤ 1000000) (hn : smallL n.lists) : Sound Try.prog 64 [.agg [.sl tok (rII x.sizes), .i x.measures], .agg (eNod t n)] H (Pure H (.i (checkErr x n))) := by
 refine fn_soundQ hE cf64 (Nat.le_of_ble_eq_true rfl) fun Q hQr hQn => ?_
 obtain ⟨dim, lists, all⟩ := n
 obtain ⟨hn1, hn2⟩ := hn
 simp only at hn1 hn2
 by_cases hdm : 0 ≤ dim ∧ dim < x.sizes.length
 ·obtain ⟨d, rfl⟩ : ∃ d : Nat, dim = d := ⟨dim.toNat, by omega⟩
  have hd' : d < x.sizes.length := by omega
  have d1 : decide ((d : Int) < 0) = false := by simp
  have d2 : decide ((d : Int) ≥ (x.sizes.length : Int)) = false := by simp; omega
  have h0 : (0 : Int) ≤ d := by omega
  have hs := rII_get hd'
  have hss := hx _ (List.getElem_mem hd')
  have hT : checkErr x ⟨d, lists, all⟩ = if lists.length ≠ x.sizes[d].length ∨ lists.length = 0 then 2 else if listsErr x d none x.sizes[d] lists ≠ 0 then listsErr x d none x.sizes[d] lists else if all.key ≠ 0 ∨ cellOk x d all = false then 2 else 0 := by
   unfold checkErr
   rw [if_neg (by simp; omega)]
   simp only [Int.toNat_natCast, List.getD_eq_getElem?_getD, List.getElem?_eq_getElem hd', Option.getD_some]
  generalize checkErr x ⟨d, lists, all⟩ = T at *
  ((try simp (disch := first | assumption | omega | (simp only [nx_alloc, nx_bump, nx_set] <;> omega) | fail) only [↓YA, YB, YC, YZ, YF, ↓reduceIte, Nat.reduceEqDiff, Nat.reduceAdd, Nat.reduceMul, Nat.reduceLeDiff, hQr, hQn, c64_0, eNod, d1, d2, h0, hs, List.length_map]); repeat' ((first | apply GdK_st | apply GdK_sf | apply CondK_s) <;> intro hd <;> (try simp only [hd]) <;> (try simp (disch := first | assumption | omega | (simp only [nx_alloc, nx_bump, nx_set] <;> omega) | fail) only [↓YA, YB, YC, YZ, YF, ↓reduceIte, Nat.reduceEqDiff, Nat.reduceAdd, Nat.reduceMul, Nat.reduceLeDiff, hQr, hQn, hd, c64_0, eNod, d1, d2, h0, hs, List.length_map])))
  any_goals
   refine fin_i ?_ ?_
   ·(repeat (first | assumption | exact AHeap.Ext.refl _ | refine AHeap.Ext.set ?_ (by first | assumption | omega | (simp only [nx_alloc, nx_bump, nx_set]; omega)) | refine AHeap.Ext.alloc ?_ | refine AHeap.Ext.bump ?_))
   ·grind
  have e1 : lists.length = x.sizes[d].length := by grind
  have e2 : lists.length ≠ 0 := by grind
  rw [if_neg (by omega)] at hT
  generalize hS : listsErr x d none x.sizes[d] lists = S at *
  refine AW_forI (N := lists.length) (fun k F G => Fr.get F 45 = .i (k : Int) ∧ Fr.get F 44 = .i (lists.length : Int) ∧ Fr.get F 2 = .ptr H.next 0 ∧ Fr.get F 3 = .ptr (H.next + 1) 0 ∧ AHeap.Ext H G ∧ G.get H.next = some (.cells [.sl tok (rII x.sizes), .i x.measures] 44) ∧ G.get (H.next + 1) = some (.cells (eNod t ⟨d, lists, all⟩) 60) ∧ S = listsErr x d (lenAhead lists k) (x.sizes[d].drop k) (lists.drop k)) (by unfold maxLen; omega) (fun k F G h => ⟨h.1, h.2.1⟩) (GStep.refl _ _) ?_ ?_ ?_
  ·refine ⟨rfl, rfl, rfl, rfl, (AHeap.Ext.refl H).alloc.alloc, ?_, AHeap.get_alloc_self (H := H.alloc _), hS.symm⟩
   rw [AHeap.get_alloc_ne (by simp)]
   exact AHeap.get_alloc_self
  ·rintro k F G hk ⟨f45, f44, f2, f3, hxG, hg, hg2, ht⟩
   have hks : k < x.sizes[d].length := by omega
   rw [listsErr_step x d x.sizes[d] lists k hk hks] at ht
   have hgl := AHeap.lt hg2
   have hxn := hxG.next
   have hr := rL_get hk
   have hrs := rI_get hks
   have h0k : (0 : Int) ≤ k := by omega
   have hlk := hn2 _ (List.getElem_mem hk)
   have hE0 : listErr0 x d x.sizes[d][k] lists[k] = if lists[k].length = 0 then 2 else listErr x d x.sizes[d][k] (keyAhead lists[k] 0) (lists[k].drop 0) := rfl
   have hg2' := hg2
   unfold eNod at hg2
   ((try simp (disch := first | assumption | omega | (simp only [nx_alloc, nx_bump, nx_set] <;> omega) | fail) only [↓YA, YB, YC, YZ, YF, ↓reduceIte, Nat.reduceEqDiff, Nat.reduceAdd, Nat.reduceMul, Nat.reduceLeDiff, hQr, hQn, c64_0, f45, f2, f3, hg, hg2, hr, h0k, List.length_map]); repeat' ((first | apply GdK_st | apply GdK_sf | apply CondK_s) <;> intro hd <;> (try simp only [hd]) <;> (try simp (disch := first | assumption | omega | (simp only [nx_alloc, nx_bump, nx_set] <;> omega) | fail) only [↓YA, YB, YC, YZ, YF, ↓reduceIte, Nat.reduceEqDiff, Nat.reduceAdd, Nat.reduceMul, Nat.reduceLeDiff, hQr, hQn, hd, c64_0, f45, f2, f3, hg, hg2, hr, h0k, List.length_map])))
   ·refine fin_i ?_ ?_
    ·(repeat (first | assumption | exact AHeap.Ext.refl _ | refine AHeap.Ext.set ?_ (by first | assumption | omega | (simp only [nx_alloc, nx_bump, nx_set]; omega)) | refine AHeap.Ext.alloc ?_ | refine AHeap.Ext.bump ?_))
    ·grind
   have hne : lists[k].length ≠ 0 := by grind
   rw [if_neg hne] at hE0
   generalize hEE : listErr0 x d x.sizes[d][k] lists[k] = E at *
   refine AW_forI (N := lists[k].length) (fun j F G => Fr.get F 58 = .i (j : Int) ∧ Fr.get F 57 = .i (lists[k].length : Int) ∧ Fr.get F 6 = .sl .no (rC lists[k]) ∧ Fr.get F 5 = .i (k : Int) ∧ Fr.get F 45 = .i (k : Int) ∧ Fr.get F 44 = .i (lists.length : Int) ∧ Fr.get F 2 = .ptr H.next 0 ∧ Fr.get F 3 = .ptr (H.next + 1) 0 ∧ AHeap.Ext H G ∧ G.get H.next = some (.cells [.sl tok (rII x.sizes), .i x.measures] 44) ∧ G.get (H.next + 1) = some (.cells (eNod t ⟨d, lists, all⟩) 60) ∧ E = listErr x d x.sizes[d][k] (keyAhead lists[k] j) (lists[k].drop j)) (by unfold maxLen; omega) (fun k F G h => ⟨h.1, h.2.1⟩) (GStep.refl _ _) ?_ ?_ ?_
   ·exact ⟨rfl, rfl, rfl, rfl, f45, f44, f2, f3, hxG, hg, hg2', hE0⟩
   ·rintro j F G hj ⟨f58, f57, f6, f5, f45, f44, f2, f3, hxG, hg, hg2, htj⟩
    rw [listErr_step x d x.sizes[d][k] lists[k] j hj] at htj
    have hxn := hxG.next
    have hrj := rC_get hj
    have h0j : (0 : Int) ≤ j := by omega
    have hg2' := hg2
    unfold eNod at hg2
    have fin : ∀ (b : Bool), cellOk x d lists[k][j] = b → overK (keyAhead lists[k] j) lists[k][j].key = false → decide (lists[k][j].key < 0) = false → decide (lists[k][j].key ≥ x.sizes[d][k]) = false → E = if b = false then 2 else listErr x d x.sizes[d][k] (keyAhead lists[k] (j + 1)) (lists[k].drop (j + 1)) := by
     intro b hb g1 g2 g3
     simp only [decide_eq_false_iff_not, ge_iff_le] at g2 g3
     rw [htj, hb, g1]
     simp [g2, g3]
    by_cases hj0 : j = 0
    ·have d0 : decide ((j : Int) > 0) = false := by simp; omega
     have ho : overK (keyAhead lists[k] j) lists[k][j].key = false := by subst hj0; rfl
     rw [ho] at htj
     have hrj0 := hrj
     unfold eCel at hrj
     ((try simp (disch := first | assumption | omega | (simp only [nx_alloc, nx_bump, nx_set] <;> omega) | fail) only [↓YA, YB, YC, YZ, YF, ↓reduceIte, Nat.reduceEqDiff, Nat.reduceAdd, Nat.reduceMul, Nat.reduceLeDiff, hQr, hQn, c64_0, f58, f6, f5, f2, f3, hg, hg2, hrj, hs, hrs, h0, h0k, h0j, d0]); repeat' ((first | apply GdK_st | apply GdK_sf | apply CondK_s) <;> intro hd <;> (try simp only [hd]) <;> (try simp (disch := first | assumption | omega | (simp only [nx_alloc, nx_bump, nx_set] <;> omega) | fail) only [↓YA, YB, YC, YZ, YF, ↓reduceIte, Nat.reduceEqDiff, Nat.reduceAdd, Nat.reduceMul, Nat.reduceLeDiff, hQr, hQn, hd, c64_0, f58, f6, f5, f2, f3, hg, hg2, hrj, hs, hrs, h0, h0k, h0j, d0])))
     any_goals
      refine fin_i ?_ ?_
      ·(repeat (first | assumption | exact AHeap.Ext.refl _ | refine AHeap.Ext.set ?_ (by first | assumption | omega | (simp only [nx_alloc, nx_bump, nx_set]; omega)) | refine AHeap.Ext.alloc ?_ | refine AHeap.Ext.bump ?_))
      ·grind
     refine CallK.use (rcell_sound tok x d lists[k][j] _ hl) ?_
     rintro r H' ⟨rfl, k2, rfl⟩
     cases hb : cellOk x d lists[k][j] with
     | true =>
      ((try simp (disch := first | assumption | omega | (simp only [nx_alloc, nx_bump, nx_set] <;> omega) | fail) only [↓YA, YB, YC, YZ, YF, ↓reduceIte, Nat.reduceEqDiff, Nat.reduceAdd, Nat.reduceMul, Nat.reduceLeDiff, hQr, hQn, c64_0, hb, f58, f57, f6, f5, f45, f44, f2, f3, hg, hg2']); repeat' ((first | apply GdK_st | apply GdK_sf | apply CondK_s) <;> intro hd <;> (try simp only [hd]) <;> (try simp (disch := first | assumption | omega | (simp only [nx_alloc, nx_bump, nx_set] <;> omega) | fail) only [↓YA, YB, YC, YZ, YF, ↓reduceIte, Nat.reduceEqDiff, Nat.reduceAdd, Nat.reduceMul, Nat.reduceLeDiff, hQr, hQn, hd, c64_0, hb, f58, f57, f6, f5, f45, f44, f2, f3, hg, hg2'])))
      refine ⟨?_, ?_⟩
      ·(repeat (first | assumption | exact AHeap.Ext.refl _ | refine AHeap.Ext.set ?_ (by first | assumption | omega | (simp only [nx_alloc, nx_bump, nx_set]; omega)) | refine AHeap.Ext.alloc ?_ | refine AHeap.Ext.bump ?_))
      ·grind
     | false =>
      ((try simp (disch := first | assumption | omega | (simp only [nx_alloc, nx_bump, nx_set] <;> omega) | fail) only [↓YA, YB, YC, YZ, YF, ↓reduceIte, Nat.reduceEqDiff, Nat.reduceAdd, Nat.reduceMul, Nat.reduceLeDiff, hQr, hQn, c64_0, hb]); repeat' ((first | apply GdK_st | apply GdK_sf | apply CondK_s) <;> intro hd <;> (try simp only [hd]) <;> (try simp (disch := first | assumption | omega | (simp only [nx_alloc, nx_bump, nx_set] <;> omega) | fail) only [↓YA, YB, YC, YZ, YF, ↓reduceIte, Nat.reduceEqDiff, Nat.reduceAdd, Nat.reduceMul, Nat.reduceLeDiff, hQr, hQn, hd, c64_0, hb])))
      refine fin_i ?_ ?_
      ·(repeat (first | assumption | exact AHeap.Ext.refl _ | refine AHeap.Ext.set ?_ (by first | assumption | omega | (simp only [nx_alloc, nx_bump, nx_set]; omega)) | refine AHeap.Ext.alloc ?_ | refine AHeap.Ext.bump ?_))
      ·grind
    ·have d0 : decide ((j : Int) > 0) = true := by simp; omega
     have hj1 : j - 1 < lists[k].length := by omega
     have ho : overK (keyAhead lists[k] j) lists[k][j].key = decide (lists[k][j].key ≤ lists[k][j - 1].key) := by
      unfold keyAhead
      rw [if_neg hj0, List.getElem?_eq_getElem hj1]
      rfl
     rw [ho] at htj
     have hrj1 := rC_get hj1
     have h0i : (0 : Int) ≤ (j : Int) - 1 := by omega
     have hti : ((j : Int) - 1).toNat = j - 1 := by omega
     have hrj0 := hrj
     unfold eCel at hrj hrj1
     ((try simp (disch := first | assumption | omega | (simp only [nx_alloc, nx_bump, nx_set] <;> omega) | fail) only [↓YA, YB, YC, YZ, YF, ↓reduceIte, Nat.reduceEqDiff, Nat.reduceAdd, Nat.reduceMul, Nat.reduceLeDiff, hQr, hQn, c64_0, f58, f6, f5, f2, f3, hg, hg2, hrj, hrj1, hs, hrs, h0, h0k, h0j, d0, h0i, hti]); repeat' ((first | apply GdK_st | apply GdK_sf | apply CondK_s) <;> intro hd <;> (try simp only [hd]) <;> (try simp (disch := first | assumption | omega | (simp only [nx_alloc, nx_bump, nx_set] <;> omega) | fail) only [↓YA, YB, YC, YZ, YF, ↓reduceIte, Nat.reduceEqDiff, Nat.reduceAdd, Nat.reduceMul, Nat.reduceLeDiff, hQr, hQn, hd, c64_0, f58, f6, f5, f2, f3, hg, hg2, hrj, hrj1, hs, hrs, h0, h0k, h0j, d0, h0i, hti])))
     any_goals
      refine fin_i ?_ ?_
      ·(repeat (first | assumption | exact AHeap.Ext.refl _ | refine AHeap.Ext.set ?_ (by first | assumption | omega | (simp only [nx_alloc, nx_bump, nx_set]; omega)) | refine AHeap.Ext.alloc ?_ | refine AHeap.Ext.bump ?_))
      ·grind
     refine CallK.use (rcell_sound tok x d lists[k][j] _ hl) ?_
     rintro r H' ⟨rfl, k2, rfl⟩
     cases hb : cellOk x d lists[k][j] with
     | true =>
      ((try simp (disch := first | assumption | omega | (simp only [nx_alloc, nx_bump, nx_set] <;> omega) | fail) only [↓YA, YB, YC, YZ, YF, ↓reduceIte, Nat.reduceEqDiff, Nat.reduceAdd, Nat.reduceMul, Nat.reduceLeDiff, hQr, hQn, c64_0, hb, f58, f57, f6, f5, f45, f44, f2, f3, hg, hg2']); repeat' ((first | apply GdK_st | apply GdK_sf | apply CondK_s) <;> intro hd <;> (try simp only [hd]) <;> (try simp (disch := first | assumption | omega | (simp only [nx_alloc, nx_bump, nx_set] <;> omega) | fail) only [↓YA, YB, YC, YZ, YF, ↓reduceIte, Nat.reduceEqDiff, Nat.reduceAdd, Nat.reduceMul, Nat.reduceLeDiff, hQr, hQn, hd, c64_0, hb, f58, f57, f6, f5, f45, f44, f2, f3, hg, hg2'])))
      refine ⟨?_, ?_⟩
      ·(repeat (first | assumption | exact AHeap.Ext.refl _ | refine AHeap.Ext.set ?_ (by first | assumption | omega | (simp only [nx_alloc, nx_bump, nx_set]; omega)) | refine AHeap.Ext.alloc ?_ | refine AHeap.Ext.bump ?_))
      ·grind
     | false =>
      ((try simp (disch := first | assumption | omega | (simp only [nx_alloc, nx_bump, nx_set] <;> omega) | fail) only [↓YA, YB, YC, YZ, YF, ↓reduceIte, Nat.reduceEqDiff, Nat.reduceAdd, Nat.reduceMul, Nat.reduceLeDiff, hQr, hQn, c64_0, hb]); repeat' ((first | apply GdK_st | apply GdK_sf | apply CondK_s) <;> intro hd <;> (try simp only [hd]) <;> (try simp (disch := first | assumption | omega | (simp only [nx_alloc, nx_bump, nx_set] <;> omega) | fail) only [↓YA, YB, YC, YZ, YF, ↓reduceIte, Nat.reduceEqDiff, Nat.reduceAdd, Nat.reduceMul, Nat.reduceLeDiff, hQr, hQn, hd, c64_0, hb])))
      refine fin_i ?_ ?_
      ·(repeat (first | assumption | exact AHeap.Ext.refl _ | refine AHeap.Ext.set ?_ (by first | assumption | omega | (simp only [nx_alloc, nx_bump, nx_set]; omega)) | refine AHeap.Ext.alloc ?_ | refine AHeap.Ext.bump ?_))
      ·grind
   ·rintro F G ⟨f58, f57, f6, f5, f45, f44, f2, f3, hxG, hg, hg2, htj⟩
    have hE1 : E = 0 := by
     rw [htj, List.drop_length]
     cases keyAhead lists[k] lists[k].length <;> rfl
    have hg2' := hg2
    unfold eNod at hg2
    by_cases hk0 : k = 0
    ·have d0 : decide ((k : Int) > 0) = false := by simp; omega
     have ho : overN (lenAhead lists k) lists[k].length = false := by subst hk0; rfl
     rw [ho] at ht
     ((try simp (disch := first | assumption | omega | (simp only [nx_alloc, nx_bump, nx_set] <;> omega) | fail) only [↓YA, YB, YC, YZ, YF, ↓reduceIte, Nat.reduceEqDiff, Nat.reduceAdd, Nat.reduceMul, Nat.reduceLeDiff, hQr, hQn, c64_0, f45, f44, f2, f3, f5, f6, hg, hg2', d0, h0k]); repeat' ((first | apply GdK_st | apply GdK_sf | apply CondK_s) <;> intro hd <;> (try simp only [hd]) <;> (try simp (disch := first | assumption | omega | (simp only [nx_alloc, nx_bump, nx_set] <;> omega) | fail) only [↓YA, YB, YC, YZ, YF, ↓reduceIte, Nat.reduceEqDiff, Nat.reduceAdd, Nat.reduceMul, Nat.reduceLeDiff, hQr, hQn, hd, c64_0, f45, f44, f2, f3, f5, f6, hg, hg2', d0, h0k])))
     refine ⟨?_, ?_⟩
     ·(repeat (first | assumption | exact AHeap.Ext.refl _ | refine AHeap.Ext.set ?_ (by first | assumption | omega | (simp only [nx_alloc, nx_bump, nx_set]; omega)) | refine AHeap.Ext.alloc ?_ | refine AHeap.Ext.bump ?_))
     ·grind
    ·have d0 : decide ((k : Int) > 0) = true := by simp; omega
     have hk1 : k - 1 < lists.length := by omega
     have ho : overN (lenAhead lists k) lists[k].length = decide (lists[k - 1].length < lists[k].length) := by
      unfold lenAhead
      rw [if_neg hk0, List.getElem?_eq_getElem hk1]
      rfl
     rw [ho] at ht
     have hr1 := rL_get hk1
     have h0i : (0 : Int) ≤ (k : Int) - 1 := by omega
     have hti : ((k : Int) - 1).toNat = k - 1 := by omega
     ((try simp (disch := first | assumption | omega | (simp only [nx_alloc, nx_bump, nx_set] <;> omega) | fail) only [↓YA, YB, YC, YZ, YF, ↓reduceIte, Nat.reduceEqDiff, Nat.reduceAdd, Nat.reduceMul, Nat.reduceLeDiff, hQr, hQn, c64_0, eNod, f45, f44, f2, f3, f5, f6, hg, hg2, d0, h0k, h0i, hti, hr1, List.length_map]); repeat' ((first | apply GdK_st | apply GdK_sf | apply CondK_s) <;> intro hd <;> (try simp only [hd]) <;> (try simp (disch := first | assumption | omega | (simp only [nx_alloc, nx_bump, nx_set] <;> omega) | fail) only [↓YA, YB, YC, YZ, YF, ↓reduceIte, Nat.reduceEqDiff, Nat.reduceAdd, Nat.reduceMul, Nat.reduceLeDiff, hQr, hQn, hd, c64_0, eNod, f45, f44, f2, f3, f5, f6, hg, hg2, d0, h0k, h0i, hti, hr1, List.length_map])))
     any_goals
      refine fin_i ?_ ?_
      ·(repeat (first | assumption | exact AHeap.Ext.refl _ | refine AHeap.Ext.set ?_ (by first | assumption | omega | (simp only [nx_alloc, nx_bump, nx_set]; omega)) | refine AHeap.Ext.alloc ?_ | refine AHeap.Ext.bump ?_))
      ·grind
     refine ⟨?_, ?_⟩
     ·(repeat (first | assumption | exact AHeap.Ext.refl _ | refine AHeap.Ext.set ?_ (by first | assumption | omega | (simp only [nx_alloc, nx_bump, nx_set]; omega)) | refine AHeap.Ext.alloc ?_ | refine AHeap.Ext.bump ?_))
     ·grind
  ·rintro F G ⟨f45, f44, f2, f3, hxG, hg, hg2, ht⟩
   have hS0 : S = 0 := by rw [ht, List.drop_length, listsErr_end]
   rw [hS0] at hT
   have hgl := AHeap.lt hg2
   have hxn := hxG.next
   unfold eNod at hg2
   ((try simp (disch := first | assumption | omega | (simp only [nx_alloc, nx_bump, nx_set] <;> omega) | fail) only [↓YA, YB, YC, YZ, YF, ↓reduceIte, Nat.reduceEqDiff, Nat.reduceAdd, Nat.reduceMul, Nat.reduceLeDiff, hQr, hQn, c64_0, f2, f3, hg, hg2]); repeat' ((first | apply GdK_st | apply GdK_sf | apply CondK_s) <;> intro hd <;> (try simp only [hd]) <;> (try simp (disch := first | assumption | omega | (simp only [nx_alloc, nx_bump, nx_set] <;> omega) | fail) only [↓YA, YB, YC, YZ, YF, ↓reduceIte, Nat.reduceEqDiff, Nat.reduceAdd, Nat.reduceMul, Nat.reduceLeDiff, hQr, hQn, hd, c64_0, f2, f3, hg, hg2])))
   any_goals
    refine fin_i ?_ ?_
    ·(repeat (first | assumption | exact AHeap.Ext.refl _ | refine AHeap.Ext.set ?_ (by first | assumption | omega | (simp only [nx_alloc, nx_bump, nx_set]; omega)) | refine AHeap.Ext.alloc ?_ | refine AHeap.Ext.bump ?_))
    ·grind
   refine CallK.use (rcell_sound tok x d all _ hl) ?_
   rintro r H' ⟨rfl, k2, rfl⟩
   cases hb : cellOk x d all with
   | true =>
    ((try simp (disch := first | assumption | omega | (simp only [nx_alloc, nx_bump, nx_set] <;> omega) | fail) only [↓YA, YB, YC, YZ, YF, ↓reduceIte, Nat.reduceEqDiff, Nat.reduceAdd, Nat.reduceMul, Nat.reduceLeDiff, hQr, hQn, c64_0, hb]); repeat' ((first | apply GdK_st | apply GdK_sf | apply CondK_s) <;> intro hd <;> (try simp only [hd]) <;> (try simp (disch := first | assumption | omega | (simp only [nx_alloc, nx_bump, nx_set] <;> omega) | fail) only [↓YA, YB, YC, YZ, YF, ↓reduceIte, Nat.reduceEqDiff, Nat.reduceAdd, Nat.reduceMul, Nat.reduceLeDiff, hQr, hQn, hd, c64_0, hb])))
    refine fin_i ?_ ?_
    ·(repeat (first | assumption | exact AHeap.Ext.refl _ | refine AHeap.Ext.set ?_ (by first | assumption | omega | (simp only [nx_alloc, nx_bump, nx_set]; omega)) | refine AHeap.Ext.alloc ?_ | refine AHeap.Ext.bump ?_))
    ·grind
   | false =>
    ((try simp (disch := first | assumption | omega | (simp only [nx_alloc, nx_bump, nx_set] <;> omega) | fail) only [↓YA, YB, YC, YZ, YF, ↓reduceIte, Nat.reduceEqDiff, Nat.reduceAdd, Nat.reduceMul, Nat.reduceLeDiff, hQr, hQn, c64_0, hb]); repeat' ((first | apply GdK_st | apply GdK_sf | apply CondK_s) <;> intro hd <;> (try simp only [hd]) <;> (try simp (disch := first | assumption | omega | (simp only [nx_alloc, nx_bump, nx_set] <;> omega) | fail) only [↓YA, YB, YC, YZ, YF, ↓reduceIte, Nat.reduceEqDiff, Nat.reduceAdd, Nat.reduceMul, Nat.reduceLeDiff, hQr, hQn, hd, c64_0, hb])))
    refine fin_i ?_ ?_
    ·(repeat (first | assumption | exact AHeap.Ext.refl _ | refine AHeap.Ext.set ?_ (by first | assumption | omega | (simp only [nx_alloc, nx_bump, nx_set]; omega)) | refine AHeap.Ext.alloc ?_ | refine AHeap.Ext.bump ?_))
    ·grind
 ·have hT : checkErr x ⟨dim, lists, all⟩ = 2 := by unfold checkErr; rw [if_pos (by simp; omega)]
  rw [hT] at hQr hQn
  ((try simp (disch := first | assumption | omega | (simp only [nx_alloc, nx_bump, nx_set] <;> omega) | fail) only [↓YA, YB, YC, YZ, YF, ↓reduceIte, Nat.reduceEqDiff, Nat.reduceAdd, Nat.reduceMul, Nat.reduceLeDiff, hQr, hQn, c64_0, eNod, List.length_map]); repeat' ((first | apply GdK_st | apply GdK_sf | apply CondK_s) <;> intro hd <;> (try simp only [hd]) <;> (try simp (disch := first | assumption | omega | (simp only [nx_alloc, nx_bump, nx_set] <;> omega) | fail) only [↓YA, YB, YC, YZ, YF, ↓reduceIte, Nat.reduceEqDiff, Nat.reduceAdd, Nat.reduceMul, Nat.reduceLeDiff, hQr, hQn, hd, c64_0, eNod, List.length_map])))
  all_goals first
   | (refine fin_i ?_ rfl; (repeat (first | assumption | exact AHeap.Ext.refl _ | refine AHeap.Ext.set ?_ (by first | assumption | omega | (simp only [nx_alloc, nx_bump, nx_set]; omega)) | refine AHeap.Ext.alloc ?_ | refine AHeap.Ext.bump ?_)))
   | (exfalso; grind)
set_option maxHeartbeats 4000000 in
theorem reach_sound (t : Tok) (n : Nod) (H : AHeap) (h1 : n.lists.length ≤ 1000000) (h2 : n.lists.flatten.length ≤ 1000000) : Sound Try.prog 19 [.agg (eNod t n)] H (Pure H (.sl .no (rC (each n)))) := by
 refine fn_soundQ hE cf19 (Nat.le_of_ble_eq_true rfl) fun Q hQr hQn => ?_
 obtain ⟨dim, lists, all⟩ := n
 simp only at h1 h2
 ((try simp (disch := first | assumption | omega | (simp only [nx_alloc, nx_bump, nx_set] <;> omega) | fail) only [↓YA, YB, YC, YZ, YF, ↓reduceIte, Nat.reduceEqDiff, Nat.reduceAdd, Nat.reduceMul, Nat.reduceLeDiff, hQr, hQn, c19_0, eNod, List.length_map]); repeat' ((first | apply GdK_st | apply GdK_sf | apply CondK_s) <;> intro hd <;> (try simp only [hd]) <;> (try simp (disch := first | assumption | omega | (simp only [nx_alloc, nx_bump, nx_set] <;> omega) | fail) only [↓YA, YB, YC, YZ, YF, ↓reduceIte, Nat.reduceEqDiff, Nat.reduceAdd, Nat.reduceMul, Nat.reduceLeDiff, hQr, hQn, hd, c19_0, eNod, List.length_map])))
 refine AW_let fun G hG => ?_
 have hg0 : G.get H.next = some (.cells (eNod t ⟨dim, lists, all⟩) 60) := by rw [hG]; exact AHeap.get_alloc_self (H := H)
 have hGe : AHeap.Ext H G := by rw [hG]; exact (AHeap.Ext.refl H).alloc
 have hGn : G.next = H.next + 1 := by rw [hG]; rfl
 clear hG
 refine AW_forI (N := lists.length) (fun k F s => Fr.get F 9 = .i (k : Int) ∧ Fr.get F 8 = .i (lists.length : Int) ∧ Fr.get F 7 = .sl t (rL lists) ∧ Fr.get F 1 = .ptr H.next 0 ∧ Fr.get F 3 = .sl (.own G.next) (rC (lists.take k).flatten) ∧ AHeap.Ext H s ∧ s.get H.next = some (.cells (eNod t ⟨dim, lists, all⟩) 60) ∧ s.get G.next = some (.tok (lists.take k).flatten.length 58 12)) (by unfold maxLen; omega) (fun k F G h => ⟨h.1, h.2.1⟩)
  (F1 := [(3, .sl (.own G.next) []), (9, .i ((0 : Nat) : Int)), (8, .i (lists.length : Int)), (7, .sl t (rL lists)), (1, .ptr H.next 0)]) (H1 := G.alloc (.tok 0 58 12)) ?_ ?_ ?_ ?_
 ·exact (GStep.fr (F' := [(9, .i ((0 : Nat) : Int)), (8, .i (lists.length : Int)), (7, .sl t (rL lists)), (1, .ptr H.next 0), (3, .sl .full [])]) (by simp [Fr.get])).trans ((GStep.tok 3 58 12 rfl).trans (GStep.fr (by simp [Fr.get, Fr.put])))
 ·refine ⟨rfl, rfl, rfl, rfl, rfl, hGe.alloc, ?_, AHeap.get_alloc_self (H := G)⟩
  rw [AHeap.get_alloc_ne (by omega)]
  exact hg0
 ·rintro k F s hk ⟨f9, f8, f7, f1, f3, hx, hs, hg⟩
  have hr := rL_get hk
  have h0k : (0 : Int) ≤ k := by omega
  have hf := flat_le lists (k + 1)
  rw [take_flat hk, List.length_append] at hf
  have ha := allLen_rC lists[k]
  have hb := allLen_rC (lists.take k).flatten
  have hgl := AHeap.lt hg
  have hxn := hx.next
  have hne : H.next ≠ G.next := by omega
  have hm : (lists.take k).flatten.length + lists[k].length ≤ maxLen := by unfold maxLen; omega
  have hm2 : ((lists.take k).flatten.length + lists[k].length) * 96 ≤ 140737488355328 := by omega
  have hap : rC (lists.take k).flatten ++ rC lists[k] = rC (lists.take (k + 1)).flatten := by rw [take_flat hk]; simp
  have hlen : (lists.take k).flatten.length + lists[k].length = (lists.take (k + 1)).flatten.length := by rw [take_flat hk, List.length_append]
  ((try simp (disch := first | assumption | omega | (simp only [nx_alloc, nx_bump, nx_set] <;> omega) | fail) only [↓YA, YB, YC, YZ, YF, ↓reduceIte, Nat.reduceEqDiff, Nat.reduceAdd, Nat.reduceMul, Nat.reduceLeDiff, hQr, hQn, c19_0, f9, f8, f7, f1, f3, hr, h0k, ha, hb, hm, hm2, hg, hs, List.length_map]); repeat' ((first | apply GdK_st | apply GdK_sf | apply CondK_s) <;> intro hd <;> (try simp only [hd]) <;> (try simp (disch := first | assumption | omega | (simp only [nx_alloc, nx_bump, nx_set] <;> omega) | fail) only [↓YA, YB, YC, YZ, YF, ↓reduceIte, Nat.reduceEqDiff, Nat.reduceAdd, Nat.reduceMul, Nat.reduceLeDiff, hQr, hQn, hd, c19_0, f9, f8, f7, f1, f3, hr, h0k, ha, hb, hm, hm2, hg, hs, List.length_map])))
  exact ⟨by rw [hap], hx.set (by omega), by rw [hlen]⟩
 ·rintro F s ⟨f9, f8, f7, f1, f3, hx, hs, hg⟩
  rw [List.take_length] at f3 hg
  have hgl := AHeap.lt hg
  have hb := allLen_rC lists.flatten
  have ha : allLen 12 [eCel all] = true := rfl
  unfold eCel at ha
  have hm : lists.flatten.length + 1 ≤ maxLen := by unfold maxLen; omega
  have hm2 : (lists.flatten.length + 1) * 96 ≤ 140737488355328 := by omega
  have hap : rC lists.flatten ++ [eCel all] = rC (each ⟨dim, lists, all⟩) := by unfold each; simp
  unfold eCel at hap
  unfold eNod at hs
  ((try simp (disch := first | assumption | omega | (simp only [nx_alloc, nx_bump, nx_set] <;> omega) | fail) only [↓YA, YB, YC, YZ, YF, ↓reduceIte, Nat.reduceEqDiff, Nat.reduceAdd, Nat.reduceMul, Nat.reduceLeDiff, hQr, hQn, c19_0, f1, f3, hs, hb, ha, hm, hm2, hg, List.length_map]); repeat' ((first | apply GdK_st | apply GdK_sf | apply CondK_s) <;> intro hd <;> (try simp only [hd]) <;> (try simp (disch := first | assumption | omega | (simp only [nx_alloc, nx_bump, nx_set] <;> omega) | fail) only [↓YA, YB, YC, YZ, YF, ↓reduceIte, Nat.reduceEqDiff, Nat.reduceAdd, Nat.reduceMul, Nat.reduceLeDiff, hQr, hQn, hd, c19_0, f1, f3, hs, hb, ha, hm, hm2, hg, List.length_map])))
  rw [hap]
  exact fin_pure (hx.set (by omega)) rfl
set_option maxHeartbeats 4000000 in
theorem radd_sound (tok lt t : Tok) (x : Shp) (most : Int) (l : List Nod) (n : Nod) (H : AHeap) (hl : x.sizes.length ≤ 1000) (hx : ∀ s ∈ x.sizes, s.length ≤ 1000000) (hll : l.length ≤ 200000) (hn : smallN n) : Sound Try.prog 40 [.agg [.sl tok (rII x.sizes), .i x.measures], .i most, .sl lt (rN l), .agg (eNod t n)] H (Pure H (.i (addErr x most l n))) := by
 refine fn_soundQ hE cf40 (Nat.le_of_ble_eq_true rfl) fun Q hQr hQn => ?_
 obtain ⟨hn1, hn2, hn3⟩ := hn
 ((try simp (disch := first | assumption | omega | (simp only [nx_alloc, nx_bump, nx_set] <;> omega) | fail) only [↓YA, YB, YC, YZ, YF, ↓reduceIte, Nat.reduceEqDiff, Nat.reduceAdd, Nat.reduceMul, Nat.reduceLeDiff, hQr, hQn, c40_0, eNod]); repeat' ((first | apply GdK_st | apply GdK_sf | apply CondK_s) <;> intro hd <;> (try simp only [hd]) <;> (try simp (disch := first | assumption | omega | (simp only [nx_alloc, nx_bump, nx_set] <;> omega) | fail) only [↓YA, YB, YC, YZ, YF, ↓reduceIte, Nat.reduceEqDiff, Nat.reduceAdd, Nat.reduceMul, Nat.reduceLeDiff, hQr, hQn, hd, c40_0, eNod])))
 refine CallK.use (wrong_sound tok t x n _ (by omega) hx ⟨hn1, hn3⟩) ?_
 rintro r H2 ⟨rfl, k2, rfl⟩
 by_cases e1 : checkErr x n = 0
 ·have d1 : (checkErr x n != 0) = false := by simp [e1]
  ((try simp (disch := first | assumption | omega | (simp only [nx_alloc, nx_bump, nx_set] <;> omega) | fail) only [↓YA, YB, YC, YZ, YF, ↓reduceIte, Nat.reduceEqDiff, Nat.reduceAdd, Nat.reduceMul, Nat.reduceLeDiff, hQr, hQn, c40_0, d1]); repeat' ((first | apply GdK_st | apply GdK_sf | apply CondK_s) <;> intro hd <;> (try simp only [hd]) <;> (try simp (disch := first | assumption | omega | (simp only [nx_alloc, nx_bump, nx_set] <;> omega) | fail) only [↓YA, YB, YC, YZ, YF, ↓reduceIte, Nat.reduceEqDiff, Nat.reduceAdd, Nat.reduceMul, Nat.reduceLeDiff, hQr, hQn, hd, c40_0, d1])))
  refine CallK.use (reach_sound t n _ hn1 (by omega)) ?_
  rintro r H2 ⟨rfl, k3, rfl⟩
  ((try simp (disch := first | assumption | omega | (simp only [nx_alloc, nx_bump, nx_set] <;> omega) | fail) only [↓YA, YB, YC, YZ, YF, ↓reduceIte, Nat.reduceEqDiff, Nat.reduceAdd, Nat.reduceMul, Nat.reduceLeDiff, hQr, hQn, List.length_map]); repeat' ((first | apply GdK_st | apply GdK_sf | apply CondK_s) <;> intro hd <;> (try simp only [hd]) <;> (try simp (disch := first | assumption | omega | (simp only [nx_alloc, nx_bump, nx_set] <;> omega) | fail) only [↓YA, YB, YC, YZ, YF, ↓reduceIte, Nat.reduceEqDiff, Nat.reduceAdd, Nat.reduceMul, Nat.reduceLeDiff, hQr, hQn, hd, List.length_map])))
  have hT : addErr x most l n = if (lastB x n.dim || (each n).all (leadB l n.dim)) = false then 9 else if most ≤ l.length then 7 else 0 := by
   unfold addErr; rw [if_neg (by simp [e1])]; rfl
  obtain ⟨hd1, hd2, _⟩ := check_dim e1
  have hel : (each n).length ≤ 1000000 := each_len ⟨hn1, hn2, hn3⟩
  have hch := check_child e1
  have hlb : lastB x n.dim = (n.dim == (x.sizes.length : Int) - 1) := rfl
  generalize hes : each n = es at *
  generalize addErr x most l n = T at *
  refine AW_forI (N := es.length) (fun k F G => Fr.get F 21 = .i (k : Int) ∧ Fr.get F 20 = .i (es.length : Int) ∧ Fr.get F 19 = .sl .no (rC es) ∧ Fr.get F 4 = .ptr H.next 0 ∧ Fr.get F 7 = .ptr (H.next + 1) 0 ∧ Fr.get F 2 = .sl lt (rN l) ∧ Fr.get F 1 = .i most ∧ AHeap.Ext H G ∧ G.get H.next = some (.cells [.sl tok (rII x.sizes), .i x.measures] 44) ∧ G.get (H.next + 1) = some (.cells (eNod t n) 60) ∧ T = if (lastB x n.dim || (es.drop k).all (leadB l n.dim)) = false then 9 else if most ≤ l.length then 7 else 0) (by unfold maxLen; omega) (fun k F G h => ⟨h.1, h.2.1⟩) (GStep.refl _ _) ?_ ?_ ?_
  ·refine ⟨rfl, rfl, rfl, rfl, rfl, rfl, rfl, (AHeap.Ext.refl H).alloc.alloc.bump.bump, ?_, ?_, hT⟩
   ·simp only [AHeap.get_bump]
    rw [AHeap.get_alloc_ne (by simp)]
    exact AHeap.get_alloc_self
   ·simp only [AHeap.get_bump]
    exact AHeap.get_alloc_self (H := H.alloc _)
  ·rintro k F G hk ⟨f21, f20, f19, f4, f7, f2, f1, hxG, hg1, hg2, ht⟩
   rw [all_drop hk] at ht
   have hr := rC_get hk
   have h0 : (0 : Int) ≤ k := by omega
   have hgl := AHeap.lt hg2
   have hxn := hxG.next
   have hg2' := hg2
   unfold eNod at hg2
   unfold eCel at hr
   cases hb : lastB x n.dim with
   | true =>
    have dl : decide (n.dim < (x.sizes.length : Int) - 1) = false := by rw [hlb] at hb; simp at hb ⊢; omega
    rw [hb, Bool.true_or] at ht
    ((try simp (disch := first | assumption | omega | (simp only [nx_alloc, nx_bump, nx_set] <;> omega) | fail) only [↓YA, YB, YC, YZ, YF, ↓reduceIte, Nat.reduceEqDiff, Nat.reduceAdd, Nat.reduceMul, Nat.reduceLeDiff, hQr, hQn, c40_0, eNod, f21, f20, f19, f4, f7, f2, f1, hg1, hg2, hr, h0, dl, List.length_map]); repeat' ((first | apply GdK_st | apply GdK_sf | apply CondK_s) <;> intro hd <;> (try simp only [hd]) <;> (try simp (disch := first | assumption | omega | (simp only [nx_alloc, nx_bump, nx_set] <;> omega) | fail) only [↓YA, YB, YC, YZ, YF, ↓reduceIte, Nat.reduceEqDiff, Nat.reduceAdd, Nat.reduceMul, Nat.reduceLeDiff, hQr, hQn, hd, c40_0, eNod, f21, f20, f19, f4, f7, f2, f1, hg1, hg2, hr, h0, dl, List.length_map])))
    refine ⟨?_, ?_⟩
    ·(repeat (first | assumption | exact AHeap.Ext.refl _ | refine AHeap.Ext.set ?_ (by first | assumption | omega | (simp only [nx_alloc, nx_bump, nx_set]; omega)) | refine AHeap.Ext.alloc ?_ | refine AHeap.Ext.bump ?_))
    ·rw [ht]; rfl
   | false =>
    have dl : decide (n.dim < (x.sizes.length : Int) - 1) = true := by rw [hlb] at hb; simp at hb ⊢; omega
    have hck1 := hch hb _ (List.getElem_mem hk)
    obtain ⟨d, hdc⟩ : ∃ d : Nat, es[k].child = d := ⟨es[k].child.toNat, by omega⟩
    have h0d : (0 : Int) ≤ d := by omega
    have hw : IntKind.i64.wrap (n.dim + 1) = n.dim + 1 := wrap_of (by omega) (by omega)
    rw [hb, Bool.false_or] at ht
    by_cases hdl : d < l.length
    ·have d2 : decide ((d : Int) ≥ (l.length : Int)) = false := by simp; omega
     have hrn := rN_get hdl
     have hLB : leadB l n.dim es[k] = (l[d].dim == n.dim + 1) := by
      unfold leadB
      rw [hdc]
      have : decide ((d : Int) < (l.length : Int)) = true := by simp; omega
      simp only [this, Bool.true_and, Int.toNat_natCast, List.getD_eq_getElem?_getD, List.getElem?_eq_getElem hdl, Option.getD_some]
      rfl
     rw [hLB] at ht
     unfold eNod at hrn
     ((try simp (disch := first | assumption | omega | (simp only [nx_alloc, nx_bump, nx_set] <;> omega) | fail) only [↓YA, YB, YC, YZ, YF, ↓reduceIte, Nat.reduceEqDiff, Nat.reduceAdd, Nat.reduceMul, Nat.reduceLeDiff, hQr, hQn, c40_0, eNod, f21, f20, f19, f4, f7, f2, f1, hg1, hg2, hr, h0, dl, hdc, d2, h0d, hrn, hw, List.length_map]); repeat' ((first | apply GdK_st | apply GdK_sf | apply CondK_s) <;> intro hd <;> (try simp only [hd]) <;> (try simp (disch := first | assumption | omega | (simp only [nx_alloc, nx_bump, nx_set] <;> omega) | fail) only [↓YA, YB, YC, YZ, YF, ↓reduceIte, Nat.reduceEqDiff, Nat.reduceAdd, Nat.reduceMul, Nat.reduceLeDiff, hQr, hQn, hd, c40_0, eNod, f21, f20, f19, f4, f7, f2, f1, hg1, hg2, hr, h0, dl, hdc, d2, h0d, hrn, hw, List.length_map])))
     ·refine fin_i ?_ ?_
      ·(repeat (first | assumption | exact AHeap.Ext.refl _ | refine AHeap.Ext.set ?_ (by first | assumption | omega | (simp only [nx_alloc, nx_bump, nx_set]; omega)) | refine AHeap.Ext.alloc ?_ | refine AHeap.Ext.bump ?_))
      ·grind
     ·refine ⟨?_, ?_⟩
      ·(repeat (first | assumption | exact AHeap.Ext.refl _ | refine AHeap.Ext.set ?_ (by first | assumption | omega | (simp only [nx_alloc, nx_bump, nx_set]; omega)) | refine AHeap.Ext.alloc ?_ | refine AHeap.Ext.bump ?_))
      ·grind
    ·have d2 : decide ((d : Int) ≥ (l.length : Int)) = true := by simp; omega
     have hLB : leadB l n.dim es[k] = false := by
      unfold leadB
      rw [hdc]
      have : decide ((d : Int) < (l.length : Int)) = false := by simp; omega
      simp only [this, Bool.false_and]
     rw [hLB] at ht
     ((try simp (disch := first | assumption | omega | (simp only [nx_alloc, nx_bump, nx_set] <;> omega) | fail) only [↓YA, YB, YC, YZ, YF, ↓reduceIte, Nat.reduceEqDiff, Nat.reduceAdd, Nat.reduceMul, Nat.reduceLeDiff, hQr, hQn, c40_0, eNod, f21, f20, f19, f4, f7, f2, f1, hg1, hg2, hr, h0, dl, hdc, d2, h0d, hw, List.length_map]); repeat' ((first | apply GdK_st | apply GdK_sf | apply CondK_s) <;> intro hd <;> (try simp only [hd]) <;> (try simp (disch := first | assumption | omega | (simp only [nx_alloc, nx_bump, nx_set] <;> omega) | fail) only [↓YA, YB, YC, YZ, YF, ↓reduceIte, Nat.reduceEqDiff, Nat.reduceAdd, Nat.reduceMul, Nat.reduceLeDiff, hQr, hQn, hd, c40_0, eNod, f21, f20, f19, f4, f7, f2, f1, hg1, hg2, hr, h0, dl, hdc, d2, h0d, hw, List.length_map])))
     refine fin_i ?_ ?_
     ·(repeat (first | assumption | exact AHeap.Ext.refl _ | refine AHeap.Ext.set ?_ (by first | assumption | omega | (simp only [nx_alloc, nx_bump, nx_set]; omega)) | refine AHeap.Ext.alloc ?_ | refine AHeap.Ext.bump ?_))
     ·grind
  ·rintro F G ⟨f21, f20, f19, f4, f7, f2, f1, hxG, hg1, hg2, ht⟩
   rw [List.drop_length] at ht
   simp only [List.all_nil, Bool.or_true] at ht
   ((try simp (disch := first | assumption | omega | (simp only [nx_alloc, nx_bump, nx_set] <;> omega) | fail) only [↓YA, YB, YC, YZ, YF, ↓reduceIte, Nat.reduceEqDiff, Nat.reduceAdd, Nat.reduceMul, Nat.reduceLeDiff, hQr, hQn, c40_0, f2, f1, List.length_map]); repeat' ((first | apply GdK_st | apply GdK_sf | apply CondK_s) <;> intro hd <;> (try simp only [hd]) <;> (try simp (disch := first | assumption | omega | (simp only [nx_alloc, nx_bump, nx_set] <;> omega) | fail) only [↓YA, YB, YC, YZ, YF, ↓reduceIte, Nat.reduceEqDiff, Nat.reduceAdd, Nat.reduceMul, Nat.reduceLeDiff, hQr, hQn, hd, c40_0, f2, f1, List.length_map])))
   all_goals
    refine fin_i hxG ?_
    grind
 ·have d1 : (checkErr x n != 0) = true := by simpa using e1
  have hT : addErr x most l n = checkErr x n := by unfold addErr; rw [if_pos e1]
  ((try simp (disch := first | assumption | omega | (simp only [nx_alloc, nx_bump, nx_set] <;> omega) | fail) only [↓YA, YB, YC, YZ, YF, ↓reduceIte, Nat.reduceEqDiff, Nat.reduceAdd, Nat.reduceMul, Nat.reduceLeDiff, hQr, hQn, c40_0, d1]); repeat' ((first | apply GdK_st | apply GdK_sf | apply CondK_s) <;> intro hd <;> (try simp only [hd]) <;> (try simp (disch := first | assumption | omega | (simp only [nx_alloc, nx_bump, nx_set] <;> omega) | fail) only [↓YA, YB, YC, YZ, YF, ↓reduceIte, Nat.reduceEqDiff, Nat.reduceAdd, Nat.reduceMul, Nat.reduceLeDiff, hQr, hQn, hd, c40_0, d1])))
  refine fin_i ?_ hT.symm
  (repeat (first | assumption | exact AHeap.Ext.refl _ | refine AHeap.Ext.set ?_ (by first | assumption | omega | (simp only [nx_alloc, nx_bump, nx_set]; omega)) | refine AHeap.Ext.alloc ?_ | refine AHeap.Ext.bump ?_))
set_option maxHeartbeats 4000000 in
theorem loads_sound (lt : Tok) (x : Shp) (l : List Nod) (H : AHeap) (hl : l.length ≤ 200000) (hn : ∀ n ∈ l, smallN n) : Sound Try.prog 17 [.agg (eShp x), .sl lt (rN l)] H (Pure H (.i (loadErr x l))) := by
 refine fn_soundQ hE cf17 (Nat.le_of_ble_eq_true rfl) fun Q hQr hQn => ?_
 have hx0 : AHeap.Ext H (H.alloc (.cells (eShp x) 44)) := (AHeap.Ext.refl H).alloc
 rw [eShp_eq] at hx0 ⊢
 ((try simp (disch := first | assumption | omega | (simp only [nx_alloc, nx_bump, nx_set] <;> omega) | fail) only [↓YA, YB, YC, YZ, YF, ↓reduceIte, Nat.reduceEqDiff, Nat.reduceAdd, Nat.reduceMul, Nat.reduceLeDiff, hQr, hQn, c17_0]); repeat' ((first | apply GdK_st | apply GdK_sf | apply CondK_s) <;> intro hd <;> (try simp only [hd]) <;> (try simp (disch := first | assumption | omega | (simp only [nx_alloc, nx_bump, nx_set] <;> omega) | fail) only [↓YA, YB, YC, YZ, YF, ↓reduceIte, Nat.reduceEqDiff, Nat.reduceAdd, Nat.reduceMul, Nat.reduceLeDiff, hQr, hQn, hd, c17_0])))
 refine CallK.use (rmay_sound x _) ?_
 rintro r H1 ⟨rfl, k1, rfl⟩
 cases hm : shpMay x with
 | false =>
  have hT : loadErr x l = 2 := by unfold loadErr; rw [hm]; rfl
  ((try simp (disch := first | assumption | omega | (simp only [nx_alloc, nx_bump, nx_set] <;> omega) | fail) only [↓YA, YB, YC, YZ, YF, ↓reduceIte, Nat.reduceEqDiff, Nat.reduceAdd, Nat.reduceMul, Nat.reduceLeDiff, hQr, hQn, c17_0, hm]); repeat' ((first | apply GdK_st | apply GdK_sf | apply CondK_s) <;> intro hd <;> (try simp only [hd]) <;> (try simp (disch := first | assumption | omega | (simp only [nx_alloc, nx_bump, nx_set] <;> omega) | fail) only [↓YA, YB, YC, YZ, YF, ↓reduceIte, Nat.reduceEqDiff, Nat.reduceAdd, Nat.reduceMul, Nat.reduceLeDiff, hQr, hQn, hd, c17_0, hm])))
  exact fin_i hx0.bump hT.symm
 | true =>
  obtain ⟨b1, b2, b3, b4, b5⟩ := shpMay_bounds hm
  have hss : ∀ s ∈ x.sizes, s.length ≤ 1000000 := fun s hs => by have := (sizesMay_bounds (b5 s hs)).2.1; omega
  have hT : loadErr x l = loadFrom x 131072 (l.take 0) (l.drop 0) := by unfold loadErr; rw [hm]; rfl
  generalize loadErr x l = T at *
  ((try simp (disch := first | assumption | omega | (simp only [nx_alloc, nx_bump, nx_set] <;> omega) | fail) only [↓YA, YB, YC, YZ, YF, ↓reduceIte, Nat.reduceEqDiff, Nat.reduceAdd, Nat.reduceMul, Nat.reduceLeDiff, hQr, hQn, c17_0, hm, List.length_map]); repeat' ((first | apply GdK_st | apply GdK_sf | apply CondK_s) <;> intro hd <;> (try simp only [hd]) <;> (try simp (disch := first | assumption | omega | (simp only [nx_alloc, nx_bump, nx_set] <;> omega) | fail) only [↓YA, YB, YC, YZ, YF, ↓reduceIte, Nat.reduceEqDiff, Nat.reduceAdd, Nat.reduceMul, Nat.reduceLeDiff, hQr, hQn, hd, c17_0, hm, List.length_map])))
  refine AW_forI (N := l.length) (fun k F G => Fr.get F 12 = .i (k : Int) ∧ Fr.get F 11 = .i (l.length : Int) ∧ Fr.get F 2 = .ptr H.next 0 ∧ Fr.get F 1 = .sl lt (rN l) ∧ AHeap.Ext H G ∧ G.get H.next = some (.cells [.sl .no (rII x.sizes), .i x.measures] 44) ∧ T = loadFrom x 131072 (l.take k) (l.drop k)) (by unfold maxLen; omega) (fun k F G h => ⟨h.1, h.2.1⟩) (GStep.refl _ _) ?_ ?_ ?_
  ·exact ⟨rfl, rfl, rfl, rfl, hx0.bump, AHeap.get_alloc_self (H := H), hT⟩
  ·rintro k F G hk ⟨f12, f11, f2, f1, hxG, hg, ht⟩
   rw [loadFrom_step x 131072 l k hk] at ht
   have hr := rN_get hk
   have h0 : (0 : Int) ≤ k := by omega
   have hkl : k ≤ l.length := by omega
   have htk : (rN l).take k = rN (l.take k) := by simp
   unfold eNod at hr
   ((try simp (disch := first | assumption | omega | (simp only [nx_alloc, nx_bump, nx_set] <;> omega) | fail) only [↓YA, YB, YC, YZ, YF, ↓reduceIte, Nat.reduceEqDiff, Nat.reduceAdd, Nat.reduceMul, Nat.reduceLeDiff, hQr, hQn, c17_0, f12, f2, f1, hr, h0, hg, bndA, Nat.zero_le, true_or, hkl, htk, List.length_map, Option.map_none]); repeat' ((first | apply GdK_st | apply GdK_sf | apply CondK_s) <;> intro hd <;> (try simp only [hd]) <;> (try simp (disch := first | assumption | omega | (simp only [nx_alloc, nx_bump, nx_set] <;> omega) | fail) only [↓YA, YB, YC, YZ, YF, ↓reduceIte, Nat.reduceEqDiff, Nat.reduceAdd, Nat.reduceMul, Nat.reduceLeDiff, hQr, hQn, hd, c17_0, f12, f2, f1, hr, h0, hg, bndA, Nat.zero_le, true_or, hkl, htk, List.length_map, Option.map_none])))
   refine CallK.use (radd_sound .no _ .no x 131072 (l.take k) l[k] _ (by omega) hss (by simp; omega) (hn _ (List.getElem_mem hk))) ?_
   rintro r H2 ⟨rfl, k2, rfl⟩
   by_cases he : addErr x 131072 (l.take k) l[k] = 0
   ·have d1 : (addErr x 131072 (l.take k) l[k] != 0) = false := by simpa using he
    rw [if_neg (by simpa using he)] at ht
    ((try simp (disch := first | assumption | omega | (simp only [nx_alloc, nx_bump, nx_set] <;> omega) | fail) only [↓YA, YB, YC, YZ, YF, ↓reduceIte, Nat.reduceEqDiff, Nat.reduceAdd, Nat.reduceMul, Nat.reduceLeDiff, hQr, hQn, c17_0, d1, f12, f11, f2, f1, hg]); repeat' ((first | apply GdK_st | apply GdK_sf | apply CondK_s) <;> intro hd <;> (try simp only [hd]) <;> (try simp (disch := first | assumption | omega | (simp only [nx_alloc, nx_bump, nx_set] <;> omega) | fail) only [↓YA, YB, YC, YZ, YF, ↓reduceIte, Nat.reduceEqDiff, Nat.reduceAdd, Nat.reduceMul, Nat.reduceLeDiff, hQr, hQn, hd, c17_0, d1, f12, f11, f2, f1, hg])))
    exact ⟨hxG.bump, ht⟩
   ·have d1 : (addErr x 131072 (l.take k) l[k] != 0) = true := by simpa using he
    rw [if_pos he] at ht
    ((try simp (disch := first | assumption | omega | (simp only [nx_alloc, nx_bump, nx_set] <;> omega) | fail) only [↓YA, YB, YC, YZ, YF, ↓reduceIte, Nat.reduceEqDiff, Nat.reduceAdd, Nat.reduceMul, Nat.reduceLeDiff, hQr, hQn, c17_0, d1]); repeat' ((first | apply GdK_st | apply GdK_sf | apply CondK_s) <;> intro hd <;> (try simp only [hd]) <;> (try simp (disch := first | assumption | omega | (simp only [nx_alloc, nx_bump, nx_set] <;> omega) | fail) only [↓YA, YB, YC, YZ, YF, ↓reduceIte, Nat.reduceEqDiff, Nat.reduceAdd, Nat.reduceMul, Nat.reduceLeDiff, hQr, hQn, hd, c17_0, d1])))
    exact fin_i hxG.bump ht.symm
  ·rintro F G ⟨f12, f11, f2, f1, hxG, hg, ht⟩
   rw [List.take_length, List.drop_length] at ht
   ((try simp (disch := first | assumption | omega | (simp only [nx_alloc, nx_bump, nx_set] <;> omega) | fail) only [↓YA, YB, YC, YZ, YF, ↓reduceIte, Nat.reduceEqDiff, Nat.reduceAdd, Nat.reduceMul, Nat.reduceLeDiff, hQr, hQn, c17_0]); repeat' ((first | apply GdK_st | apply GdK_sf | apply CondK_s) <;> intro hd <;> (try simp only [hd]) <;> (try simp (disch := first | assumption | omega | (simp only [nx_alloc, nx_bump, nx_set] <;> omega) | fail) only [↓YA, YB, YC, YZ, YF, ↓reduceIte, Nat.reduceEqDiff, Nat.reduceAdd, Nat.reduceMul, Nat.reduceLeDiff, hQr, hQn, hd, c17_0])))
   exact fin_i hxG ht.symm
def vAg (a : Ag) : List Value := [.int .i64 a.n, .int .i64 a.s0, .int .i64 a.l0, .int .i64 a.h0, .int .i64 a.s1, .int .i64 a.l1, .int .i64 a.h1, .int .i64 a.s2, .int .i64 a.l2, .int .i64 a.h2]
def vCel (c : Cel) : List Value := .int .i64 c.key :: .int .i64 c.child :: vAg c.agg
theorem vsEq_ag (a b : Ag) : vsEq (vAg a) (vAg b) = decide (a = b) := by
 obtain ⟨n, s0, l0, h0, s1, l1, h1, s2, l2, h2⟩ := a
 obtain ⟨n', s0', l0', h0', s1', l1', h1', s2', l2', h2'⟩ := b
 rw [Bool.eq_iff_iff]
 simp [vAg, vsEq, vEq_int]
theorem vsEq_cel (a b : Cel) : vsEq (vCel a) (vCel b) = decide (a = b) := by
 obtain ⟨k, c, x⟩ := a
 obtain ⟨k', c', y⟩ := b
 rw [Bool.eq_iff_iff]
 simp [vCel, vsEq, vEq_int, vsEq_ag]
theorem stable_n {d : Nat} {op : AOp} {F : Fr} {H : AHeap} : AI.stable ⟨none, some d, op⟩ F H = (op.ev F H = some (Fr.get F d, H)) := by
 simp [AI.stable, AI.want]
theorem stable_g {s d : Nat} {t : Bool} {op : AOp} {F : Fr} {H : AHeap} : AI.stable ⟨some (s, t), some d, op⟩ F H = @GdK (Fr.get F s) t ⟨op.ev F H = some (Fr.get F d, H)⟩ ⟨fun _ _ => True⟩ := by
 simp only [AI.stable, AI.want, GdK]
 cases Fr.get F s with
 | sc v =>
  cases v with
  | bool c => cases c <;> cases t <;> simp
  | _ => rfl
 | _ => rfl
theorem stables_nil {F : Fr} {H : AHeap} : (∀ r ∈ ([] : List AI), r.stable F H) = True := by simp
theorem stables_cons {F : Fr} {H : AHeap} {a : AI} {l : List AI} : (∀ r ∈ a :: l, r.stable F H) = (a.stable F H ∧ ∀ r ∈ l, r.stable F H) := by simp
theorem bytes_toList (l : List UInt8) : (⟨l.toArray⟩ : ByteArray).toList = l := by rw [ByteArray.toList_eq]
theorem beq_dec (a b : List UInt8) : (a == b) = decide (a = b) := by rw [Bool.eq_iff_iff]; simp
theorem YE : (∀ {α β : Type} {f : α → β} {l : List α} {i : Nat}, (l.map f)[i]? = (l[i]?).map f) ∧ (∀ {α : Type} {l : List α} {i : Nat} (h : i < l.length), l[i]? = some l[i]) ∧
  (∀ {a : Ag}, (eAg a).length = 10) ∧ (∀ {c : Cel}, (eCel c).length = 12) ∧ (∀ {t : Tok} {n : Nod}, (eNod t n).length = 14) ∧ (∀ {x : Shp}, (eShp x).length = 2) ∧
  (∀ {a : Ag}, (eAg a).take 10 = eAg a) ∧ (∀ {c : Cel}, (eCel c).take 12 = eCel c) ∧ (∀ {t : Tok} {n : Nod}, (eNod t n).take 14 = eNod t n) ∧ (∀ {x : Shp}, (eShp x).take 2 = eShp x) ∧
  (∀ {c : Cel}, (eCel c)[0]? = some (.i c.key)) ∧ (∀ {c : Cel}, (eCel c)[1]? = some (.i c.child)) ∧ (∀ {c : Cel}, ((eCel c).drop 2).take 10 = eAg c.agg) ∧ (∀ {a : Ag}, (eAg a)[0]? = some (.i a.n)) ∧
  (∀ {t : Tok} {n : Nod}, (eNod t n)[0]? = some (.i n.dim)) ∧ (∀ {t : Tok} {n : Nod}, (eNod t n)[1]? = some (.sl t (rL n.lists))) ∧ (∀ {t : Tok} {n : Nod}, (eNod t n)[2]? = some (.i n.all.key)) ∧ (∀ {t : Tok} {n : Nod}, (eNod t n)[3]? = some (.i n.all.child)) ∧
  (∀ {t : Tok} {n : Nod}, ((eNod t n).drop 2).take 12 = eCel n.all) ∧ (∀ {t : Tok} {n : Nod}, ((eNod t n).drop 4).take 10 = eAg n.all.agg) ∧ (∀ {x : Shp}, (eShp x)[0]? = some (.sl .no (rII x.sizes))) ∧ (∀ {x : Shp}, (eShp x)[1]? = some (.i x.measures)) ∧
  (∀ {a : Ag}, scs [.int .i64, .int .i64, .int .i64, .int .i64, .int .i64, .int .i64, .int .i64, .int .i64, .int .i64, .int .i64] (eAg a) = some (vAg a)) ∧
  (∀ {c : Cel}, scs [.int .i64, .int .i64, .int .i64, .int .i64, .int .i64, .int .i64, .int .i64, .int .i64, .int .i64, .int .i64, .int .i64, .int .i64] (eCel c) = some (vCel c)) ∧
  (∀ {a b : Ag}, vsEq (vAg a) (vAg b) = decide (a = b)) ∧ (∀ {a b : Cel}, vsEq (vCel a) (vCel b) = decide (a = b)) ∧ (∀ {n : Nat}, (0 ≤ (n : Int)) = True) ∧ (∀ {H : AHeap} {i : Nat} {o o' : AObj}, i = H.next → (H.alloc o).set i o' = H.alloc o') ∧
  (∀ {d op F H}, AI.stable ⟨none, some d, op⟩ F H = (op.ev F H = some (Fr.get F d, H))) ∧ (∀ {s d t op F H}, AI.stable ⟨some (s, t), some d, op⟩ F H = @GdK (Fr.get F s) t ⟨op.ev F H = some (Fr.get F d, H)⟩ ⟨fun _ _ => True⟩) ∧
  (∀ {F : Fr} {H : AHeap}, (∀ r ∈ ([] : List AI), r.stable F H) = True) ∧ (∀ {F : Fr} {H : AHeap} {a : AI} {l : List AI}, (∀ r ∈ a :: l, r.stable F H) = (a.stable F H ∧ ∀ r ∈ l, r.stable F H)) ∧
  (∀ {l : List UInt8}, (⟨l.toArray⟩ : ByteArray).toList = l) ∧ (∀ {a b : List UInt8}, Op.bytesLess a b = decide (a < b)) ∧ (∀ {a b : List UInt8}, (a == b) = decide (a = b)) ∧ (∀ {l : List UInt8}, (⟨l.toArray⟩ : ByteArray).size = l.length) :=
 ⟨List.getElem?_map, List.getElem?_eq_getElem, rfl, rfl, rfl, rfl, rfl, rfl, rfl, rfl, rfl, rfl, rfl, rfl, rfl, rfl, rfl, rfl, rfl, rfl, rfl, rfl, rfl, rfl, vsEq_ag _ _, vsEq_cel _ _, by simp, set_alloc_at, stable_n, stable_g, stables_nil, stables_cons, bytes_toList _, bytesLess_eq _ _, beq_dec _ _, rfl⟩
section
variable {K V : Type} [DecidableEq K] {kf : K → Value} {vf : V → AV}
def aGet (k : K) : List (K × V) → Option V
 | [] => none
 | (k', v) :: M => if k = k' then some v else aGet k M
def aSet (k : K) (v : V) : List (K × V) → List (K × V)
 | [] => [(k, v)]
 | (k', u) :: M => if k = k' then (k, v) :: M else (k', u) :: aSet k v M
def eMap (kf : K → Value) (vf : V → AV) (M : List (K × V)) : List (Value × AV) := M.map fun p => (kf p.1, vf p.2)
theorem mFind_map (hk : ∀ a b, kEq (kf a) (kf b) = decide (a = b)) (k : K) : ∀ M : List (K × V), mFind (kf k) (eMap kf vf M) = (aGet k M).map vf
 | [] => rfl
 | (k', v) :: M => by
  have ih := mFind_map hk k M
  unfold eMap at ih ⊢
  simp only [List.map_cons, mFind, hk, aGet]
  by_cases h : k = k' <;> simp [h, ih]
theorem mSet_map (hk : ∀ a b, kEq (kf a) (kf b) = decide (a = b)) (k : K) (v : V) : ∀ M : List (K × V), mSet (kf k) (vf v) (eMap kf vf M) = eMap kf vf (aSet k v M)
 | [] => rfl
 | (k', u) :: M => by
  have ih := mSet_map hk k v M
  unfold eMap at ih ⊢
  simp only [List.map_cons, mSet, hk, aSet]
  by_cases h : k = k' <;> simp [h, ih]
theorem aGet_set (k j : K) (v : V) : ∀ M : List (K × V), aGet j (aSet k v M) = if j = k then some v else aGet j M
 | [] => by simp [aSet, aGet]
 | (k', u) :: M => by
  have ih := aGet_set k j v M
  unfold aSet
  by_cases h : k = k'
  ·subst h
   rw [if_pos rfl]
   simp only [aGet]
   by_cases h2 : j = k <;> simp [h2]
  ·rw [if_neg h]
   simp only [aGet, ih]
   by_cases h2 : j = k
   ·subst h2; simp [h]
   ·simp [h2]
theorem aGet_same (k : K) (v : V) (M : List (K × V)) : aGet k (aSet k v M) = some v := by rw [aGet_set, if_pos rfl]
theorem aSet_len (k : K) (v : V) : ∀ M : List (K × V), (aSet k v M).length = if (aGet k M).isSome then M.length else M.length + 1
 | [] => by simp [aSet, aGet]
 | (k', u) :: M => by
  have ih := aSet_len k v M
  unfold aSet aGet
  by_cases h : k = k'
  ·simp [h]
  ·simp only [h, if_false, List.length_cons, ih]
   split <;> omega
end
def kI (n : Int) : Value := .int .i64 n
def k2 (p : Int × Int) : Value := .agg #[.int .i64 p.1, .int .i64 p.2]
theorem kI_eq (a b : Int) : kEq (kI a) (kI b) = decide (a = b) := vEq_int a b
theorem kI_of (a : Int) : KK.of (.one (.int .i64)) (.i a) = some (kI a) := rfl
structure ExtB (m : Nat) (H H' : AHeap) : Prop where
 next : H.next ≤ H'.next
 get : ∀ i o, i ≠ m → H.get i = some o → H'.get i = some o
theorem ExtB.refl (m : Nat) (H : AHeap) : ExtB m H H := ⟨Nat.le_refl _, fun _ _ _ h => h⟩
theorem ExtB.trans {m : Nat} {H H' H'' : AHeap} (h : ExtB m H H') (k : ExtB m H' H'') : ExtB m H H'' := ⟨Nat.le_trans h.next k.next, fun i o hi e => k.get i o hi (h.get i o hi e)⟩
theorem ExtB.of {m : Nat} {H H' : AHeap} (h : AHeap.Ext H H') : ExtB m H H' := ⟨h.next, fun i o _ e => h.get i o e⟩
theorem ExtB.set {m : Nat} {H H' : AHeap} {o : AObj} (h : ExtB m H H') : ExtB m H (H'.set m o) := ⟨h.next, fun i o hi e => by rw [AHeap.get_set_ne hi]; exact h.get i o hi e⟩
theorem ExtB.alloc {m : Nat} {H H' : AHeap} {o : AObj} (h : ExtB m H H') : ExtB m H (H'.alloc o) := h.trans (.of (AHeap.Ext.refl _).alloc)
theorem ExtB.bump {m k : Nat} {H H' : AHeap} (h : ExtB m H H') : ExtB m H (H'.bump k) := h.trans (.of (AHeap.Ext.refl _).bump)
section
variable {w : World} {F : Nat → Prop}
theorem enc_slice {s : Sh} {α : Type} {f : α → List AV} (he : ∀ cs x, s.Is w F cs x → ∃ a, s.enc x = f a) {cs : List Value} {x : (Sh.slice s).D} (h : (Sh.slice s).Is w F cs x) : ∃ l : List α, l.length ≤ maxLen ∧ (Sh.slice s).enc x = [.sl .no (l.map f)] := by
 obtain ⟨A, c, css, _, h1, h2, h3, _, h5⟩ := h
 have : ∀ (l : List s.D), (∀ x ∈ l, ∃ a, s.enc x = f a) → ∃ m : List α, m.length = l.length ∧ l.map s.enc = m.map f := by
  intro l
  induction l with
  | nil => intro _; exact ⟨[], rfl, rfl⟩
  | cons y l ih =>
   intro hl
   obtain ⟨a, ha⟩ := hl y List.mem_cons_self
   obtain ⟨m, hm, e⟩ := ih fun z hz => hl z (List.mem_cons_of_mem _ hz)
   exact ⟨a :: m, by simp [hm], by simp [ha, e]⟩
 obtain ⟨m, hm, e⟩ := this x fun y hy => by
  obtain ⟨i, hi, rfl⟩ := List.getElem_of_mem hy
  have hi2 : i < css.length := by rw [h3]; exact hi
  exact he css[i] _ (h5 i _ _ (List.getElem?_eq_getElem hi2) (List.getElem?_eq_getElem hi))
 refine ⟨m, by rw [hm]; exact Nat.le_trans h1 h2, ?_⟩
 show [AV.sl .no (List.map s.enc x)] = _
 rw [e]
theorem enc_ag {cs : List Value} {x : agSh.D} (h : agSh.Is w F cs x) : ∃ a : Ag, agSh.enc x = eAg a := by
 obtain ⟨n, ps, u⟩ := x
 obtain ⟨c1, c2, _, _, c3, c4, _, ⟨css, _, _, hl, _, _⟩, _⟩ := h
 match ps, hl with
 | [(s0, l0, h0, _), (s1, l1, h1, _), (s2, l2, h2, _)], _ => exact ⟨⟨n, s0, l0, h0, s1, l1, h1, s2, l2, h2⟩, rfl⟩
theorem enc_cel {cs : List Value} {x : celSh.D} (h : celSh.Is w F cs x) : ∃ c : Cel, celSh.enc x = eCel c := by
 obtain ⟨k, c, g, u⟩ := x
 obtain ⟨_, _, _, _, _, _, _, _, _, _, _, hg, _⟩ := h
 obtain ⟨a, ha⟩ := enc_ag hg
 refine ⟨⟨k, c, a⟩, ?_⟩
 show [AV.i k] ++ ([AV.i c] ++ (agSh.enc g ++ [])) = _
 rw [ha]; rfl
theorem enc_nod {cs : List Value} {x : nodSh.D} (h : nodSh.Is w F cs x) : ∃ n : Nod, nodSh.enc x = eNod .no n := by
 obtain ⟨d, ls, c, u⟩ := x
 obtain ⟨_, _, _, _, _, _, _, hls, _, _, _, hc, _⟩ := h
 obtain ⟨c, ec⟩ := enc_cel hc
 obtain ⟨l, _, el⟩ := enc_slice (s := .slice celSh) (f := fun l => [.sl .no (rC l)]) (fun cs x hx => by
  obtain ⟨m, _, e⟩ := enc_slice (f := eCel) (fun cs x hx => enc_cel hx) hx
  exact ⟨m, e⟩) hls
 refine ⟨⟨d, l, c⟩, ?_⟩
 show [AV.i d] ++ ((Sh.slice (.slice celSh)).enc ls ++ (celSh.enc _ ++ [])) = _
 rw [ec, el]; rfl
end
section
variable {W : World}
theorem arg_shp {cs : Array Value} {y : shpSh.D} (h : shpSh.Is W (· < W.heap.size) cs.toList y) : ∃ x : Shp, VR (Gh.ro (allRO W)) W (.agg (eShp x)) (.agg cs) :=
 ⟨⟨y.1, y.2.1⟩, arg_agg (by simp [shpSh, Sh.pos, Sh.size, i64Sh]) h⟩
theorem nod_pos : (Sh.slice nodSh).pos := by simp [nodSh, celSh, agSh, partSh, i64Sh, Sh.pos, Sh.size]
theorem arg_nods {v : Value} {y : (Sh.slice nodSh).D} (h : (Sh.slice nodSh).Is W (· < W.heap.size) [v] y) : ∃ l : List Nod, VR (Gh.ro (allRO W)) W (.sl .no (rN l)) v := by
 obtain ⟨l, _, e⟩ := enc_slice (f := eNod .no) (fun cs x hx => enc_nod hx) h
 exact ⟨l, arg_one nod_pos h e⟩
end
end Go.Proofs.Ytaapiigfmdhobaa
