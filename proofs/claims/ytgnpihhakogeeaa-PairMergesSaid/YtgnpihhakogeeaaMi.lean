/- Texts of the walk, joined: Ta Tb Tc Td Te Tf Ye Ym Av. -/
import Derived.Test.YtgnpihhakogeeaaMh
import Derived.Test.YtgnpihhakogeeaaMd
import Derived.Test.YtgnpihhakogeeaaMe
namespace Go.Proofs.Ytgnpihhakogeeaa
set_option linter.unusedSimpArgs false
set_option linter.unusedVariables false
open Go.RowKit
def ArA (H : AHeap) (id : Nat) (x : Shp) (l : List Nod) : Prop := ∃ tok nt most, H.get id = some (.cells (eArN x tok nt l most) 75)
theorem ArA.ext {H H' : AHeap} {id : Nat} {x : Shp} {l : List Nod} (h : ArA H id x l) (hx : AHeap.Ext H H') : ArA H' id x l := by
 obtain ⟨tok, nt, most, h⟩ := h
 exact ⟨tok, nt, most, hx.get _ _ h⟩
theorem ArO.ara {H : AHeap} {id tk : Nat} {x : Shp} {tok : Tok} {l : List Nod} {most : Int} (h : ArO H id tk x tok l most) : ArA H id x l := ⟨_, _, _, h.cell⟩
theorem len_sound {H : AHeap} {id : Nat} {x : Shp} {l : List Nod} (ha : ArA H id x l) (hx : 1 ≤ x.sizes.length) : Sound Try.prog 56 [.ptr id 0] H (PureE H (.i l.length)) := by
 obtain ⟨tok, nt, most, h⟩ := ha
 refine fn_soundQ hE cf56 (Nat.le_of_ble_eq_true rfl) fun Q hQr hQn => ?_
 ((try simp (disch := first | assumption | omega | (simp only [nx_alloc, nx_bump, nx_set] <;> omega) | fail) only [↓YA, YB, YC, YZ, YF, ↓reduceIte, Nat.reduceEqDiff, Nat.reduceAdd, Nat.reduceMul, Nat.reduceLeDiff, hQr, hQn, c56_0]); repeat' ((first | apply GdK_st | apply GdK_sf | apply CondK_s) <;> intro hd <;> (try simp only [hd]) <;> (try simp (disch := first | assumption | omega | (simp only [nx_alloc, nx_bump, nx_set] <;> omega) | fail) only [↓YA, YB, YC, YZ, YF, ↓reduceIte, Nat.reduceEqDiff, Nat.reduceAdd, Nat.reduceMul, Nat.reduceLeDiff, hQr, hQn, hd, c56_0])))
 refine CallK.use (there_yes h hx) ?_
 rintro r H1 ⟨rfl, hx1⟩
 have hc := hx1.get _ _ h
 unfold eArN eAr at hc
 ((try simp (disch := first | assumption | omega | (simp only [nx_alloc, nx_bump, nx_set] <;> omega) | fail) only [↓YA, YB, YC, YZ, YF, ↓reduceIte, Nat.reduceEqDiff, Nat.reduceAdd, Nat.reduceMul, Nat.reduceLeDiff, hQr, hQn, c56_0, hc, List.length_map]); repeat' ((first | apply GdK_st | apply GdK_sf | apply CondK_s) <;> intro hd <;> (try simp only [hd]) <;> (try simp (disch := first | assumption | omega | (simp only [nx_alloc, nx_bump, nx_set] <;> omega) | fail) only [↓YA, YB, YC, YZ, YF, ↓reduceIte, Nat.reduceEqDiff, Nat.reduceAdd, Nat.reduceMul, Nat.reduceLeDiff, hQr, hQn, hd, c56_0, hc, List.length_map])))
 exact fin_keep ⟨rfl, hx1⟩
theorem top_sound {H : AHeap} {id : Nat} {x : Shp} {l : List Nod} (ha : ArA H id x l) (hx : 1 ≤ x.sizes.length) (hl : l.length ≤ 1000000000) : Sound Try.prog 49 [.ptr id 0] H (PureE H (.i ((l.length : Int) - 1))) := by
 refine fn_soundQ hE cf49 (Nat.le_of_ble_eq_true rfl) fun Q hQr hQn => ?_
 ((try simp (disch := first | assumption | omega | (simp only [nx_alloc, nx_bump, nx_set] <;> omega) | fail) only [↓YA, YB, YC, YZ, YF, ↓reduceIte, Nat.reduceEqDiff, Nat.reduceAdd, Nat.reduceMul, Nat.reduceLeDiff, hQr, hQn, c49_0]); repeat' ((first | apply GdK_st | apply GdK_sf | apply CondK_s) <;> intro hd <;> (try simp only [hd]) <;> (try simp (disch := first | assumption | omega | (simp only [nx_alloc, nx_bump, nx_set] <;> omega) | fail) only [↓YA, YB, YC, YZ, YF, ↓reduceIte, Nat.reduceEqDiff, Nat.reduceAdd, Nat.reduceMul, Nat.reduceLeDiff, hQr, hQn, hd, c49_0])))
 refine CallK.use (len_sound ha hx) ?_
 rintro r H1 ⟨rfl, hx1⟩
 ((try simp (disch := first | assumption | omega | (simp only [nx_alloc, nx_bump, nx_set] <;> omega) | fail) only [↓YA, YB, YC, YZ, YF, ↓reduceIte, Nat.reduceEqDiff, Nat.reduceAdd, Nat.reduceMul, Nat.reduceLeDiff, hQr, hQn]); repeat' ((first | apply GdK_st | apply GdK_sf | apply CondK_s) <;> intro hd <;> (try simp only [hd]) <;> (try simp (disch := first | assumption | omega | (simp only [nx_alloc, nx_bump, nx_set] <;> omega) | fail) only [↓YA, YB, YC, YZ, YF, ↓reduceIte, Nat.reduceEqDiff, Nat.reduceAdd, Nat.reduceMul, Nat.reduceLeDiff, hQr, hQn, hd])))
 exact fin_keep ⟨rfl, hx1⟩
def nodAt (l : List Nod) (i : Int) : Nod := if 0 ≤ i then (l[i.toNat]?).getD ⟨0, [], ⟨0, 0, ⟨0, 0, 0, 0, 0, 0, 0, 0, 0, 0⟩⟩⟩ else ⟨0, [], ⟨0, 0, ⟨0, 0, 0, 0, 0, 0, 0, 0, 0, 0⟩⟩⟩
def inB (l : List Nod) (i : Int) : Bool := decide (0 ≤ i) && decide (i < l.length)
theorem anode_sound {H : AHeap} {id : Nat} {x : Shp} {l : List Nod} (i : Int) (ha : ArA H id x l) (hx : 1 ≤ x.sizes.length) (hn : ∀ n ∈ l, smallN n) : Sound Try.prog 48 [.ptr id 0, .i i] H fun r H' => AHeap.Ext H H' ∧ ∃ t, r = .tup [.agg (eNod t (nodAt l i)), .i (bif inB l i then 0 else 9)] := by
 obtain ⟨tok, nt, most, h⟩ := ha
 refine fn_soundQ hE cf48 (Nat.le_of_ble_eq_true rfl) fun Q hQr hQn => ?_
 have hid := AHeap.lt h
 have hx0 : ∀ o, AHeap.Ext H (H.alloc o) := fun o => (AHeap.Ext.refl H).alloc
 ((try simp (disch := first | assumption | omega | (simp only [nx_alloc, nx_bump, nx_set] <;> omega) | fail) only [↓YA, YB, YC, YZ, YF, ↓reduceIte, Nat.reduceEqDiff, Nat.reduceAdd, Nat.reduceMul, Nat.reduceLeDiff, hQr, hQn, c48_0]); repeat' ((first | apply GdK_st | apply GdK_sf | apply CondK_s) <;> intro hd <;> (try simp only [hd]) <;> (try simp (disch := first | assumption | omega | (simp only [nx_alloc, nx_bump, nx_set] <;> omega) | fail) only [↓YA, YB, YC, YZ, YF, ↓reduceIte, Nat.reduceEqDiff, Nat.reduceAdd, Nat.reduceMul, Nat.reduceLeDiff, hQr, hQn, hd, c48_0])))
 refine CallK.use (there_yes ((hx0 _).get _ _ h) hx) ?_
 rintro r H1 ⟨rfl, hx1⟩
 have hx01 := (hx0 _).trans hx1
 have hc := hx01.get _ _ h
 have hz := hx1.get _ _ (AHeap.get_alloc_self (H := H))
 have hzl := AHeap.lt hz
 unfold eArN eAr at hc
 by_cases hi : 0 ≤ i ∧ i < l.length
 ·obtain ⟨d, rfl⟩ : ∃ d : Nat, i = d := ⟨i.toNat, by omega⟩
  have hd : d < l.length := by omega
  have hr := rN_get hd
  have h0 : (0 : Int) ≤ d := by omega
  have d1 : decide ((d : Int) < 0) = false := by simp
  have d2 : decide ((d : Int) ≥ (l.length : Int)) = false := by simp; omega
  have hT1 : nodAt l d = l[d] := by unfold nodAt; simp [hd]
  have hT2 : inB l d = true := by unfold inB; simp; omega
  rw [hT1, hT2] at hQr hQn
  unfold eNod at hr
  ((try simp (disch := first | assumption | omega | (simp only [nx_alloc, nx_bump, nx_set] <;> omega) | fail) only [↓YA, YB, YC, YZ, YF, ↓reduceIte, Nat.reduceEqDiff, Nat.reduceAdd, Nat.reduceMul, Nat.reduceLeDiff, hQr, hQn, c48_0, hc, hz, d1, d2, h0, hr, List.length_map]); repeat' ((first | apply GdK_st | apply GdK_sf | apply CondK_s) <;> intro hd <;> (try simp only [hd]) <;> (try simp (disch := first | assumption | omega | (simp only [nx_alloc, nx_bump, nx_set] <;> omega) | fail) only [↓YA, YB, YC, YZ, YF, ↓reduceIte, Nat.reduceEqDiff, Nat.reduceAdd, Nat.reduceMul, Nat.reduceLeDiff, hQr, hQn, hd, c48_0, hc, hz, d1, d2, h0, hr, List.length_map])))
  have hs := hn _ (List.getElem_mem hd)
  refine CallK.use (nclone_sound .no l[d] _ ⟨hs.1, hs.2.2⟩) ?_
  rintro r H2 ⟨rfl, k2, rfl⟩
  ((try simp (disch := first | assumption | omega | (simp only [nx_alloc, nx_bump, nx_set] <;> omega) | fail) only [↓YA, YB, YC, YZ, YF, ↓reduceIte, Nat.reduceEqDiff, Nat.reduceAdd, Nat.reduceMul, Nat.reduceLeDiff, hQr, hQn, eNod, hz]); repeat' ((first | apply GdK_st | apply GdK_sf | apply CondK_s) <;> intro hd <;> (try simp only [hd]) <;> (try simp (disch := first | assumption | omega | (simp only [nx_alloc, nx_bump, nx_set] <;> omega) | fail) only [↓YA, YB, YC, YZ, YF, ↓reduceIte, Nat.reduceEqDiff, Nat.reduceAdd, Nat.reduceMul, Nat.reduceLeDiff, hQr, hQn, hd, eNod, hz])))
  exact fin_keep ⟨(hx01.bump).set (Nat.le_refl _), _, rfl⟩
 ·have hT1 : nodAt l i = ⟨0, [], ⟨0, 0, ⟨0, 0, 0, 0, 0, 0, 0, 0, 0, 0⟩⟩⟩ := by
   unfold nodAt
   split
   ·rw [List.getElem?_eq_none (by omega)]; rfl
   ·rfl
  have hT2 : inB l i = false := by unfold inB; simp; omega
  rw [hT1, hT2] at hQr hQn
  ((try simp (disch := first | assumption | omega | (simp only [nx_alloc, nx_bump, nx_set] <;> omega) | fail) only [↓YA, YB, YC, YZ, YF, ↓reduceIte, Nat.reduceEqDiff, Nat.reduceAdd, Nat.reduceMul, Nat.reduceLeDiff, hQr, hQn, c48_0, hc, hz, List.length_map]); repeat' ((first | apply GdK_st | apply GdK_sf | apply CondK_s) <;> intro hd <;> (try simp only [hd]) <;> (try simp (disch := first | assumption | omega | (simp only [nx_alloc, nx_bump, nx_set] <;> omega) | fail) only [↓YA, YB, YC, YZ, YF, ↓reduceIte, Nat.reduceEqDiff, Nat.reduceAdd, Nat.reduceMul, Nat.reduceLeDiff, hQr, hQn, hd, c48_0, hc, hz, List.length_map])))
  all_goals first
   | (exact fin_keep ⟨hx01.set (Nat.le_refl _), .full, rfl⟩)
   | (exfalso; grind)
set_option maxHeartbeats 1000000 in
theorem nodes_sound {H : AHeap} {id : Nat} {x : Shp} {l : List Nod} (ha : ArA H id x l) (hx : 1 ≤ x.sizes.length) (hl : l.length ≤ 1000000) (hn : ∀ n ∈ l, smallN n) : Sound Try.prog 35 [.ptr id 0] H (Pure H (.sl .no (rN l))) := by
 obtain ⟨tok, nt, most, h⟩ := ha
 refine fn_soundQ hE cf35 (Nat.le_of_ble_eq_true rfl) fun Q hQr hQn => ?_
 ((try simp (disch := first | assumption | omega | (simp only [nx_alloc, nx_bump, nx_set] <;> omega) | fail) only [↓YA, YB, YC, YZ, YF, ↓reduceIte, Nat.reduceEqDiff, Nat.reduceAdd, Nat.reduceMul, Nat.reduceLeDiff, hQr, hQn, c35_0]); repeat' ((first | apply GdK_st | apply GdK_sf | apply CondK_s) <;> intro hd <;> (try simp only [hd]) <;> (try simp (disch := first | assumption | omega | (simp only [nx_alloc, nx_bump, nx_set] <;> omega) | fail) only [↓YA, YB, YC, YZ, YF, ↓reduceIte, Nat.reduceEqDiff, Nat.reduceAdd, Nat.reduceMul, Nat.reduceLeDiff, hQr, hQn, hd, c35_0])))
 refine CallK.use (there_yes h hx) ?_
 rintro r H1 ⟨rfl, hx1⟩
 have hc := hx1.get _ _ h
 have hx1n := hx1.next
 unfold eArN eAr at hc
 ((try simp (disch := first | assumption | omega | (simp only [nx_alloc, nx_bump, nx_set] <;> omega) | fail) only [↓YA, YB, YC, YZ, YF, ↓reduceIte, Nat.reduceEqDiff, Nat.reduceAdd, Nat.reduceMul, Nat.reduceLeDiff, hQr, hQn, c35_0, hc, List.length_map]); repeat' ((first | apply GdK_st | apply GdK_sf | apply CondK_s) <;> intro hd <;> (try simp only [hd]) <;> (try simp (disch := first | assumption | omega | (simp only [nx_alloc, nx_bump, nx_set] <;> omega) | fail) only [↓YA, YB, YC, YZ, YF, ↓reduceIte, Nat.reduceEqDiff, Nat.reduceAdd, Nat.reduceMul, Nat.reduceLeDiff, hQr, hQn, hd, c35_0, hc, List.length_map])))
 refine AW_forI (N := l.length) (fun k F G => Fr.get F 14 = .i (k : Int) ∧ Fr.get F 13 = .i (l.length : Int) ∧ Fr.get F 12 = .sl nt (rN l) ∧ Fr.get F 3 = .sl (.own H1.next) (rN (l.take k)) ∧ AHeap.Ext H G ∧ G.get H1.next = some (.tok k 45 14)) (by unfold maxLen; omega) (fun k F G h => ⟨h.1, h.2.1⟩)
  (F1 := [(3, .sl (.own H1.next) []), (14, .i ((0 : Nat) : Int)), (13, .i (l.length : Int)), (12, .sl nt (rN l))]) (H1 := H1.alloc (.tok 0 45 14)) ?_ ?_ ?_ ?_
 ·exact (GStep.fr (F' := [(14, .i ((0 : Nat) : Int)), (13, .i (l.length : Int)), (12, .sl nt (rN l)), (3, .sl .full [])]) (by simp [Fr.get])).trans ((GStep.tok 3 45 14 rfl).trans (GStep.fr (by simp [Fr.get, Fr.put])))
 ·exact ⟨rfl, rfl, rfl, rfl, hx1.alloc, AHeap.get_alloc_self (H := H1)⟩
 ·rintro k F G hk ⟨f14, f13, f12, f3, hxG, hg⟩
  have hr := rN_get hk
  have h0 : (0 : Int) ≤ k := by omega
  have hlk : (rN (l.take k)).length = k := by simp; omega
  have hgl := AHeap.lt hg
  have hgn := hxG.next
  have hs := hn _ (List.getElem_mem hk)
  unfold eNod at hr
  ((try simp (disch := first | assumption | omega | (simp only [nx_alloc, nx_bump, nx_set] <;> omega) | fail) only [↓YA, YB, YC, YZ, YF, ↓reduceIte, Nat.reduceEqDiff, Nat.reduceAdd, Nat.reduceMul, Nat.reduceLeDiff, hQr, hQn, c35_0, f14, f12, f3, hr, h0]); repeat' ((first | apply GdK_st | apply GdK_sf | apply CondK_s) <;> intro hd <;> (try simp only [hd]) <;> (try simp (disch := first | assumption | omega | (simp only [nx_alloc, nx_bump, nx_set] <;> omega) | fail) only [↓YA, YB, YC, YZ, YF, ↓reduceIte, Nat.reduceEqDiff, Nat.reduceAdd, Nat.reduceMul, Nat.reduceLeDiff, hQr, hQn, hd, c35_0, f14, f12, f3, hr, h0])))
  refine CallK.use (nclone_sound .no l[k] _ ⟨hs.1, hs.2.2⟩) ?_
  rintro r H2 ⟨rfl, k2, rfl⟩
  have ha1 := allLen_rN (l.take k)
  have hb1 : k + 1 ≤ maxLen := by unfold maxLen; omega
  have hb2 : (k + 1) * 128 ≤ 140737488355328 := by omega
  have ho1 : allLen 14 [eNod .no l[k]] = true := rfl
  have hsn : rN (l.take k) ++ [eNod .no l[k]] = rN (l.take (k + 1)) := by rw [rN_snoc, List.take_succ_eq_append_getElem hk]
  unfold eNod at ho1
  conv at hsn => lhs; rhs; unfold eNod
  ((try simp (disch := first | assumption | omega | (simp only [nx_alloc, nx_bump, nx_set] <;> omega) | fail) only [↓YA, YB, YC, YZ, YF, ↓reduceIte, Nat.reduceEqDiff, Nat.reduceAdd, Nat.reduceMul, Nat.reduceLeDiff, hQr, hQn, eNod, f14, f13, f12, f3, hg, hlk, ha1, hb1, hb2, ho1]); repeat' ((first | apply GdK_st | apply GdK_sf | apply CondK_s) <;> intro hd <;> (try simp only [hd]) <;> (try simp (disch := first | assumption | omega | (simp only [nx_alloc, nx_bump, nx_set] <;> omega) | fail) only [↓YA, YB, YC, YZ, YF, ↓reduceIte, Nat.reduceEqDiff, Nat.reduceAdd, Nat.reduceMul, Nat.reduceLeDiff, hQr, hQn, hd, eNod, f14, f13, f12, f3, hg, hlk, ha1, hb1, hb2, ho1])))
  rw [hsn]
  refine ⟨rfl, ?_⟩
  (repeat (first | assumption | exact AHeap.Ext.refl _ | refine AHeap.Ext.set ?_ (by first | assumption | omega | (simp only [nx_alloc, nx_bump, nx_set]; omega)) | refine AHeap.Ext.alloc ?_ | refine AHeap.Ext.bump ?_))
 ·rintro F G ⟨f14, f13, f12, f3, hxG, hg⟩
  rw [List.take_length] at f3
  ((try simp (disch := first | assumption | omega | (simp only [nx_alloc, nx_bump, nx_set] <;> omega) | fail) only [↓YA, YB, YC, YZ, YF, ↓reduceIte, Nat.reduceEqDiff, Nat.reduceAdd, Nat.reduceMul, Nat.reduceLeDiff, hQr, hQn, c35_0, f3]); repeat' ((first | apply GdK_st | apply GdK_sf | apply CondK_s) <;> intro hd <;> (try simp only [hd]) <;> (try simp (disch := first | assumption | omega | (simp only [nx_alloc, nx_bump, nx_set] <;> omega) | fail) only [↓YA, YB, YC, YZ, YF, ↓reduceIte, Nat.reduceEqDiff, Nat.reduceAdd, Nat.reduceMul, Nat.reduceLeDiff, hQr, hQn, hd, c35_0, f3])))
  exact fin_pure hxG rfl
theorem contains_step {l : List Int} {v : Int} {k : Nat} (h : k < l.length) : (l.drop k).contains v = (v == l[k] || (l.drop (k + 1)).contains v) := by
 rw [List.drop_eq_getElem_cons h, List.contains_cons]
set_option maxHeartbeats 1000000 in
theorem index_sound {H : AHeap} {id cap E : Nat} {ms : List Int} (n : Nat) (v : Int) (h : H.get id = some (.cells (ms.map AV.i) E)) (hn : n ≤ ms.length) (hb : n ≤ 1000000000) :
  Sound Try.prog 85 [.arr id 0 n cap, .i v] H fun r H' => AHeap.Ext H H' ∧ ∃ i : Int, r = .i i ∧ decide (i < 0) = !((ms.take n).contains v) := by
 refine fn_soundQ hE cf85 (Nat.le_of_ble_eq_true rfl) fun Q hQr hQn => ?_
 ((try simp (disch := first | assumption | omega | (simp only [nx_alloc, nx_bump, nx_set] <;> omega) | fail) only [↓YA, YB, YC, YZ, YF, ↓reduceIte, Nat.reduceEqDiff, Nat.reduceAdd, Nat.reduceMul, Nat.reduceLeDiff, hQr, hQn, c85_0]); repeat' ((first | apply GdK_st | apply GdK_sf | apply CondK_s) <;> intro hd <;> (try simp only [hd]) <;> (try simp (disch := first | assumption | omega | (simp only [nx_alloc, nx_bump, nx_set] <;> omega) | fail) only [↓YA, YB, YC, YZ, YF, ↓reduceIte, Nat.reduceEqDiff, Nat.reduceAdd, Nat.reduceMul, Nat.reduceLeDiff, hQr, hQn, hd, c85_0])))
 have hln : (ms.take n).length = n := by simp; omega
 refine AW_forI (N := n) (fun k F G => Fr.get F 8 = .i (k : Int) ∧ Fr.get F 7 = .i (n : Int) ∧ Fr.get F 0 = .arr id 0 n cap ∧ Fr.get F 1 = .i v ∧ G = H ∧ (ms.take n).contains v = ((ms.take n).drop k).contains v) (by unfold maxLen; omega) (fun k F G h => ⟨h.1, h.2.1⟩) (GStep.refl _ _) ?_ ?_ ?_
 ·exact ⟨rfl, rfl, rfl, rfl, rfl, rfl⟩
 ·rintro k F G hk ⟨f8, f7, f0, f1, hGH, ht⟩
  have hk2 : k < (ms.take n).length := by omega
  rw [contains_step hk2] at ht
  have hget : (ms.take n)[k] = ms[k]'(by omega) := by simp
  rw [hget] at ht
  have h0 : (0 : Int) ≤ k := by omega
  have h1 : (k : Int) < n := by omega
  have hr : (ms.map AV.i)[k]? = some (AV.i (ms[k]'(by omega))) := by simp [show k < ms.length by omega]
  rw [hGH]
  ((try simp (disch := first | assumption | omega | (simp only [nx_alloc, nx_bump, nx_set] <;> omega) | fail) only [↓YA, YB, YC, YZ, YF, ↓reduceIte, Nat.reduceEqDiff, Nat.reduceAdd, Nat.reduceMul, Nat.reduceLeDiff, hQr, hQn, c85_0, f8, f7, f0, f1, h, h0, h1, hr]); repeat' ((first | apply GdK_st | apply GdK_sf | apply CondK_s) <;> intro hd <;> (try simp only [hd]) <;> (try simp (disch := first | assumption | omega | (simp only [nx_alloc, nx_bump, nx_set] <;> omega) | fail) only [↓YA, YB, YC, YZ, YF, ↓reduceIte, Nat.reduceEqDiff, Nat.reduceAdd, Nat.reduceMul, Nat.reduceLeDiff, hQr, hQn, hd, c85_0, f8, f7, f0, f1, h, h0, h1, hr])))
  ·have hc : (ms.take n).contains v = true := by rw [ht, hd]; rfl
   ((try simp (disch := first | assumption | omega | (simp only [nx_alloc, nx_bump, nx_set] <;> omega) | fail) only [↓YA, YB, YC, YZ, YF, ↓reduceIte, Nat.reduceEqDiff, Nat.reduceAdd, Nat.reduceMul, Nat.reduceLeDiff, hQr, hQn, c85_0]); repeat' ((first | apply GdK_st | apply GdK_sf | apply CondK_s) <;> intro hd <;> (try simp only [hd]) <;> (try simp (disch := first | assumption | omega | (simp only [nx_alloc, nx_bump, nx_set] <;> omega) | fail) only [↓YA, YB, YC, YZ, YF, ↓reduceIte, Nat.reduceEqDiff, Nat.reduceAdd, Nat.reduceMul, Nat.reduceLeDiff, hQr, hQn, hd, c85_0])))
   refine fin_keep ⟨AHeap.Ext.refl _, _, rfl, ?_⟩
   rw [hc]; simp
  ·rw [hd, Bool.false_or] at ht
   exact ht
 ·rintro F G ⟨f8, f7, f0, f1, hGH, ht⟩
  rw [hGH]
  rw [List.drop_of_length_le (by omega)] at ht
  ((try simp (disch := first | assumption | omega | (simp only [nx_alloc, nx_bump, nx_set] <;> omega) | fail) only [↓YA, YB, YC, YZ, YF, ↓reduceIte, Nat.reduceEqDiff, Nat.reduceAdd, Nat.reduceMul, Nat.reduceLeDiff, hQr, hQn, c85_0]); repeat' ((first | apply GdK_st | apply GdK_sf | apply CondK_s) <;> intro hd <;> (try simp only [hd]) <;> (try simp (disch := first | assumption | omega | (simp only [nx_alloc, nx_bump, nx_set] <;> omega) | fail) only [↓YA, YB, YC, YZ, YF, ↓reduceIte, Nat.reduceEqDiff, Nat.reduceAdd, Nat.reduceMul, Nat.reduceLeDiff, hQr, hQn, hd, c85_0])))
  refine fin_keep ⟨AHeap.Ext.refl _, _, rfl, ?_⟩
  rw [ht]; rfl
def cnt (n : Nat) (chs : List Int) : List Int := (List.range n).map fun (i : Nat) => (chs.count (i : Int) : Int)
theorem cnt_len (n : Nat) (chs : List Int) : (cnt n chs).length = n := by simp [cnt]
theorem cnt_get {n : Nat} {chs : List Int} {k : Nat} (h : k < n) : (cnt n chs)[k]'(by rw [cnt_len]; exact h) = (chs.count (k : Int) : Int) := by simp [cnt]
theorem cnt_nil (n : Nat) : cnt n [] = List.replicate n 0 := by
 refine List.ext_getElem (by simp [cnt]) fun i h1 h2 => ?_
 simp [cnt]
theorem cnt_snoc {n : Nat} {chs : List Int} {k : Nat} (h : k < n) : (cnt n chs).set k ((chs.count (k : Int) : Int) + 1) = cnt n (chs ++ [(k : Int)]) := by
 refine List.ext_getElem (by simp [cnt]) fun i h1 h2 => ?_
 simp only [cnt, List.length_set, List.length_map, List.length_range] at h1
 rw [List.getElem_set]
 simp only [cnt, List.getElem_map, List.getElem_range, List.count_append]
 by_cases e : k = i
 ·subst e; simp
 ·rw [if_neg e]
  have : List.count (i : Int) [(k : Int)] = 0 := by
   rw [List.count_eq_zero]; simp; omega
  omega
theorem set_map_i {ms : List Int} {k : Nat} (v : Int) (h : k < ms.length) : (ms.map AV.i).take k ++ [AV.i v] ++ (ms.map AV.i).drop (k + 1) = (ms.set k v).map AV.i := by
 rw [List.set_eq_take_append_cons_drop, if_pos h]
 simp
theorem rep_flat : ∀ n : Nat, (List.replicate n [AV.sc (.int .i64 0)]).flatten = (List.replicate n (0 : Int)).map AV.i
 | 0 => rfl
 | n + 1 => by rw [List.replicate_succ, List.flatten_cons, rep_flat n, List.replicate_succ]; rfl
def kids (x : Shp) (l : List Nod) : List Int := l.flatMap fun n => if lastB x n.dim = true then [] else (each n).map Cel.child
theorem kids_snoc {x : Shp} {l : List Nod} {k : Nat} (h : k < l.length) : kids x (l.take (k + 1)) = kids x (l.take k) ++ (if lastB x l[k].dim = true then [] else (each l[k]).map Cel.child) := by
 unfold kids
 rw [List.take_succ_eq_append_getElem h, List.flatMap_append]
 simp
theorem kids_len (x : Shp) : ∀ (l : List Nod), (∀ n ∈ l, (each n).length ≤ 1000000) → (kids x l).length ≤ l.length * 1000000
 | [], _ => by simp [kids]
 | n :: l, h => by
  have h1 := h n List.mem_cons_self
  have h2 := kids_len x l fun m hm => h m (List.mem_cons_of_mem _ hm)
  unfold kids at h2 ⊢
  rw [List.flatMap_cons, List.length_append, List.length_cons]
  split <;> simp only [List.length_nil, List.length_map] <;> omega
def wholeB (x : Shp) (l : List Nod) : Bool := if l.length = 0 then true else (nodAt l ((l.length : Int) - 1)).dim == 0 && !(((cnt l.length (kids x l)).take (l.length - 1)).contains 0)
theorem each_len {n : Nod} (h : smallN n) : (each n).length ≤ 1000000 := by
 have := h.2.1
 unfold each; rw [List.length_append]; simp only [List.length_cons, List.length_nil]; omega
set_option maxHeartbeats 4000000 in
theorem whole_sound {H : AHeap} {id : Nat} {x : Shp} {l : List Nod} (ha : ArA H id x l) (hx : 1 ≤ x.sizes.length) (hx2 : x.sizes.length ≤ 1000) (hl : l.length ≤ 200000) (hn : ∀ n ∈ l, smallN n) (hch : ∀ n ∈ l, lastB x n.dim = false → ∀ c ∈ each n, 0 ≤ c.child ∧ c.child < l.length) : Sound Try.prog 55 [.ptr id 0] H (Pure H (.b (wholeB x l))) := by
 have ha0 := ha
 obtain ⟨tok, nt, most, h⟩ := ha
 refine fn_soundQ hE cf55 (Nat.le_of_ble_eq_true rfl) fun Q hQr hQn => ?_
 have hid := AHeap.lt h
 ((try simp (disch := first | assumption | omega | (simp only [nx_alloc, nx_bump, nx_set] <;> omega) | fail) only [↓YA, YB, YC, YZ, YF, ↓reduceIte, Nat.reduceEqDiff, Nat.reduceAdd, Nat.reduceMul, Nat.reduceLeDiff, hQr, hQn, c55_0]); repeat' ((first | apply GdK_st | apply GdK_sf | apply CondK_s) <;> intro hd <;> (try simp only [hd]) <;> (try simp (disch := first | assumption | omega | (simp only [nx_alloc, nx_bump, nx_set] <;> omega) | fail) only [↓YA, YB, YC, YZ, YF, ↓reduceIte, Nat.reduceEqDiff, Nat.reduceAdd, Nat.reduceMul, Nat.reduceLeDiff, hQr, hQn, hd, c55_0])))
 refine CallK.use (there_yes h hx) ?_
 rintro r H1 ⟨rfl, hx1⟩
 have hc := hx1.get _ _ h
 have hx1n := hx1.next
 unfold eArN eAr at hc
 by_cases hz : l.length = 0
 ·have d0 : ((l.length : Int) == 0) = true := by simp [hz]
  have hT : wholeB x l = true := by unfold wholeB; rw [if_pos hz]
  ((try simp (disch := first | assumption | omega | (simp only [nx_alloc, nx_bump, nx_set] <;> omega) | fail) only [↓YA, YB, YC, YZ, YF, ↓reduceIte, Nat.reduceEqDiff, Nat.reduceAdd, Nat.reduceMul, Nat.reduceLeDiff, hQr, hQn, c55_0, hc, d0, List.length_map]); repeat' ((first | apply GdK_st | apply GdK_sf | apply CondK_s) <;> intro hd <;> (try simp only [hd]) <;> (try simp (disch := first | assumption | omega | (simp only [nx_alloc, nx_bump, nx_set] <;> omega) | fail) only [↓YA, YB, YC, YZ, YF, ↓reduceIte, Nat.reduceEqDiff, Nat.reduceAdd, Nat.reduceMul, Nat.reduceLeDiff, hQr, hQn, hd, c55_0, hc, d0, List.length_map])))
  rw [hT]
  exact fin_b hx1 rfl
 ·have d0 : ((l.length : Int) == 0) = false := by rw [beq_eq_false_iff_ne]; omega
  have m1 : (0 : Int) ≤ l.length := by omega
  have m2 : (l.length : Int) ≤ l.length := by omega
  have m3 : l.length ≤ maxLen := by unfold maxLen; omega
  have m4 : l.length * 8 ≤ 140737488355328 := by omega
  have m5 : ((l.length : Int) = 0) = False := eq_false (by omega)
  ((try simp (disch := first | assumption | omega | (simp only [nx_alloc, nx_bump, nx_set] <;> omega) | fail) only [↓YA, YB, YC, YZ, YF, ↓reduceIte, Nat.reduceEqDiff, Nat.reduceAdd, Nat.reduceMul, Nat.reduceLeDiff, hQr, hQn, c55_0, hc, d0, m1, m2, m3, m4, m5, List.length_map]); repeat' ((first | apply GdK_st | apply GdK_sf | apply CondK_s) <;> intro hd <;> (try simp only [hd]) <;> (try simp (disch := first | assumption | omega | (simp only [nx_alloc, nx_bump, nx_set] <;> omega) | fail) only [↓YA, YB, YC, YZ, YF, ↓reduceIte, Nat.reduceEqDiff, Nat.reduceAdd, Nat.reduceMul, Nat.reduceLeDiff, hQr, hQn, hd, c55_0, hc, d0, m1, m2, m3, m4, m5, List.length_map])))
  have hrep : (List.replicate l.length [AV.sc (.int .i64 0)]).flatten = (cnt l.length (kids x (l.take 0))).map AV.i := by
   have : kids x (l.take 0) = [] := by simp [kids]
   rw [this, cnt_nil, rep_flat]
  rw [hrep]
  refine AW_forI (N := l.length) (fun k F G => Fr.get F 28 = .i (k : Int) ∧ Fr.get F 27 = .i (l.length : Int) ∧ Fr.get F 26 = .sl nt (rN l) ∧ Fr.get F 3 = .arr H1.next 0 l.length l.length ∧ Fr.get F 0 = .ptr id 0 ∧ AHeap.Ext H G ∧ G.get H1.next = some (.cells ((cnt l.length (kids x (l.take k))).map AV.i) 3)) m3 (fun k F G h => ⟨h.1, h.2.1⟩) (GStep.refl _ _) ?_ ?_ ?_
  ·exact ⟨rfl, rfl, rfl, rfl, rfl, hx1.alloc, AHeap.get_alloc_self (H := H1)⟩
  ·rintro k F G hk ⟨f28, f27, f26, f3, f0, hxG, hg⟩
   have hr := rN_get hk
   have h0 : (0 : Int) ≤ k := by omega
   have hgl := AHeap.lt hg
   have hxn := hxG.next
   have hs := hn _ (List.getElem_mem hk)
   have hcG := hxG.get _ _ h
   have hcl := AHeap.lt hcG
   have hr0 := hr
   unfold eNod at hr
   unfold eArN eAr at hcG
   ((try simp (disch := first | assumption | omega | (simp only [nx_alloc, nx_bump, nx_set] <;> omega) | fail) only [↓YA, YB, YC, YZ, YF, ↓reduceIte, Nat.reduceEqDiff, Nat.reduceAdd, Nat.reduceMul, Nat.reduceLeDiff, hQr, hQn, c55_0, f28, f26, f3, f0, hr, h0, hcG]); repeat' ((first | apply GdK_st | apply GdK_sf | apply CondK_s) <;> intro hd <;> (try simp only [hd]) <;> (try simp (disch := first | assumption | omega | (simp only [nx_alloc, nx_bump, nx_set] <;> omega) | fail) only [↓YA, YB, YC, YZ, YF, ↓reduceIte, Nat.reduceEqDiff, Nat.reduceAdd, Nat.reduceMul, Nat.reduceLeDiff, hQr, hQn, hd, c55_0, f28, f26, f3, f0, hr, h0, hcG])))
   refine CallK.use (last_sound tok x l[k].dim _ (by omega)) ?_
   rintro r H2 ⟨rfl, k2, rfl⟩
   cases hb : lastB x l[k].dim with
   | true =>
    have hkk : kids x (l.take (k + 1)) = kids x (l.take k) := by rw [kids_snoc hk, if_pos hb, List.append_nil]
    ((try simp (disch := first | assumption | omega | (simp only [nx_alloc, nx_bump, nx_set] <;> omega) | fail) only [↓YA, YB, YC, YZ, YF, ↓reduceIte, Nat.reduceEqDiff, Nat.reduceAdd, Nat.reduceMul, Nat.reduceLeDiff, hQr, hQn, c55_0, hb, f28, f27, f26, f3, f0, hg, hkk]); repeat' ((first | apply GdK_st | apply GdK_sf | apply CondK_s) <;> intro hd <;> (try simp only [hd]) <;> (try simp (disch := first | assumption | omega | (simp only [nx_alloc, nx_bump, nx_set] <;> omega) | fail) only [↓YA, YB, YC, YZ, YF, ↓reduceIte, Nat.reduceEqDiff, Nat.reduceAdd, Nat.reduceMul, Nat.reduceLeDiff, hQr, hQn, hd, c55_0, hb, f28, f27, f26, f3, f0, hg, hkk])))
    (repeat (first | assumption | exact AHeap.Ext.refl _ | refine AHeap.Ext.set ?_ (by first | assumption | omega | (simp only [nx_alloc, nx_bump, nx_set]; omega)) | refine AHeap.Ext.alloc ?_ | refine AHeap.Ext.bump ?_))
   | false =>
    have hkk : kids x (l.take (k + 1)) = kids x (l.take k) ++ (each l[k]).map Cel.child := by rw [kids_snoc hk, hb, if_neg (by simp)]
    have hchk := hch _ (List.getElem_mem hk) hb
    have hel := each_len hs
    ((try simp (disch := first | assumption | omega | (simp only [nx_alloc, nx_bump, nx_set] <;> omega) | fail) only [↓YA, YB, YC, YZ, YF, ↓reduceIte, Nat.reduceEqDiff, Nat.reduceAdd, Nat.reduceMul, Nat.reduceLeDiff, hQr, hQn, c55_0, hb]); repeat' ((first | apply GdK_st | apply GdK_sf | apply CondK_s) <;> intro hd <;> (try simp only [hd]) <;> (try simp (disch := first | assumption | omega | (simp only [nx_alloc, nx_bump, nx_set] <;> omega) | fail) only [↓YA, YB, YC, YZ, YF, ↓reduceIte, Nat.reduceEqDiff, Nat.reduceAdd, Nat.reduceMul, Nat.reduceLeDiff, hQr, hQn, hd, c55_0, hb])))
    refine CallK.use (each_sound .no l[k] _ hs.1 (by have := hs.2.1; omega)) ?_
    rintro r H2 ⟨rfl, k3, rfl⟩
    ((try simp (disch := first | assumption | omega | (simp only [nx_alloc, nx_bump, nx_set] <;> omega) | fail) only [↓YA, YB, YC, YZ, YF, ↓reduceIte, Nat.reduceEqDiff, Nat.reduceAdd, Nat.reduceMul, Nat.reduceLeDiff, hQr, hQn, List.length_map]); repeat' ((first | apply GdK_st | apply GdK_sf | apply CondK_s) <;> intro hd <;> (try simp only [hd]) <;> (try simp (disch := first | assumption | omega | (simp only [nx_alloc, nx_bump, nx_set] <;> omega) | fail) only [↓YA, YB, YC, YZ, YF, ↓reduceIte, Nat.reduceEqDiff, Nat.reduceAdd, Nat.reduceMul, Nat.reduceLeDiff, hQr, hQn, hd, List.length_map])))
    have hkl := kids_len x (l.take k) fun n hm => each_len (hn n (List.mem_of_mem_take hm))
    rw [List.length_take] at hkl
    generalize each l[k] = es at *
    generalize hK : kids x (l.take k) = K0 at *
    refine AW_forI (N := es.length) (fun j F G => Fr.get F 42 = .i (j : Int) ∧ Fr.get F 41 = .i (es.length : Int) ∧ Fr.get F 40 = .sl .no (rC es) ∧ Fr.get F 28 = .i (k : Int) ∧ Fr.get F 27 = .i (l.length : Int) ∧ Fr.get F 26 = .sl nt (rN l) ∧ Fr.get F 3 = .arr H1.next 0 l.length l.length ∧ Fr.get F 0 = .ptr id 0 ∧ AHeap.Ext H G ∧ G.get H1.next = some (.cells ((cnt l.length (K0 ++ (es.take j).map Cel.child)).map AV.i) 3)) (by unfold maxLen; omega) (fun k F G h => ⟨h.1, h.2.1⟩) (GStep.refl _ _) ?_ ?_ ?_
    ·refine ⟨rfl, rfl, rfl, f28, f27, f26, f3, f0, ?_, ?_⟩
     ·(repeat (first | assumption | exact AHeap.Ext.refl _ | refine AHeap.Ext.set ?_ (by first | assumption | omega | (simp only [nx_alloc, nx_bump, nx_set]; omega)) | refine AHeap.Ext.alloc ?_ | refine AHeap.Ext.bump ?_))
     ·simp only [AHeap.get_bump]
      rw [AHeap.get_set_ne (by omega), AHeap.get_alloc_ne (by omega), hg]
      simp
    ·rintro j F G hj ⟨f42, f41, f40, f28, f27, f26, f3, f0, hxG, hg⟩
     have hgl := AHeap.lt hg
     have hxn := hxG.next
     have hrj := rC_get hj
     have h0j : (0 : Int) ≤ j := by omega
     obtain ⟨c0, c1⟩ := hchk _ (List.getElem_mem hj)
     obtain ⟨d, hdc⟩ : ∃ d : Nat, es[j].child = d := ⟨es[j].child.toNat, by omega⟩
     rw [hdc] at c0 c1
     have hdl : d < l.length := by omega
     have hcl : (K0 ++ (es.take j).map Cel.child).count (d : Int) ≤ 300000000000 := by
      refine Nat.le_trans List.count_le_length ?_
      rw [List.length_append, List.length_map, List.length_take]
      omega
     have hsn : K0 ++ (es.take j).map Cel.child ++ [(d : Int)] = K0 ++ (es.take (j + 1)).map Cel.child := by
      rw [List.take_succ_eq_append_getElem hj, List.map_append, List.append_assoc]
      simp [hdc]
     generalize K0 ++ (es.take j).map Cel.child = K at *
     have hlen : (cnt l.length K).length = l.length := cnt_len _ _
     have hget : ((cnt l.length K).map AV.i)[d]? = some (AV.i (K.count (d : Int) : Int)) := by
      rw [List.getElem?_map, List.getElem?_eq_getElem (by omega)]
      simp only [Option.map_some]
      rw [cnt_get hdl]
     have hst := set_map_i (ms := cnt l.length K) ((K.count (d : Int) : Int) + 1) (by omega : d < _)
     rw [cnt_snoc hdl, hsn] at hst
     have hml : d + 1 ≤ (cnt l.length K).length := by omega
     unfold eCel at hrj
     ((try simp (disch := first | assumption | omega | (simp only [nx_alloc, nx_bump, nx_set] <;> omega) | fail) only [↓YA, YB, YC, YZ, YF, ↓reduceIte, Nat.reduceEqDiff, Nat.reduceAdd, Nat.reduceMul, Nat.reduceLeDiff, hQr, hQn, c55_0, f42, f41, f40, f28, f27, f26, f3, f0, hrj, h0j, hdc, c0, c1, hg, hget, hml]); repeat' ((first | apply GdK_st | apply GdK_sf | apply CondK_s) <;> intro hd <;> (try simp only [hd]) <;> (try simp (disch := first | assumption | omega | (simp only [nx_alloc, nx_bump, nx_set] <;> omega) | fail) only [↓YA, YB, YC, YZ, YF, ↓reduceIte, Nat.reduceEqDiff, Nat.reduceAdd, Nat.reduceMul, Nat.reduceLeDiff, hQr, hQn, hd, c55_0, f42, f41, f40, f28, f27, f26, f3, f0, hrj, h0j, hdc, c0, c1, hg, hget, hml])))
     refine ⟨?_, by rw [hst]⟩
     (repeat (first | assumption | exact AHeap.Ext.refl _ | refine AHeap.Ext.set ?_ (by first | assumption | omega | (simp only [nx_alloc, nx_bump, nx_set]; omega)) | refine AHeap.Ext.alloc ?_ | refine AHeap.Ext.bump ?_))
    ·rintro F G ⟨f42, f41, f40, f28, f27, f26, f3, f0, hxG, hg⟩
     rw [List.take_length, ← hkk] at hg
     ((try simp (disch := first | assumption | omega | (simp only [nx_alloc, nx_bump, nx_set] <;> omega) | fail) only [↓YA, YB, YC, YZ, YF, ↓reduceIte, Nat.reduceEqDiff, Nat.reduceAdd, Nat.reduceMul, Nat.reduceLeDiff, hQr, hQn, f28, f27, f26, f3, f0]); repeat' ((first | apply GdK_st | apply GdK_sf | apply CondK_s) <;> intro hd <;> (try simp only [hd]) <;> (try simp (disch := first | assumption | omega | (simp only [nx_alloc, nx_bump, nx_set] <;> omega) | fail) only [↓YA, YB, YC, YZ, YF, ↓reduceIte, Nat.reduceEqDiff, Nat.reduceAdd, Nat.reduceMul, Nat.reduceLeDiff, hQr, hQn, hd, f28, f27, f26, f3, f0])))
     exact ⟨hxG, hg⟩
  ·rintro F G ⟨f28, f27, f26, f3, f0, hxG, hg⟩
   rw [List.take_length] at hg
   have hcG := hxG.get _ _ h
   have haG : ArA G id x l := ⟨tok, nt, most, hcG⟩
   unfold eArN eAr at hcG
   have hn1 : l.length - 1 < l.length := by omega
   have hr := rN_get hn1
   have h0 : (0 : Int) ≤ (l.length : Int) - 1 := by omega
   have hti : ((l.length : Int) - 1).toNat = l.length - 1 := by omega
   unfold eNod at hr
   have hT : wholeB x l = (l[l.length - 1].dim == 0 && !(((cnt l.length (kids x l)).take (l.length - 1)).contains 0)) := by
    unfold wholeB
    rw [if_neg hz]
    congr 2
    unfold nodAt
    rw [if_pos h0, hti, List.getElem?_eq_getElem hn1]
    rfl
   rw [hT] at hQr hQn
   ((try simp (disch := first | assumption | omega | (simp only [nx_alloc, nx_bump, nx_set] <;> omega) | fail) only [↓YA, YB, YC, YZ, YF, ↓reduceIte, Nat.reduceEqDiff, Nat.reduceAdd, Nat.reduceMul, Nat.reduceLeDiff, hQr, hQn, c55_0, f0, hcG]); repeat' ((first | apply GdK_st | apply GdK_sf | apply CondK_s) <;> intro hd <;> (try simp only [hd]) <;> (try simp (disch := first | assumption | omega | (simp only [nx_alloc, nx_bump, nx_set] <;> omega) | fail) only [↓YA, YB, YC, YZ, YF, ↓reduceIte, Nat.reduceEqDiff, Nat.reduceAdd, Nat.reduceMul, Nat.reduceLeDiff, hQr, hQn, hd, c55_0, f0, hcG])))
   refine CallK.use (top_sound haG hx (by omega)) ?_
   rintro r H2 ⟨rfl, hx2⟩
   have hc2 := hx2.get _ _ hcG
   refine ⟨stable_one rfl rfl (by simp (disch := first | assumption | omega | (simp only [nx_alloc, nx_bump, nx_set] <;> omega) | fail) only [↓YA, YB, YC, YZ, YF, ↓reduceIte, Nat.reduceEqDiff, Nat.reduceAdd, Nat.reduceMul, Nat.reduceLeDiff, hc2]), ?_⟩
   cases hdz : (l[l.length - 1].dim == 0) with
   | false =>
    rw [hdz, Bool.false_and] at hQr hQn
    ((try simp (disch := first | assumption | omega | (simp only [nx_alloc, nx_bump, nx_set] <;> omega) | fail) only [↓YA, YB, YC, YZ, YF, ↓reduceIte, Nat.reduceEqDiff, Nat.reduceAdd, Nat.reduceMul, Nat.reduceLeDiff, hQr, hQn, hc2, hr, h0, hti, hdz]); repeat' ((first | apply GdK_st | apply GdK_sf | apply CondK_s) <;> intro hd <;> (try simp only [hd]) <;> (try simp (disch := first | assumption | omega | (simp only [nx_alloc, nx_bump, nx_set] <;> omega) | fail) only [↓YA, YB, YC, YZ, YF, ↓reduceIte, Nat.reduceEqDiff, Nat.reduceAdd, Nat.reduceMul, Nat.reduceLeDiff, hQr, hQn, hd, hc2, hr, h0, hti, hdz])))
    exact fin_b (hxG.trans hx2) rfl
   | true =>
    rw [hdz, Bool.true_and] at hQr hQn
    ((try simp (disch := first | assumption | omega | (simp only [nx_alloc, nx_bump, nx_set] <;> omega) | fail) only [↓YA, YB, YC, YZ, YF, ↓reduceIte, Nat.reduceEqDiff, Nat.reduceAdd, Nat.reduceMul, Nat.reduceLeDiff, hQr, hQn, hc2, hr, h0, hti, hdz, f0]); repeat' ((first | apply GdK_st | apply GdK_sf | apply CondK_s) <;> intro hd <;> (try simp only [hd]) <;> (try simp (disch := first | assumption | omega | (simp only [nx_alloc, nx_bump, nx_set] <;> omega) | fail) only [↓YA, YB, YC, YZ, YF, ↓reduceIte, Nat.reduceEqDiff, Nat.reduceAdd, Nat.reduceMul, Nat.reduceLeDiff, hQr, hQn, hd, hc2, hr, h0, hti, hdz, f0])))
    refine CallK.use (top_sound (haG.ext hx2) hx (by omega)) ?_
    rintro r H3 ⟨rfl, hx3⟩
    have hx23 := hx2.trans hx3
    have hg3 := hx23.get _ _ hg
    have b1 : l.length - 1 ≤ l.length := by omega
    have b2 : (l.length = 0) = False := eq_false hz
    have b3 : 0 ≤ l.length - 1 := by omega
    ((try simp (disch := first | assumption | omega | (simp only [nx_alloc, nx_bump, nx_set] <;> omega) | fail) only [↓YA, YB, YC, YZ, YF, ↓reduceIte, Nat.reduceEqDiff, Nat.reduceAdd, Nat.reduceMul, Nat.reduceLeDiff, hQr, hQn, f3, bndA, h0, hti, b1, b2, b3, Nat.sub_zero, Nat.zero_mul, Nat.le_refl]); repeat' ((first | apply GdK_st | apply GdK_sf | apply CondK_s) <;> intro hd <;> (try simp only [hd]) <;> (try simp (disch := first | assumption | omega | (simp only [nx_alloc, nx_bump, nx_set] <;> omega) | fail) only [↓YA, YB, YC, YZ, YF, ↓reduceIte, Nat.reduceEqDiff, Nat.reduceAdd, Nat.reduceMul, Nat.reduceLeDiff, hQr, hQn, hd, f3, bndA, h0, hti, b1, b2, b3, Nat.sub_zero, Nat.zero_mul, Nat.le_refl])))
    refine CallK.use (index_sound (l.length - 1) 0 hg3 (by rw [cnt_len]; omega) (by omega)) ?_
    rintro r H4 ⟨hx4, i, rfl, hi⟩
    ((try simp (disch := first | assumption | omega | (simp only [nx_alloc, nx_bump, nx_set] <;> omega) | fail) only [↓YA, YB, YC, YZ, YF, ↓reduceIte, Nat.reduceEqDiff, Nat.reduceAdd, Nat.reduceMul, Nat.reduceLeDiff, hQr, hQn]); repeat' ((first | apply GdK_st | apply GdK_sf | apply CondK_s) <;> intro hd <;> (try simp only [hd]) <;> (try simp (disch := first | assumption | omega | (simp only [nx_alloc, nx_bump, nx_set] <;> omega) | fail) only [↓YA, YB, YC, YZ, YF, ↓reduceIte, Nat.reduceEqDiff, Nat.reduceAdd, Nat.reduceMul, Nat.reduceLeDiff, hQr, hQn, hd])))
    rw [hi]
    exact fin_b ((hxG.trans hx23).trans hx4) rfl
set_option maxHeartbeats 4000000 in
theorem rmay6_sound (m : Int) (a : Ag) (H : AHeap) : Sound Try.prog 111 [.i m, .agg (eAg a)] H (Pure H (.b (aggMay m a))) := by
  refine fn_soundQ hE cf111 (Nat.le_of_ble_eq_true rfl) fun Q hQr hQn => ?_
  have hx : AHeap.Ext H (H.alloc (.cells (eAg a) 41)) := (AHeap.Ext.refl H).alloc
  unfold eAg at hx ⊢
  ((try simp (disch := first | assumption | omega | (simp only [nx_alloc, nx_bump, nx_set] <;> omega) | fail) only [↓YA, YB, YC, YZ, YF, ↓reduceIte, Nat.reduceEqDiff, Nat.reduceAdd, Nat.reduceMul, Nat.reduceLeDiff, hQr, hQn, c111_0]); repeat' ((first | apply GdK_st | apply GdK_sf | apply CondK_s) <;> intro hd <;> (try simp only [hd]) <;> (try simp (disch := first | assumption | omega | (simp only [nx_alloc, nx_bump, nx_set] <;> omega) | fail) only [↓YA, YB, YC, YZ, YF, ↓reduceIte, Nat.reduceEqDiff, Nat.reduceAdd, Nat.reduceMul, Nat.reduceLeDiff, hQr, hQn, hd, c111_0])))
  any_goals
    refine fin_b hx ?_
    unfold aggMay
    grind
  have h0 : 0 ≤ m := by grind
  have h1 : m ≤ 3 := by grind
  have h2 : 1 ≤ a.n := by grind
  rw [tail0 h0 h1 h2] at hQr hQn
  refine AW_loopI (fun n F G => ∃ k : Nat, k ≤ 3 ∧ n = 3 - k ∧ Fr.get F 5 = .i (k : Int) ∧ Fr.get F 0 = .i m ∧ Fr.get F 3 = .ptr H.next 0 ∧ AHeap.Ext H G ∧ G.get H.next = some (.cells (eAg a) 41) ∧ tailMay 0 m a = tailMay k m a) 3 (GStep.refl _ _) ⟨0, by omega, rfl, rfl, rfl, rfl, hx, AHeap.get_alloc_self (H := H), rfl⟩ ?_
  rintro n F G ⟨k, hk, rfl, f5, f0, f3, hxG, hg, ht⟩
  by_cases hk3 : k = 3
  · subst hk3
    replace f5 : Fr.get F 5 = .i 3 := f5
    have d : decide ((3 : Int) < 3) = false := by decide
    ((try simp (disch := first | assumption | omega | (simp only [nx_alloc, nx_bump, nx_set] <;> omega) | fail) only [↓YA, YB, YC, YZ, YF, ↓reduceIte, Nat.reduceEqDiff, Nat.reduceAdd, Nat.reduceMul, Nat.reduceLeDiff, hQr, hQn, c111_0, f5, d]); repeat' ((first | apply GdK_st | apply GdK_sf | apply CondK_s) <;> intro hd <;> (try simp only [hd]) <;> (try simp (disch := first | assumption | omega | (simp only [nx_alloc, nx_bump, nx_set] <;> omega) | fail) only [↓YA, YB, YC, YZ, YF, ↓reduceIte, Nat.reduceEqDiff, Nat.reduceAdd, Nat.reduceMul, Nat.reduceLeDiff, hQr, hQn, hd, c111_0, f5, d])))
    ((try simp (disch := first | assumption | omega | (simp only [nx_alloc, nx_bump, nx_set] <;> omega) | fail) only [↓YA, YB, YC, YZ, YF, ↓reduceIte, Nat.reduceEqDiff, Nat.reduceAdd, Nat.reduceMul, Nat.reduceLeDiff, hQr, hQn, c111_0]); repeat' ((first | apply GdK_st | apply GdK_sf | apply CondK_s) <;> intro hd <;> (try simp only [hd]) <;> (try simp (disch := first | assumption | omega | (simp only [nx_alloc, nx_bump, nx_set] <;> omega) | fail) only [↓YA, YB, YC, YZ, YF, ↓reduceIte, Nat.reduceEqDiff, Nat.reduceAdd, Nat.reduceMul, Nat.reduceLeDiff, hQr, hQn, hd, c111_0])))
    exact fin_b hxG (by rw [ht]; rfl)
  · have hk' : k < 3 := by omega
    rw [tail_step hk'] at ht
    have hgl := AHeap.lt hg
    have hg0 := hg
    have hxn := hxG.next
    unfold eAg at hg
    obtain rfl | rfl | rfl : k = 0 ∨ k = 1 ∨ k = 2 := by omega
    · replace f5 : Fr.get F 5 = .i 0 := f5
      ((try simp (disch := first | assumption | omega | (simp only [nx_alloc, nx_bump, nx_set] <;> omega) | fail) only [↓YA, YB, YC, YZ, YF, ↓reduceIte, Nat.reduceEqDiff, Nat.reduceAdd, Nat.reduceMul, Nat.reduceLeDiff, hQr, hQn, c111_0, f5, f0, f3, hg, eAg, Int.cast_ofNat_Int, Int.reduceLE, Int.reduceLT, Int.reduceToNat, Nat.reduceMul, Int.reduceAdd, decide_true]); repeat' ((first | apply GdK_st | apply GdK_sf | apply CondK_s) <;> intro hd <;> (try simp only [hd]) <;> (try simp (disch := first | assumption | omega | (simp only [nx_alloc, nx_bump, nx_set] <;> omega) | fail) only [↓YA, YB, YC, YZ, YF, ↓reduceIte, Nat.reduceEqDiff, Nat.reduceAdd, Nat.reduceMul, Nat.reduceLeDiff, hQr, hQn, hd, c111_0, f5, f0, f3, hg, eAg, Int.cast_ofNat_Int, Int.reduceLE, Int.reduceLT, Int.reduceToNat, Nat.reduceMul, Int.reduceAdd, decide_true])))
      all_goals first
        | (refine fin_b ?_ ?_
           · (repeat (first | assumption | exact AHeap.Ext.refl _ | refine AHeap.Ext.set ?_ (by first | assumption | omega | (simp only [nx_alloc, nx_bump, nx_set]; omega)) | refine AHeap.Ext.alloc ?_ | refine AHeap.Ext.bump ?_))
           · rw [ht]; simp only [prtMay, Ag.prt]; grind)
        | (refine ⟨2, by omega, 1, by omega, rfl, rfl, ?_, ?_⟩
           · (repeat (first | assumption | exact AHeap.Ext.refl _ | refine AHeap.Ext.set ?_ (by first | assumption | omega | (simp only [nx_alloc, nx_bump, nx_set]; omega)) | refine AHeap.Ext.alloc ?_ | refine AHeap.Ext.bump ?_))
           · rw [ht]; simp only [prtMay, Ag.prt]; grind)
    · replace f5 : Fr.get F 5 = .i 1 := f5
      ((try simp (disch := first | assumption | omega | (simp only [nx_alloc, nx_bump, nx_set] <;> omega) | fail) only [↓YA, YB, YC, YZ, YF, ↓reduceIte, Nat.reduceEqDiff, Nat.reduceAdd, Nat.reduceMul, Nat.reduceLeDiff, hQr, hQn, c111_0, f5, f0, f3, hg, eAg, Int.cast_ofNat_Int, Int.reduceLE, Int.reduceLT, Int.reduceToNat, Nat.reduceMul, Int.reduceAdd, decide_true]); repeat' ((first | apply GdK_st | apply GdK_sf | apply CondK_s) <;> intro hd <;> (try simp only [hd]) <;> (try simp (disch := first | assumption | omega | (simp only [nx_alloc, nx_bump, nx_set] <;> omega) | fail) only [↓YA, YB, YC, YZ, YF, ↓reduceIte, Nat.reduceEqDiff, Nat.reduceAdd, Nat.reduceMul, Nat.reduceLeDiff, hQr, hQn, hd, c111_0, f5, f0, f3, hg, eAg, Int.cast_ofNat_Int, Int.reduceLE, Int.reduceLT, Int.reduceToNat, Nat.reduceMul, Int.reduceAdd, decide_true])))
      all_goals first
        | (refine fin_b ?_ ?_
           · (repeat (first | assumption | exact AHeap.Ext.refl _ | refine AHeap.Ext.set ?_ (by first | assumption | omega | (simp only [nx_alloc, nx_bump, nx_set]; omega)) | refine AHeap.Ext.alloc ?_ | refine AHeap.Ext.bump ?_))
           · rw [ht]; simp only [prtMay, Ag.prt]; grind)
        | (refine ⟨1, by omega, 2, by omega, rfl, rfl, ?_, ?_⟩
           · (repeat (first | assumption | exact AHeap.Ext.refl _ | refine AHeap.Ext.set ?_ (by first | assumption | omega | (simp only [nx_alloc, nx_bump, nx_set]; omega)) | refine AHeap.Ext.alloc ?_ | refine AHeap.Ext.bump ?_))
           · rw [ht]; simp only [prtMay, Ag.prt]; grind)
    · replace f5 : Fr.get F 5 = .i 2 := f5
      ((try simp (disch := first | assumption | omega | (simp only [nx_alloc, nx_bump, nx_set] <;> omega) | fail) only [↓YA, YB, YC, YZ, YF, ↓reduceIte, Nat.reduceEqDiff, Nat.reduceAdd, Nat.reduceMul, Nat.reduceLeDiff, hQr, hQn, c111_0, f5, f0, f3, hg, eAg, Int.cast_ofNat_Int, Int.reduceLE, Int.reduceLT, Int.reduceToNat, Nat.reduceMul, Int.reduceAdd, decide_true]); repeat' ((first | apply GdK_st | apply GdK_sf | apply CondK_s) <;> intro hd <;> (try simp only [hd]) <;> (try simp (disch := first | assumption | omega | (simp only [nx_alloc, nx_bump, nx_set] <;> omega) | fail) only [↓YA, YB, YC, YZ, YF, ↓reduceIte, Nat.reduceEqDiff, Nat.reduceAdd, Nat.reduceMul, Nat.reduceLeDiff, hQr, hQn, hd, c111_0, f5, f0, f3, hg, eAg, Int.cast_ofNat_Int, Int.reduceLE, Int.reduceLT, Int.reduceToNat, Nat.reduceMul, Int.reduceAdd, decide_true])))
      all_goals first
        | (refine fin_b ?_ ?_
           · (repeat (first | assumption | exact AHeap.Ext.refl _ | refine AHeap.Ext.set ?_ (by first | assumption | omega | (simp only [nx_alloc, nx_bump, nx_set]; omega)) | refine AHeap.Ext.alloc ?_ | refine AHeap.Ext.bump ?_))
           · rw [ht]; simp only [prtMay, Ag.prt]; grind)
        | (refine ⟨0, by omega, 3, by omega, rfl, rfl, ?_, ?_⟩
           · (repeat (first | assumption | exact AHeap.Ext.refl _ | refine AHeap.Ext.set ?_ (by first | assumption | omega | (simp only [nx_alloc, nx_bump, nx_set]; omega)) | refine AHeap.Ext.alloc ?_ | refine AHeap.Ext.bump ?_))
           · rw [ht]; simp only [prtMay, Ag.prt]; grind)
theorem rcell_sound (tok : Tok) (x : Shp) (dim : Int) (c : Cel) (H : AHeap) (hl : x.sizes.length ≤ 1000000) : Sound Try.prog 102 [.agg [.sl tok (rII x.sizes), .i x.measures], .i dim, .agg (eCel c)] H (Pure H (.b (cellOk x dim c))) := by
 refine fn_soundQ hE cf102 (Nat.le_of_ble_eq_true rfl) fun Q hQr hQn => ?_
 have hlb : lastB x dim = (dim == (x.sizes.length : Int) - 1) := rfl
 cases hb : (dim == (x.sizes.length : Int) - 1) with
 | true =>
  rw [hb] at hlb
  ((try simp (disch := first | assumption | omega | (simp only [nx_alloc, nx_bump, nx_set] <;> omega) | fail) only [↓YA, YB, YC, YZ, YF, ↓reduceIte, Nat.reduceEqDiff, Nat.reduceAdd, Nat.reduceMul, Nat.reduceLeDiff, hQr, hQn, c102_0, eCel, List.length_map, hb]); repeat' ((first | apply GdK_st | apply GdK_sf | apply CondK_s) <;> intro hd <;> (try simp only [hd]) <;> (try simp (disch := first | assumption | omega | (simp only [nx_alloc, nx_bump, nx_set] <;> omega) | fail) only [↓YA, YB, YC, YZ, YF, ↓reduceIte, Nat.reduceEqDiff, Nat.reduceAdd, Nat.reduceMul, Nat.reduceLeDiff, hQr, hQn, hd, c102_0, eCel, List.length_map, hb])))
  ·refine CallK.use (rmay6_sound x.measures c.agg _) ?_
   rintro r H' ⟨rfl, k2, rfl⟩
   ((try simp (disch := first | assumption | omega | (simp only [nx_alloc, nx_bump, nx_set] <;> omega) | fail) only [↓YA, YB, YC, YZ, YF, ↓reduceIte, Nat.reduceEqDiff, Nat.reduceAdd, Nat.reduceMul, Nat.reduceLeDiff, hQr, hQn]); repeat' ((first | apply GdK_st | apply GdK_sf | apply CondK_s) <;> intro hd <;> (try simp only [hd]) <;> (try simp (disch := first | assumption | omega | (simp only [nx_alloc, nx_bump, nx_set] <;> omega) | fail) only [↓YA, YB, YC, YZ, YF, ↓reduceIte, Nat.reduceEqDiff, Nat.reduceAdd, Nat.reduceMul, Nat.reduceLeDiff, hQr, hQn, hd])))
   refine fin_b ?_ ?_
   ·(repeat (first | assumption | exact AHeap.Ext.refl _ | refine AHeap.Ext.set ?_ (by first | assumption | omega | (simp only [nx_alloc, nx_bump, nx_set]; omega)) | refine AHeap.Ext.alloc ?_ | refine AHeap.Ext.bump ?_))
   ·unfold cellOk; rw [hlb]; grind
  ·refine fin_b ?_ ?_
   ·(repeat (first | assumption | exact AHeap.Ext.refl _ | refine AHeap.Ext.set ?_ (by first | assumption | omega | (simp only [nx_alloc, nx_bump, nx_set]; omega)) | refine AHeap.Ext.alloc ?_ | refine AHeap.Ext.bump ?_))
   ·unfold cellOk; rw [hlb]; grind
 | false =>
  rw [hb] at hlb
  ((try simp (disch := first | assumption | omega | (simp only [nx_alloc, nx_bump, nx_set] <;> omega) | fail) only [↓YA, YB, YC, YZ, YF, ↓reduceIte, Nat.reduceEqDiff, Nat.reduceAdd, Nat.reduceMul, Nat.reduceLeDiff, hQr, hQn, c102_0, eCel, List.length_map, hb, scs, SK.is, vsEq, vEq_int, ag0_iff]); repeat' ((first | apply GdK_st | apply GdK_sf | apply CondK_s) <;> intro hd <;> (try simp only [hd]) <;> (try simp (disch := first | assumption | omega | (simp only [nx_alloc, nx_bump, nx_set] <;> omega) | fail) only [↓YA, YB, YC, YZ, YF, ↓reduceIte, Nat.reduceEqDiff, Nat.reduceAdd, Nat.reduceMul, Nat.reduceLeDiff, hQr, hQn, hd, c102_0, eCel, List.length_map, hb, scs, SK.is, vsEq, vEq_int, ag0_iff])))
  all_goals
   refine fin_b ?_ ?_
   ·(repeat (first | assumption | exact AHeap.Ext.refl _ | refine AHeap.Ext.set ?_ (by first | assumption | omega | (simp only [nx_alloc, nx_bump, nx_set]; omega)) | refine AHeap.Ext.alloc ?_ | refine AHeap.Ext.bump ?_))
   ·unfold cellOk; rw [hlb]; grind
set_option maxHeartbeats 8000000 in
theorem wrong_sound (tok t : Tok) (x : Shp) (n : Nod) (H : AHeap) (hl : x.sizes.length ≤ 1000000) (hx : ∀ s ∈ x.sizes, s.length ≤ 1000000) (hn : smallL n.lists) : Sound Try.prog 77 [.agg [.sl tok (rII x.sizes), .i x.measures], .agg (eNod t n)] H (Pure H (.i (checkErr x n))) := by
 refine fn_soundQ hE cf77 (Nat.le_of_ble_eq_true rfl) fun Q hQr hQn => ?_
 obtain ⟨dim, lists, all⟩ := n
 obtain ⟨hn1, hn2⟩ := hn
 simp only at hn1 hn2
 by_cases hdm : 0 ≤ dim ∧ dim < x.sizes.length
 ·obtain ⟨d, rfl⟩ : ∃ d : Nat, dim = d := ⟨dim.toNat, by omega⟩
  have hd' : d < x.sizes.length := by omega
  have d1 : decide ((d : Int) < 0) = false := by simp
  have d2 : decide ((d : Int) ≥ (x.sizes.length : Int)) = false := by simp; omega
  have h0 : (0 : Int) ≤ d := by omega
  have hs := rII_get hd'
  have hss := hx _ (List.getElem_mem hd')
  have hT : checkErr x ⟨d, lists, all⟩ = if lists.length ≠ x.sizes[d].length ∨ lists.length = 0 then 2 else if listsErr x d none x.sizes[d] lists ≠ 0 then listsErr x d none x.sizes[d] lists else if all.key ≠ 0 ∨ cellOk x d all = false then 2 else 0 := by
   unfold checkErr
   rw [if_neg (by simp; omega)]
   simp only [Int.toNat_natCast, List.getD_eq_getElem?_getD, List.getElem?_eq_getElem hd', Option.getD_some]
  generalize checkErr x ⟨d, lists, all⟩ = T at *
  ((try simp (disch := first | assumption | omega | (simp only [nx_alloc, nx_bump, nx_set] <;> omega) | fail) only [↓YA, YB, YC, YZ, YF, ↓reduceIte, Nat.reduceEqDiff, Nat.reduceAdd, Nat.reduceMul, Nat.reduceLeDiff, hQr, hQn, c77_0, eNod, d1, d2, h0, hs, List.length_map]); repeat' ((first | apply GdK_st | apply GdK_sf | apply CondK_s) <;> intro hd <;> (try simp only [hd]) <;> (try simp (disch := first | assumption | omega | (simp only [nx_alloc, nx_bump, nx_set] <;> omega) | fail) only [↓YA, YB, YC, YZ, YF, ↓reduceIte, Nat.reduceEqDiff, Nat.reduceAdd, Nat.reduceMul, Nat.reduceLeDiff, hQr, hQn, hd, c77_0, eNod, d1, d2, h0, hs, List.length_map])))
  any_goals
   refine fin_i ?_ ?_
   ·(repeat (first | assumption | exact AHeap.Ext.refl _ | refine AHeap.Ext.set ?_ (by first | assumption | omega | (simp only [nx_alloc, nx_bump, nx_set]; omega)) | refine AHeap.Ext.alloc ?_ | refine AHeap.Ext.bump ?_))
   ·grind
  have e1 : lists.length = x.sizes[d].length := by grind
  have e2 : lists.length ≠ 0 := by grind
  rw [if_neg (by omega)] at hT
  generalize hS : listsErr x d none x.sizes[d] lists = S at *
  refine AW_forI (N := lists.length) (fun k F G => Fr.get F 45 = .i (k : Int) ∧ Fr.get F 44 = .i (lists.length : Int) ∧ Fr.get F 2 = .ptr H.next 0 ∧ Fr.get F 3 = .ptr (H.next + 1) 0 ∧ AHeap.Ext H G ∧ G.get H.next = some (.cells [.sl tok (rII x.sizes), .i x.measures] 24) ∧ G.get (H.next + 1) = some (.cells (eNod t ⟨d, lists, all⟩) 45) ∧ S = listsErr x d (lenAhead lists k) (x.sizes[d].drop k) (lists.drop k)) (by unfold maxLen; omega) (fun k F G h => ⟨h.1, h.2.1⟩) (GStep.refl _ _) ?_ ?_ ?_
  ·refine ⟨rfl, rfl, rfl, rfl, (AHeap.Ext.refl H).alloc.alloc, ?_, AHeap.get_alloc_self (H := H.alloc _), hS.symm⟩
   rw [AHeap.get_alloc_ne (by simp)]
   exact AHeap.get_alloc_self
  ·rintro k F G hk ⟨f45, f44, f2, f3, hxG, hg, hg2, ht⟩
   have hks : k < x.sizes[d].length := by omega
   rw [listsErr_step x d x.sizes[d] lists k hk hks] at ht
   have hgl := AHeap.lt hg2
   have hxn := hxG.next
   have hr := rL_get hk
   have hrs := rI_get hks
   have h0k : (0 : Int) ≤ k := by omega
   have hlk := hn2 _ (List.getElem_mem hk)
   have hE0 : listErr0 x d x.sizes[d][k] lists[k] = if lists[k].length = 0 then 2 else listErr x d x.sizes[d][k] (keyAhead lists[k] 0) (lists[k].drop 0) := rfl
   have hg2' := hg2
   unfold eNod at hg2
   ((try simp (disch := first | assumption | omega | (simp only [nx_alloc, nx_bump, nx_set] <;> omega) | fail) only [↓YA, YB, YC, YZ, YF, ↓reduceIte, Nat.reduceEqDiff, Nat.reduceAdd, Nat.reduceMul, Nat.reduceLeDiff, hQr, hQn, c77_0, f45, f2, f3, hg, hg2, hr, h0k, List.length_map]); repeat' ((first | apply GdK_st | apply GdK_sf | apply CondK_s) <;> intro hd <;> (try simp only [hd]) <;> (try simp (disch := first | assumption | omega | (simp only [nx_alloc, nx_bump, nx_set] <;> omega) | fail) only [↓YA, YB, YC, YZ, YF, ↓reduceIte, Nat.reduceEqDiff, Nat.reduceAdd, Nat.reduceMul, Nat.reduceLeDiff, hQr, hQn, hd, c77_0, f45, f2, f3, hg, hg2, hr, h0k, List.length_map])))
   ·refine fin_i ?_ ?_
    ·(repeat (first | assumption | exact AHeap.Ext.refl _ | refine AHeap.Ext.set ?_ (by first | assumption | omega | (simp only [nx_alloc, nx_bump, nx_set]; omega)) | refine AHeap.Ext.alloc ?_ | refine AHeap.Ext.bump ?_))
    ·grind
   have hne : lists[k].length ≠ 0 := by grind
   rw [if_neg hne] at hE0
   generalize hEE : listErr0 x d x.sizes[d][k] lists[k] = E at *
   refine AW_forI (N := lists[k].length) (fun j F G => Fr.get F 58 = .i (j : Int) ∧ Fr.get F 57 = .i (lists[k].length : Int) ∧ Fr.get F 6 = .sl .no (rC lists[k]) ∧ Fr.get F 5 = .i (k : Int) ∧ Fr.get F 45 = .i (k : Int) ∧ Fr.get F 44 = .i (lists.length : Int) ∧ Fr.get F 2 = .ptr H.next 0 ∧ Fr.get F 3 = .ptr (H.next + 1) 0 ∧ AHeap.Ext H G ∧ G.get H.next = some (.cells [.sl tok (rII x.sizes), .i x.measures] 24) ∧ G.get (H.next + 1) = some (.cells (eNod t ⟨d, lists, all⟩) 45) ∧ E = listErr x d x.sizes[d][k] (keyAhead lists[k] j) (lists[k].drop j)) (by unfold maxLen; omega) (fun k F G h => ⟨h.1, h.2.1⟩) (GStep.refl _ _) ?_ ?_ ?_
   ·exact ⟨rfl, rfl, rfl, rfl, f45, f44, f2, f3, hxG, hg, hg2', hE0⟩
   ·rintro j F G hj ⟨f58, f57, f6, f5, f45, f44, f2, f3, hxG, hg, hg2, htj⟩
    rw [listErr_step x d x.sizes[d][k] lists[k] j hj] at htj
    have hxn := hxG.next
    have hrj := rC_get hj
    have h0j : (0 : Int) ≤ j := by omega
    have hg2' := hg2
    unfold eNod at hg2
    have fin : ∀ (b : Bool), cellOk x d lists[k][j] = b → overK (keyAhead lists[k] j) lists[k][j].key = false → decide (lists[k][j].key < 0) = false → decide (lists[k][j].key ≥ x.sizes[d][k]) = false → E = if b = false then 2 else listErr x d x.sizes[d][k] (keyAhead lists[k] (j + 1)) (lists[k].drop (j + 1)) := by
     intro b hb g1 g2 g3
     simp only [decide_eq_false_iff_not, ge_iff_le] at g2 g3
     rw [htj, hb, g1]
     simp [g2, g3]
    by_cases hj0 : j = 0
    ·have d0 : decide ((j : Int) > 0) = false := by simp; omega
     have ho : overK (keyAhead lists[k] j) lists[k][j].key = false := by subst hj0; rfl
     rw [ho] at htj
     have hrj0 := hrj
     unfold eCel at hrj
     ((try simp (disch := first | assumption | omega | (simp only [nx_alloc, nx_bump, nx_set] <;> omega) | fail) only [↓YA, YB, YC, YZ, YF, ↓reduceIte, Nat.reduceEqDiff, Nat.reduceAdd, Nat.reduceMul, Nat.reduceLeDiff, hQr, hQn, c77_0, f58, f6, f5, f2, f3, hg, hg2, hrj, hs, hrs, h0, h0k, h0j, d0]); repeat' ((first | apply GdK_st | apply GdK_sf | apply CondK_s) <;> intro hd <;> (try simp only [hd]) <;> (try simp (disch := first | assumption | omega | (simp only [nx_alloc, nx_bump, nx_set] <;> omega) | fail) only [↓YA, YB, YC, YZ, YF, ↓reduceIte, Nat.reduceEqDiff, Nat.reduceAdd, Nat.reduceMul, Nat.reduceLeDiff, hQr, hQn, hd, c77_0, f58, f6, f5, f2, f3, hg, hg2, hrj, hs, hrs, h0, h0k, h0j, d0])))
     any_goals
      refine fin_i ?_ ?_
      ·(repeat (first | assumption | exact AHeap.Ext.refl _ | refine AHeap.Ext.set ?_ (by first | assumption | omega | (simp only [nx_alloc, nx_bump, nx_set]; omega)) | refine AHeap.Ext.alloc ?_ | refine AHeap.Ext.bump ?_))
      ·grind
     refine CallK.use (rcell_sound tok x d lists[k][j] _ hl) ?_
     rintro r H' ⟨rfl, k2, rfl⟩
     cases hb : cellOk x d lists[k][j] with
     | true =>
      ((try simp (disch := first | assumption | omega | (simp only [nx_alloc, nx_bump, nx_set] <;> omega) | fail) only [↓YA, YB, YC, YZ, YF, ↓reduceIte, Nat.reduceEqDiff, Nat.reduceAdd, Nat.reduceMul, Nat.reduceLeDiff, hQr, hQn, c77_0, hb, f58, f57, f6, f5, f45, f44, f2, f3, hg, hg2']); repeat' ((first | apply GdK_st | apply GdK_sf | apply CondK_s) <;> intro hd <;> (try simp only [hd]) <;> (try simp (disch := first | assumption | omega | (simp only [nx_alloc, nx_bump, nx_set] <;> omega) | fail) only [↓YA, YB, YC, YZ, YF, ↓reduceIte, Nat.reduceEqDiff, Nat.reduceAdd, Nat.reduceMul, Nat.reduceLeDiff, hQr, hQn, hd, c77_0, hb, f58, f57, f6, f5, f45, f44, f2, f3, hg, hg2'])))
      refine ⟨?_, ?_⟩
      ·(repeat (first | assumption | exact AHeap.Ext.refl _ | refine AHeap.Ext.set ?_ (by first | assumption | omega | (simp only [nx_alloc, nx_bump, nx_set]; omega)) | refine AHeap.Ext.alloc ?_ | refine AHeap.Ext.bump ?_))
      ·grind
     | false =>
      ((try simp (disch := first | assumption | omega | (simp only [nx_alloc, nx_bump, nx_set] <;> omega) | fail) only [↓YA, YB, YC, YZ, YF, ↓reduceIte, Nat.reduceEqDiff, Nat.reduceAdd, Nat.reduceMul, Nat.reduceLeDiff, hQr, hQn, c77_0, hb]); repeat' ((first | apply GdK_st | apply GdK_sf | apply CondK_s) <;> intro hd <;> (try simp only [hd]) <;> (try simp (disch := first | assumption | omega | (simp only [nx_alloc, nx_bump, nx_set] <;> omega) | fail) only [↓YA, YB, YC, YZ, YF, ↓reduceIte, Nat.reduceEqDiff, Nat.reduceAdd, Nat.reduceMul, Nat.reduceLeDiff, hQr, hQn, hd, c77_0, hb])))
      refine fin_i ?_ ?_
      ·(repeat (first | assumption | exact AHeap.Ext.refl _ | refine AHeap.Ext.set ?_ (by first | assumption | omega | (simp only [nx_alloc, nx_bump, nx_set]; omega)) | refine AHeap.Ext.alloc ?_ | refine AHeap.Ext.bump ?_))
      ·grind
    ·have d0 : decide ((j : Int) > 0) = true := by simp; omega
     have hj1 : j - 1 < lists[k].length := by omega
     have ho : overK (keyAhead lists[k] j) lists[k][j].key = decide (lists[k][j].key ≤ lists[k][j - 1].key) := by
      unfold keyAhead
      rw [if_neg hj0, List.getElem?_eq_getElem hj1]
      rfl
     rw [ho] at htj
     have hrj1 := rC_get hj1
     have h0i : (0 : Int) ≤ (j : Int) - 1 := by omega
     have hti : ((j : Int) - 1).toNat = j - 1 := by omega
     have hrj0 := hrj
     unfold eCel at hrj hrj1
     ((try simp (disch := first | assumption | omega | (simp only [nx_alloc, nx_bump, nx_set] <;> omega) | fail) only [↓YA, YB, YC, YZ, YF, ↓reduceIte, Nat.reduceEqDiff, Nat.reduceAdd, Nat.reduceMul, Nat.reduceLeDiff, hQr, hQn, c77_0, f58, f6, f5, f2, f3, hg, hg2, hrj, hrj1, hs, hrs, h0, h0k, h0j, d0, h0i, hti]); repeat' ((first | apply GdK_st | apply GdK_sf | apply CondK_s) <;> intro hd <;> (try simp only [hd]) <;> (try simp (disch := first | assumption | omega | (simp only [nx_alloc, nx_bump, nx_set] <;> omega) | fail) only [↓YA, YB, YC, YZ, YF, ↓reduceIte, Nat.reduceEqDiff, Nat.reduceAdd, Nat.reduceMul, Nat.reduceLeDiff, hQr, hQn, hd, c77_0, f58, f6, f5, f2, f3, hg, hg2, hrj, hrj1, hs, hrs, h0, h0k, h0j, d0, h0i, hti])))
     any_goals
      refine fin_i ?_ ?_
      ·(repeat (first | assumption | exact AHeap.Ext.refl _ | refine AHeap.Ext.set ?_ (by first | assumption | omega | (simp only [nx_alloc, nx_bump, nx_set]; omega)) | refine AHeap.Ext.alloc ?_ | refine AHeap.Ext.bump ?_))
      ·grind
     refine CallK.use (rcell_sound tok x d lists[k][j] _ hl) ?_
     rintro r H' ⟨rfl, k2, rfl⟩
     cases hb : cellOk x d lists[k][j] with
     | true =>
      ((try simp (disch := first | assumption | omega | (simp only [nx_alloc, nx_bump, nx_set] <;> omega) | fail) only [↓YA, YB, YC, YZ, YF, ↓reduceIte, Nat.reduceEqDiff, Nat.reduceAdd, Nat.reduceMul, Nat.reduceLeDiff, hQr, hQn, c77_0, hb, f58, f57, f6, f5, f45, f44, f2, f3, hg, hg2']); repeat' ((first | apply GdK_st | apply GdK_sf | apply CondK_s) <;> intro hd <;> (try simp only [hd]) <;> (try simp (disch := first | assumption | omega | (simp only [nx_alloc, nx_bump, nx_set] <;> omega) | fail) only [↓YA, YB, YC, YZ, YF, ↓reduceIte, Nat.reduceEqDiff, Nat.reduceAdd, Nat.reduceMul, Nat.reduceLeDiff, hQr, hQn, hd, c77_0, hb, f58, f57, f6, f5, f45, f44, f2, f3, hg, hg2'])))
      refine ⟨?_, ?_⟩
      ·(repeat (first | assumption | exact AHeap.Ext.refl _ | refine AHeap.Ext.set ?_ (by first | assumption | omega | (simp only [nx_alloc, nx_bump, nx_set]; omega)) | refine AHeap.Ext.alloc ?_ | refine AHeap.Ext.bump ?_))
      ·grind
     | false =>
      ((try simp (disch := first | assumption | omega | (simp only [nx_alloc, nx_bump, nx_set] <;> omega) | fail) only [↓YA, YB, YC, YZ, YF, ↓reduceIte, Nat.reduceEqDiff, Nat.reduceAdd, Nat.reduceMul, Nat.reduceLeDiff, hQr, hQn, c77_0, hb]); repeat' ((first | apply GdK_st | apply GdK_sf | apply CondK_s) <;> intro hd <;> (try simp only [hd]) <;> (try simp (disch := first | assumption | omega | (simp only [nx_alloc, nx_bump, nx_set] <;> omega) | fail) only [↓YA, YB, YC, YZ, YF, ↓reduceIte, Nat.reduceEqDiff, Nat.reduceAdd, Nat.reduceMul, Nat.reduceLeDiff, hQr, hQn, hd, c77_0, hb])))
      refine fin_i ?_ ?_
      ·(repeat (first | assumption | exact AHeap.Ext.refl _ | refine AHeap.Ext.set ?_ (by first | assumption | omega | (simp only [nx_alloc, nx_bump, nx_set]; omega)) | refine AHeap.Ext.alloc ?_ | refine AHeap.Ext.bump ?_))
      ·grind
   ·rintro F G ⟨f58, f57, f6, f5, f45, f44, f2, f3, hxG, hg, hg2, htj⟩
    have hE1 : E = 0 := by
     rw [htj, List.drop_length]
     cases keyAhead lists[k] lists[k].length <;> rfl
    have hg2' := hg2
    unfold eNod at hg2
    by_cases hk0 : k = 0
    ·have d0 : decide ((k : Int) > 0) = false := by simp; omega
     have ho : overN (lenAhead lists k) lists[k].length = false := by subst hk0; rfl
     rw [ho] at ht
     ((try simp (disch := first | assumption | omega | (simp only [nx_alloc, nx_bump, nx_set] <;> omega) | fail) only [↓YA, YB, YC, YZ, YF, ↓reduceIte, Nat.reduceEqDiff, Nat.reduceAdd, Nat.reduceMul, Nat.reduceLeDiff, hQr, hQn, c77_0, f45, f44, f2, f3, f5, f6, hg, hg2', d0, h0k]); repeat' ((first | apply GdK_st | apply GdK_sf | apply CondK_s) <;> intro hd <;> (try simp only [hd]) <;> (try simp (disch := first | assumption | omega | (simp only [nx_alloc, nx_bump, nx_set] <;> omega) | fail) only [↓YA, YB, YC, YZ, YF, ↓reduceIte, Nat.reduceEqDiff, Nat.reduceAdd, Nat.reduceMul, Nat.reduceLeDiff, hQr, hQn, hd, c77_0, f45, f44, f2, f3, f5, f6, hg, hg2', d0, h0k])))
     refine ⟨?_, ?_⟩
     ·(repeat (first | assumption | exact AHeap.Ext.refl _ | refine AHeap.Ext.set ?_ (by first | assumption | omega | (simp only [nx_alloc, nx_bump, nx_set]; omega)) | refine AHeap.Ext.alloc ?_ | refine AHeap.Ext.bump ?_))
     ·grind
    ·have d0 : decide ((k : Int) > 0) = true := by simp; omega
     have hk1 : k - 1 < lists.length := by omega
     have ho : overN (lenAhead lists k) lists[k].length = decide (lists[k - 1].length < lists[k].length) := by
      unfold lenAhead
      rw [if_neg hk0, List.getElem?_eq_getElem hk1]
      rfl
     rw [ho] at ht
     have hr1 := rL_get hk1
     have h0i : (0 : Int) ≤ (k : Int) - 1 := by omega
     have hti : ((k : Int) - 1).toNat = k - 1 := by omega
     ((try simp (disch := first | assumption | omega | (simp only [nx_alloc, nx_bump, nx_set] <;> omega) | fail) only [↓YA, YB, YC, YZ, YF, ↓reduceIte, Nat.reduceEqDiff, Nat.reduceAdd, Nat.reduceMul, Nat.reduceLeDiff, hQr, hQn, c77_0, eNod, f45, f44, f2, f3, f5, f6, hg, hg2, d0, h0k, h0i, hti, hr1, List.length_map]); repeat' ((first | apply GdK_st | apply GdK_sf | apply CondK_s) <;> intro hd <;> (try simp only [hd]) <;> (try simp (disch := first | assumption | omega | (simp only [nx_alloc, nx_bump, nx_set] <;> omega) | fail) only [↓YA, YB, YC, YZ, YF, ↓reduceIte, Nat.reduceEqDiff, Nat.reduceAdd, Nat.reduceMul, Nat.reduceLeDiff, hQr, hQn, hd, c77_0, eNod, f45, f44, f2, f3, f5, f6, hg, hg2, d0, h0k, h0i, hti, hr1, List.length_map])))
     any_goals
      refine fin_i ?_ ?_
      ·(repeat (first | assumption | exact AHeap.Ext.refl _ | refine AHeap.Ext.set ?_ (by first | assumption | omega | (simp only [nx_alloc, nx_bump, nx_set]; omega)) | refine AHeap.Ext.alloc ?_ | refine AHeap.Ext.bump ?_))
      ·grind
     refine ⟨?_, ?_⟩
     ·(repeat (first | assumption | exact AHeap.Ext.refl _ | refine AHeap.Ext.set ?_ (by first | assumption | omega | (simp only [nx_alloc, nx_bump, nx_set]; omega)) | refine AHeap.Ext.alloc ?_ | refine AHeap.Ext.bump ?_))
     ·grind
  ·rintro F G ⟨f45, f44, f2, f3, hxG, hg, hg2, ht⟩
   have hS0 : S = 0 := by rw [ht, List.drop_length, listsErr_end]
   rw [hS0] at hT
   have hgl := AHeap.lt hg2
   have hxn := hxG.next
   unfold eNod at hg2
   ((try simp (disch := first | assumption | omega | (simp only [nx_alloc, nx_bump, nx_set] <;> omega) | fail) only [↓YA, YB, YC, YZ, YF, ↓reduceIte, Nat.reduceEqDiff, Nat.reduceAdd, Nat.reduceMul, Nat.reduceLeDiff, hQr, hQn, c77_0, f2, f3, hg, hg2]); repeat' ((first | apply GdK_st | apply GdK_sf | apply CondK_s) <;> intro hd <;> (try simp only [hd]) <;> (try simp (disch := first | assumption | omega | (simp only [nx_alloc, nx_bump, nx_set] <;> omega) | fail) only [↓YA, YB, YC, YZ, YF, ↓reduceIte, Nat.reduceEqDiff, Nat.reduceAdd, Nat.reduceMul, Nat.reduceLeDiff, hQr, hQn, hd, c77_0, f2, f3, hg, hg2])))
   any_goals
    refine fin_i ?_ ?_
    ·(repeat (first | assumption | exact AHeap.Ext.refl _ | refine AHeap.Ext.set ?_ (by first | assumption | omega | (simp only [nx_alloc, nx_bump, nx_set]; omega)) | refine AHeap.Ext.alloc ?_ | refine AHeap.Ext.bump ?_))
    ·grind
   refine CallK.use (rcell_sound tok x d all _ hl) ?_
   rintro r H' ⟨rfl, k2, rfl⟩
   cases hb : cellOk x d all with
   | true =>
    ((try simp (disch := first | assumption | omega | (simp only [nx_alloc, nx_bump, nx_set] <;> omega) | fail) only [↓YA, YB, YC, YZ, YF, ↓reduceIte, Nat.reduceEqDiff, Nat.reduceAdd, Nat.reduceMul, Nat.reduceLeDiff, hQr, hQn, c77_0, hb]); repeat' ((first | apply GdK_st | apply GdK_sf | apply CondK_s) <;> intro hd <;> (try simp only [hd]) <;> (try simp (disch := first | assumption | omega | (simp only [nx_alloc, nx_bump, nx_set] <;> omega) | fail) only [↓YA, YB, YC, YZ, YF, ↓reduceIte, Nat.reduceEqDiff, Nat.reduceAdd, Nat.reduceMul, Nat.reduceLeDiff, hQr, hQn, hd, c77_0, hb])))
    refine fin_i ?_ ?_
    ·(repeat (first | assumption | exact AHeap.Ext.refl _ | refine AHeap.Ext.set ?_ (by first | assumption | omega | (simp only [nx_alloc, nx_bump, nx_set]; omega)) | refine AHeap.Ext.alloc ?_ | refine AHeap.Ext.bump ?_))
    ·grind
   | false =>
    ((try simp (disch := first | assumption | omega | (simp only [nx_alloc, nx_bump, nx_set] <;> omega) | fail) only [↓YA, YB, YC, YZ, YF, ↓reduceIte, Nat.reduceEqDiff, Nat.reduceAdd, Nat.reduceMul, Nat.reduceLeDiff, hQr, hQn, c77_0, hb]); repeat' ((first | apply GdK_st | apply GdK_sf | apply CondK_s) <;> intro hd <;> (try simp only [hd]) <;> (try simp (disch := first | assumption | omega | (simp only [nx_alloc, nx_bump, nx_set] <;> omega) | fail) only [↓YA, YB, YC, YZ, YF, ↓reduceIte, Nat.reduceEqDiff, Nat.reduceAdd, Nat.reduceMul, Nat.reduceLeDiff, hQr, hQn, hd, c77_0, hb])))
    refine fin_i ?_ ?_
    ·(repeat (first | assumption | exact AHeap.Ext.refl _ | refine AHeap.Ext.set ?_ (by first | assumption | omega | (simp only [nx_alloc, nx_bump, nx_set]; omega)) | refine AHeap.Ext.alloc ?_ | refine AHeap.Ext.bump ?_))
    ·grind
 ·have hT : checkErr x ⟨dim, lists, all⟩ = 2 := by unfold checkErr; rw [if_pos (by simp; omega)]
  rw [hT] at hQr hQn
  ((try simp (disch := first | assumption | omega | (simp only [nx_alloc, nx_bump, nx_set] <;> omega) | fail) only [↓YA, YB, YC, YZ, YF, ↓reduceIte, Nat.reduceEqDiff, Nat.reduceAdd, Nat.reduceMul, Nat.reduceLeDiff, hQr, hQn, c77_0, eNod, List.length_map]); repeat' ((first | apply GdK_st | apply GdK_sf | apply CondK_s) <;> intro hd <;> (try simp only [hd]) <;> (try simp (disch := first | assumption | omega | (simp only [nx_alloc, nx_bump, nx_set] <;> omega) | fail) only [↓YA, YB, YC, YZ, YF, ↓reduceIte, Nat.reduceEqDiff, Nat.reduceAdd, Nat.reduceMul, Nat.reduceLeDiff, hQr, hQn, hd, c77_0, eNod, List.length_map])))
  all_goals first
   | (refine fin_i ?_ rfl; (repeat (first | assumption | exact AHeap.Ext.refl _ | refine AHeap.Ext.set ?_ (by first | assumption | omega | (simp only [nx_alloc, nx_bump, nx_set]; omega)) | refine AHeap.Ext.alloc ?_ | refine AHeap.Ext.bump ?_)))
   | (exfalso; grind)
set_option maxHeartbeats 4000000 in
theorem reach_sound (t : Tok) (n : Nod) (H : AHeap) (h1 : n.lists.length ≤ 1000000) (h2 : n.lists.flatten.length ≤ 1000000) : Sound Try.prog 58 [.agg (eNod t n)] H (Pure H (.sl .no (rC (each n)))) := by
 refine fn_soundQ hE cf58 (Nat.le_of_ble_eq_true rfl) fun Q hQr hQn => ?_
 obtain ⟨dim, lists, all⟩ := n
 simp only at h1 h2
 ((try simp (disch := first | assumption | omega | (simp only [nx_alloc, nx_bump, nx_set] <;> omega) | fail) only [↓YA, YB, YC, YZ, YF, ↓reduceIte, Nat.reduceEqDiff, Nat.reduceAdd, Nat.reduceMul, Nat.reduceLeDiff, hQr, hQn, c58_0, eNod, List.length_map]); repeat' ((first | apply GdK_st | apply GdK_sf | apply CondK_s) <;> intro hd <;> (try simp only [hd]) <;> (try simp (disch := first | assumption | omega | (simp only [nx_alloc, nx_bump, nx_set] <;> omega) | fail) only [↓YA, YB, YC, YZ, YF, ↓reduceIte, Nat.reduceEqDiff, Nat.reduceAdd, Nat.reduceMul, Nat.reduceLeDiff, hQr, hQn, hd, c58_0, eNod, List.length_map])))
 refine AW_let fun G hG => ?_
 have hg0 : G.get H.next = some (.cells (eNod t ⟨dim, lists, all⟩) 45) := by rw [hG]; exact AHeap.get_alloc_self (H := H)
 have hGe : AHeap.Ext H G := by rw [hG]; exact (AHeap.Ext.refl H).alloc
 have hGn : G.next = H.next + 1 := by rw [hG]; rfl
 clear hG
 refine AW_forI (N := lists.length) (fun k F s => Fr.get F 9 = .i (k : Int) ∧ Fr.get F 8 = .i (lists.length : Int) ∧ Fr.get F 7 = .sl t (rL lists) ∧ Fr.get F 1 = .ptr H.next 0 ∧ Fr.get F 3 = .sl (.own G.next) (rC (lists.take k).flatten) ∧ AHeap.Ext H s ∧ s.get H.next = some (.cells (eNod t ⟨dim, lists, all⟩) 45) ∧ s.get G.next = some (.tok (lists.take k).flatten.length 43 12)) (by unfold maxLen; omega) (fun k F G h => ⟨h.1, h.2.1⟩)
  (F1 := [(3, .sl (.own G.next) []), (9, .i ((0 : Nat) : Int)), (8, .i (lists.length : Int)), (7, .sl t (rL lists)), (1, .ptr H.next 0)]) (H1 := G.alloc (.tok 0 43 12)) ?_ ?_ ?_ ?_
 ·exact (GStep.fr (F' := [(9, .i ((0 : Nat) : Int)), (8, .i (lists.length : Int)), (7, .sl t (rL lists)), (1, .ptr H.next 0), (3, .sl .full [])]) (by simp [Fr.get])).trans ((GStep.tok 3 43 12 rfl).trans (GStep.fr (by simp [Fr.get, Fr.put])))
 ·refine ⟨rfl, rfl, rfl, rfl, rfl, hGe.alloc, ?_, AHeap.get_alloc_self (H := G)⟩
  rw [AHeap.get_alloc_ne (by omega)]
  exact hg0
 ·rintro k F s hk ⟨f9, f8, f7, f1, f3, hx, hs, hg⟩
  have hr := rL_get hk
  have h0k : (0 : Int) ≤ k := by omega
  have hf := flat_le lists (k + 1)
  rw [take_flat hk, List.length_append] at hf
  have ha := allLen_rC lists[k]
  have hb := allLen_rC (lists.take k).flatten
  have hgl := AHeap.lt hg
  have hxn := hx.next
  have hne : H.next ≠ G.next := by omega
  have hm : (lists.take k).flatten.length + lists[k].length ≤ maxLen := by unfold maxLen; omega
  have hm2 : ((lists.take k).flatten.length + lists[k].length) * 96 ≤ 140737488355328 := by omega
  have hap : rC (lists.take k).flatten ++ rC lists[k] = rC (lists.take (k + 1)).flatten := by rw [take_flat hk]; simp
  have hlen : (lists.take k).flatten.length + lists[k].length = (lists.take (k + 1)).flatten.length := by rw [take_flat hk, List.length_append]
  ((try simp (disch := first | assumption | omega | (simp only [nx_alloc, nx_bump, nx_set] <;> omega) | fail) only [↓YA, YB, YC, YZ, YF, ↓reduceIte, Nat.reduceEqDiff, Nat.reduceAdd, Nat.reduceMul, Nat.reduceLeDiff, hQr, hQn, c58_0, f9, f8, f7, f1, f3, hr, h0k, ha, hb, hm, hm2, hg, hs, List.length_map]); repeat' ((first | apply GdK_st | apply GdK_sf | apply CondK_s) <;> intro hd <;> (try simp only [hd]) <;> (try simp (disch := first | assumption | omega | (simp only [nx_alloc, nx_bump, nx_set] <;> omega) | fail) only [↓YA, YB, YC, YZ, YF, ↓reduceIte, Nat.reduceEqDiff, Nat.reduceAdd, Nat.reduceMul, Nat.reduceLeDiff, hQr, hQn, hd, c58_0, f9, f8, f7, f1, f3, hr, h0k, ha, hb, hm, hm2, hg, hs, List.length_map])))
  exact ⟨by rw [hap], hx.set (by omega), by rw [hlen]⟩
 ·rintro F s ⟨f9, f8, f7, f1, f3, hx, hs, hg⟩
  rw [List.take_length] at f3 hg
  have hgl := AHeap.lt hg
  have hb := allLen_rC lists.flatten
  have ha : allLen 12 [eCel all] = true := rfl
  unfold eCel at ha
  have hm : lists.flatten.length + 1 ≤ maxLen := by unfold maxLen; omega
  have hm2 : (lists.flatten.length + 1) * 96 ≤ 140737488355328 := by omega
  have hap : rC lists.flatten ++ [eCel all] = rC (each ⟨dim, lists, all⟩) := by unfold each; simp
  unfold eCel at hap
  unfold eNod at hs
  ((try simp (disch := first | assumption | omega | (simp only [nx_alloc, nx_bump, nx_set] <;> omega) | fail) only [↓YA, YB, YC, YZ, YF, ↓reduceIte, Nat.reduceEqDiff, Nat.reduceAdd, Nat.reduceMul, Nat.reduceLeDiff, hQr, hQn, c58_0, f1, f3, hs, hb, ha, hm, hm2, hg, List.length_map]); repeat' ((first | apply GdK_st | apply GdK_sf | apply CondK_s) <;> intro hd <;> (try simp only [hd]) <;> (try simp (disch := first | assumption | omega | (simp only [nx_alloc, nx_bump, nx_set] <;> omega) | fail) only [↓YA, YB, YC, YZ, YF, ↓reduceIte, Nat.reduceEqDiff, Nat.reduceAdd, Nat.reduceMul, Nat.reduceLeDiff, hQr, hQn, hd, c58_0, f1, f3, hs, hb, ha, hm, hm2, hg, List.length_map])))
  rw [hap]
  exact fin_pure (hx.set (by omega)) rfl
set_option maxHeartbeats 4000000 in
theorem radd_sound (tok lt t : Tok) (x : Shp) (most : Int) (l : List Nod) (n : Nod) (H : AHeap) (hl : x.sizes.length ≤ 1000) (hx : ∀ s ∈ x.sizes, s.length ≤ 1000000) (hll : l.length ≤ 200000) (hn : smallN n) : Sound Try.prog 50 [.agg [.sl tok (rII x.sizes), .i x.measures], .i most, .sl lt (rN l), .agg (eNod t n)] H (Pure H (.i (addErr x most l n))) := by
 refine fn_soundQ hE cf50 (Nat.le_of_ble_eq_true rfl) fun Q hQr hQn => ?_
 obtain ⟨hn1, hn2, hn3⟩ := hn
 ((try simp (disch := first | assumption | omega | (simp only [nx_alloc, nx_bump, nx_set] <;> omega) | fail) only [↓YA, YB, YC, YZ, YF, ↓reduceIte, Nat.reduceEqDiff, Nat.reduceAdd, Nat.reduceMul, Nat.reduceLeDiff, hQr, hQn, c50_0, eNod]); repeat' ((first | apply GdK_st | apply GdK_sf | apply CondK_s) <;> intro hd <;> (try simp only [hd]) <;> (try simp (disch := first | assumption | omega | (simp only [nx_alloc, nx_bump, nx_set] <;> omega) | fail) only [↓YA, YB, YC, YZ, YF, ↓reduceIte, Nat.reduceEqDiff, Nat.reduceAdd, Nat.reduceMul, Nat.reduceLeDiff, hQr, hQn, hd, c50_0, eNod])))
 refine CallK.use (wrong_sound tok t x n _ (by omega) hx ⟨hn1, hn3⟩) ?_
 rintro r H2 ⟨rfl, k2, rfl⟩
 by_cases e1 : checkErr x n = 0
 ·have d1 : (checkErr x n != 0) = false := by simp [e1]
  ((try simp (disch := first | assumption | omega | (simp only [nx_alloc, nx_bump, nx_set] <;> omega) | fail) only [↓YA, YB, YC, YZ, YF, ↓reduceIte, Nat.reduceEqDiff, Nat.reduceAdd, Nat.reduceMul, Nat.reduceLeDiff, hQr, hQn, c50_0, d1]); repeat' ((first | apply GdK_st | apply GdK_sf | apply CondK_s) <;> intro hd <;> (try simp only [hd]) <;> (try simp (disch := first | assumption | omega | (simp only [nx_alloc, nx_bump, nx_set] <;> omega) | fail) only [↓YA, YB, YC, YZ, YF, ↓reduceIte, Nat.reduceEqDiff, Nat.reduceAdd, Nat.reduceMul, Nat.reduceLeDiff, hQr, hQn, hd, c50_0, d1])))
  refine CallK.use (reach_sound t n _ hn1 (by omega)) ?_
  rintro r H2 ⟨rfl, k3, rfl⟩
  ((try simp (disch := first | assumption | omega | (simp only [nx_alloc, nx_bump, nx_set] <;> omega) | fail) only [↓YA, YB, YC, YZ, YF, ↓reduceIte, Nat.reduceEqDiff, Nat.reduceAdd, Nat.reduceMul, Nat.reduceLeDiff, hQr, hQn, List.length_map]); repeat' ((first | apply GdK_st | apply GdK_sf | apply CondK_s) <;> intro hd <;> (try simp only [hd]) <;> (try simp (disch := first | assumption | omega | (simp only [nx_alloc, nx_bump, nx_set] <;> omega) | fail) only [↓YA, YB, YC, YZ, YF, ↓reduceIte, Nat.reduceEqDiff, Nat.reduceAdd, Nat.reduceMul, Nat.reduceLeDiff, hQr, hQn, hd, List.length_map])))
  have hT : addErr x most l n = if (lastB x n.dim || (each n).all (leadB l n.dim)) = false then 9 else if most ≤ l.length then 7 else 0 := by
   unfold addErr; rw [if_neg (by simp [e1])]; rfl
  obtain ⟨hd1, hd2, _⟩ := check_dim e1
  have hel : (each n).length ≤ 1000000 := each_len ⟨hn1, hn2, hn3⟩
  have hch := check_child e1
  have hlb : lastB x n.dim = (n.dim == (x.sizes.length : Int) - 1) := rfl
  generalize hes : each n = es at *
  generalize addErr x most l n = T at *
  refine AW_forI (N := es.length) (fun k F G => Fr.get F 21 = .i (k : Int) ∧ Fr.get F 20 = .i (es.length : Int) ∧ Fr.get F 19 = .sl .no (rC es) ∧ Fr.get F 4 = .ptr H.next 0 ∧ Fr.get F 7 = .ptr (H.next + 1) 0 ∧ Fr.get F 2 = .sl lt (rN l) ∧ Fr.get F 1 = .i most ∧ AHeap.Ext H G ∧ G.get H.next = some (.cells [.sl tok (rII x.sizes), .i x.measures] 24) ∧ G.get (H.next + 1) = some (.cells (eNod t n) 45) ∧ T = if (lastB x n.dim || (es.drop k).all (leadB l n.dim)) = false then 9 else if most ≤ l.length then 7 else 0) (by unfold maxLen; omega) (fun k F G h => ⟨h.1, h.2.1⟩) (GStep.refl _ _) ?_ ?_ ?_
  ·refine ⟨rfl, rfl, rfl, rfl, rfl, rfl, rfl, (AHeap.Ext.refl H).alloc.alloc.bump.bump, ?_, ?_, hT⟩
   ·simp only [AHeap.get_bump]
    rw [AHeap.get_alloc_ne (by simp)]
    exact AHeap.get_alloc_self
   ·simp only [AHeap.get_bump]
    exact AHeap.get_alloc_self (H := H.alloc _)
  ·rintro k F G hk ⟨f21, f20, f19, f4, f7, f2, f1, hxG, hg1, hg2, ht⟩
   rw [all_drop hk] at ht
   have hr := rC_get hk
   have h0 : (0 : Int) ≤ k := by omega
   have hgl := AHeap.lt hg2
   have hxn := hxG.next
   have hg2' := hg2
   unfold eNod at hg2
   unfold eCel at hr
   cases hb : lastB x n.dim with
   | true =>
    have dl : decide (n.dim < (x.sizes.length : Int) - 1) = false := by rw [hlb] at hb; simp at hb ⊢; omega
    rw [hb, Bool.true_or] at ht
    ((try simp (disch := first | assumption | omega | (simp only [nx_alloc, nx_bump, nx_set] <;> omega) | fail) only [↓YA, YB, YC, YZ, YF, ↓reduceIte, Nat.reduceEqDiff, Nat.reduceAdd, Nat.reduceMul, Nat.reduceLeDiff, hQr, hQn, c50_0, eNod, f21, f20, f19, f4, f7, f2, f1, hg1, hg2, hr, h0, dl, List.length_map]); repeat' ((first | apply GdK_st | apply GdK_sf | apply CondK_s) <;> intro hd <;> (try simp only [hd]) <;> (try simp (disch := first | assumption | omega | (simp only [nx_alloc, nx_bump, nx_set] <;> omega) | fail) only [↓YA, YB, YC, YZ, YF, ↓reduceIte, Nat.reduceEqDiff, Nat.reduceAdd, Nat.reduceMul, Nat.reduceLeDiff, hQr, hQn, hd, c50_0, eNod, f21, f20, f19, f4, f7, f2, f1, hg1, hg2, hr, h0, dl, List.length_map])))
    refine ⟨?_, ?_⟩
    ·(repeat (first | assumption | exact AHeap.Ext.refl _ | refine AHeap.Ext.set ?_ (by first | assumption | omega | (simp only [nx_alloc, nx_bump, nx_set]; omega)) | refine AHeap.Ext.alloc ?_ | refine AHeap.Ext.bump ?_))
    ·rw [ht]; rfl
   | false =>
    have dl : decide (n.dim < (x.sizes.length : Int) - 1) = true := by rw [hlb] at hb; simp at hb ⊢; omega
    have hck1 := hch hb _ (List.getElem_mem hk)
    obtain ⟨d, hdc⟩ : ∃ d : Nat, es[k].child = d := ⟨es[k].child.toNat, by omega⟩
    have h0d : (0 : Int) ≤ d := by omega
    have hw : IntKind.i64.wrap (n.dim + 1) = n.dim + 1 := wrap_of (by omega) (by omega)
    rw [hb, Bool.false_or] at ht
    by_cases hdl : d < l.length
    ·have d2 : decide ((d : Int) ≥ (l.length : Int)) = false := by simp; omega
     have hrn := rN_get hdl
     have hLB : leadB l n.dim es[k] = (l[d].dim == n.dim + 1) := by
      unfold leadB
      rw [hdc]
      have : decide ((d : Int) < (l.length : Int)) = true := by simp; omega
      simp only [this, Bool.true_and, Int.toNat_natCast, List.getD_eq_getElem?_getD, List.getElem?_eq_getElem hdl, Option.getD_some]
      rfl
     rw [hLB] at ht
     unfold eNod at hrn
     ((try simp (disch := first | assumption | omega | (simp only [nx_alloc, nx_bump, nx_set] <;> omega) | fail) only [↓YA, YB, YC, YZ, YF, ↓reduceIte, Nat.reduceEqDiff, Nat.reduceAdd, Nat.reduceMul, Nat.reduceLeDiff, hQr, hQn, c50_0, eNod, f21, f20, f19, f4, f7, f2, f1, hg1, hg2, hr, h0, dl, hdc, d2, h0d, hrn, hw, List.length_map]); repeat' ((first | apply GdK_st | apply GdK_sf | apply CondK_s) <;> intro hd <;> (try simp only [hd]) <;> (try simp (disch := first | assumption | omega | (simp only [nx_alloc, nx_bump, nx_set] <;> omega) | fail) only [↓YA, YB, YC, YZ, YF, ↓reduceIte, Nat.reduceEqDiff, Nat.reduceAdd, Nat.reduceMul, Nat.reduceLeDiff, hQr, hQn, hd, c50_0, eNod, f21, f20, f19, f4, f7, f2, f1, hg1, hg2, hr, h0, dl, hdc, d2, h0d, hrn, hw, List.length_map])))
     ·refine fin_i ?_ ?_
      ·(repeat (first | assumption | exact AHeap.Ext.refl _ | refine AHeap.Ext.set ?_ (by first | assumption | omega | (simp only [nx_alloc, nx_bump, nx_set]; omega)) | refine AHeap.Ext.alloc ?_ | refine AHeap.Ext.bump ?_))
      ·grind
     ·refine ⟨?_, ?_⟩
      ·(repeat (first | assumption | exact AHeap.Ext.refl _ | refine AHeap.Ext.set ?_ (by first | assumption | omega | (simp only [nx_alloc, nx_bump, nx_set]; omega)) | refine AHeap.Ext.alloc ?_ | refine AHeap.Ext.bump ?_))
      ·grind
    ·have d2 : decide ((d : Int) ≥ (l.length : Int)) = true := by simp; omega
     have hLB : leadB l n.dim es[k] = false := by
      unfold leadB
      rw [hdc]
      have : decide ((d : Int) < (l.length : Int)) = false := by simp; omega
      simp only [this, Bool.false_and]
     rw [hLB] at ht
     ((try simp (disch := first | assumption | omega | (simp only [nx_alloc, nx_bump, nx_set] <;> omega) | fail) only [↓YA, YB, YC, YZ, YF, ↓reduceIte, Nat.reduceEqDiff, Nat.reduceAdd, Nat.reduceMul, Nat.reduceLeDiff, hQr, hQn, c50_0, eNod, f21, f20, f19, f4, f7, f2, f1, hg1, hg2, hr, h0, dl, hdc, d2, h0d, hw, List.length_map]); repeat' ((first | apply GdK_st | apply GdK_sf | apply CondK_s) <;> intro hd <;> (try simp only [hd]) <;> (try simp (disch := first | assumption | omega | (simp only [nx_alloc, nx_bump, nx_set] <;> omega) | fail) only [↓YA, YB, YC, YZ, YF, ↓reduceIte, Nat.reduceEqDiff, Nat.reduceAdd, Nat.reduceMul, Nat.reduceLeDiff, hQr, hQn, hd, c50_0, eNod, f21, f20, f19, f4, f7, f2, f1, hg1, hg2, hr, h0, dl, hdc, d2, h0d, hw, List.length_map])))
     refine fin_i ?_ ?_
     ·(repeat (first | assumption | exact AHeap.Ext.refl _ | refine AHeap.Ext.set ?_ (by first | assumption | omega | (simp only [nx_alloc, nx_bump, nx_set]; omega)) | refine AHeap.Ext.alloc ?_ | refine AHeap.Ext.bump ?_))
     ·grind
  ·rintro F G ⟨f21, f20, f19, f4, f7, f2, f1, hxG, hg1, hg2, ht⟩
   rw [List.drop_length] at ht
   simp only [List.all_nil, Bool.or_true] at ht
   ((try simp (disch := first | assumption | omega | (simp only [nx_alloc, nx_bump, nx_set] <;> omega) | fail) only [↓YA, YB, YC, YZ, YF, ↓reduceIte, Nat.reduceEqDiff, Nat.reduceAdd, Nat.reduceMul, Nat.reduceLeDiff, hQr, hQn, c50_0, f2, f1, List.length_map]); repeat' ((first | apply GdK_st | apply GdK_sf | apply CondK_s) <;> intro hd <;> (try simp only [hd]) <;> (try simp (disch := first | assumption | omega | (simp only [nx_alloc, nx_bump, nx_set] <;> omega) | fail) only [↓YA, YB, YC, YZ, YF, ↓reduceIte, Nat.reduceEqDiff, Nat.reduceAdd, Nat.reduceMul, Nat.reduceLeDiff, hQr, hQn, hd, c50_0, f2, f1, List.length_map])))
   all_goals
    refine fin_i hxG ?_
    grind
 ·have d1 : (checkErr x n != 0) = true := by simpa using e1
  have hT : addErr x most l n = checkErr x n := by unfold addErr; rw [if_pos e1]
  ((try simp (disch := first | assumption | omega | (simp only [nx_alloc, nx_bump, nx_set] <;> omega) | fail) only [↓YA, YB, YC, YZ, YF, ↓reduceIte, Nat.reduceEqDiff, Nat.reduceAdd, Nat.reduceMul, Nat.reduceLeDiff, hQr, hQn, c50_0, d1]); repeat' ((first | apply GdK_st | apply GdK_sf | apply CondK_s) <;> intro hd <;> (try simp only [hd]) <;> (try simp (disch := first | assumption | omega | (simp only [nx_alloc, nx_bump, nx_set] <;> omega) | fail) only [↓YA, YB, YC, YZ, YF, ↓reduceIte, Nat.reduceEqDiff, Nat.reduceAdd, Nat.reduceMul, Nat.reduceLeDiff, hQr, hQn, hd, c50_0, d1])))
  refine fin_i ?_ hT.symm
  (repeat (first | assumption | exact AHeap.Ext.refl _ | refine AHeap.Ext.set ?_ (by first | assumption | omega | (simp only [nx_alloc, nx_bump, nx_set]; omega)) | refine AHeap.Ext.alloc ?_ | refine AHeap.Ext.bump ?_))
set_option maxHeartbeats 4000000 in
theorem loads_sound (lt : Tok) (x : Shp) (l : List Nod) (H : AHeap) (hl : l.length ≤ 200000) (hn : ∀ n ∈ l, smallN n) : Sound Try.prog 21 [.agg (eShp x), .sl lt (rN l)] H (Pure H (.i (loadErr x l))) := by
 refine fn_soundQ hE cf21 (Nat.le_of_ble_eq_true rfl) fun Q hQr hQn => ?_
 have hx0 : AHeap.Ext H (H.alloc (.cells (eShp x) 24)) := (AHeap.Ext.refl H).alloc
 rw [eShp_eq] at hx0 ⊢
 ((try simp (disch := first | assumption | omega | (simp only [nx_alloc, nx_bump, nx_set] <;> omega) | fail) only [↓YA, YB, YC, YZ, YF, ↓reduceIte, Nat.reduceEqDiff, Nat.reduceAdd, Nat.reduceMul, Nat.reduceLeDiff, hQr, hQn, c21_0]); repeat' ((first | apply GdK_st | apply GdK_sf | apply CondK_s) <;> intro hd <;> (try simp only [hd]) <;> (try simp (disch := first | assumption | omega | (simp only [nx_alloc, nx_bump, nx_set] <;> omega) | fail) only [↓YA, YB, YC, YZ, YF, ↓reduceIte, Nat.reduceEqDiff, Nat.reduceAdd, Nat.reduceMul, Nat.reduceLeDiff, hQr, hQn, hd, c21_0])))
 refine CallK.use (rmay_sound x _) ?_
 rintro r H1 ⟨rfl, k1, rfl⟩
 cases hm : shpMay x with
 | false =>
  have hT : loadErr x l = 2 := by unfold loadErr; rw [hm]; rfl
  ((try simp (disch := first | assumption | omega | (simp only [nx_alloc, nx_bump, nx_set] <;> omega) | fail) only [↓YA, YB, YC, YZ, YF, ↓reduceIte, Nat.reduceEqDiff, Nat.reduceAdd, Nat.reduceMul, Nat.reduceLeDiff, hQr, hQn, c21_0, hm]); repeat' ((first | apply GdK_st | apply GdK_sf | apply CondK_s) <;> intro hd <;> (try simp only [hd]) <;> (try simp (disch := first | assumption | omega | (simp only [nx_alloc, nx_bump, nx_set] <;> omega) | fail) only [↓YA, YB, YC, YZ, YF, ↓reduceIte, Nat.reduceEqDiff, Nat.reduceAdd, Nat.reduceMul, Nat.reduceLeDiff, hQr, hQn, hd, c21_0, hm])))
  exact fin_i hx0.bump hT.symm
 | true =>
  obtain ⟨b1, b2, b3, b4, b5⟩ := shpMay_bounds hm
  have hss : ∀ s ∈ x.sizes, s.length ≤ 1000000 := fun s hs => by have := (sizesMay_bounds (b5 s hs)).2.1; omega
  have hT : loadErr x l = loadFrom x 131072 (l.take 0) (l.drop 0) := by unfold loadErr; rw [hm]; rfl
  generalize loadErr x l = T at *
  ((try simp (disch := first | assumption | omega | (simp only [nx_alloc, nx_bump, nx_set] <;> omega) | fail) only [↓YA, YB, YC, YZ, YF, ↓reduceIte, Nat.reduceEqDiff, Nat.reduceAdd, Nat.reduceMul, Nat.reduceLeDiff, hQr, hQn, c21_0, hm, List.length_map]); repeat' ((first | apply GdK_st | apply GdK_sf | apply CondK_s) <;> intro hd <;> (try simp only [hd]) <;> (try simp (disch := first | assumption | omega | (simp only [nx_alloc, nx_bump, nx_set] <;> omega) | fail) only [↓YA, YB, YC, YZ, YF, ↓reduceIte, Nat.reduceEqDiff, Nat.reduceAdd, Nat.reduceMul, Nat.reduceLeDiff, hQr, hQn, hd, c21_0, hm, List.length_map])))
  refine AW_forI (N := l.length) (fun k F G => Fr.get F 12 = .i (k : Int) ∧ Fr.get F 11 = .i (l.length : Int) ∧ Fr.get F 2 = .ptr H.next 0 ∧ Fr.get F 1 = .sl lt (rN l) ∧ AHeap.Ext H G ∧ G.get H.next = some (.cells [.sl .no (rII x.sizes), .i x.measures] 24) ∧ T = loadFrom x 131072 (l.take k) (l.drop k)) (by unfold maxLen; omega) (fun k F G h => ⟨h.1, h.2.1⟩) (GStep.refl _ _) ?_ ?_ ?_
  ·exact ⟨rfl, rfl, rfl, rfl, hx0.bump, AHeap.get_alloc_self (H := H), hT⟩
  ·rintro k F G hk ⟨f12, f11, f2, f1, hxG, hg, ht⟩
   rw [loadFrom_step x 131072 l k hk] at ht
   have hr := rN_get hk
   have h0 : (0 : Int) ≤ k := by omega
   have hkl : k ≤ l.length := by omega
   have htk : (rN l).take k = rN (l.take k) := by simp
   unfold eNod at hr
   ((try simp (disch := first | assumption | omega | (simp only [nx_alloc, nx_bump, nx_set] <;> omega) | fail) only [↓YA, YB, YC, YZ, YF, ↓reduceIte, Nat.reduceEqDiff, Nat.reduceAdd, Nat.reduceMul, Nat.reduceLeDiff, hQr, hQn, c21_0, f12, f2, f1, hr, h0, hg, bndA, Nat.zero_le, true_or, hkl, htk, List.length_map, Option.map_none]); repeat' ((first | apply GdK_st | apply GdK_sf | apply CondK_s) <;> intro hd <;> (try simp only [hd]) <;> (try simp (disch := first | assumption | omega | (simp only [nx_alloc, nx_bump, nx_set] <;> omega) | fail) only [↓YA, YB, YC, YZ, YF, ↓reduceIte, Nat.reduceEqDiff, Nat.reduceAdd, Nat.reduceMul, Nat.reduceLeDiff, hQr, hQn, hd, c21_0, f12, f2, f1, hr, h0, hg, bndA, Nat.zero_le, true_or, hkl, htk, List.length_map, Option.map_none])))
   refine CallK.use (radd_sound .no _ .no x 131072 (l.take k) l[k] _ (by omega) hss (by simp; omega) (hn _ (List.getElem_mem hk))) ?_
   rintro r H2 ⟨rfl, k2, rfl⟩
   by_cases he : addErr x 131072 (l.take k) l[k] = 0
   ·have d1 : (addErr x 131072 (l.take k) l[k] != 0) = false := by simpa using he
    rw [if_neg (by simpa using he)] at ht
    ((try simp (disch := first | assumption | omega | (simp only [nx_alloc, nx_bump, nx_set] <;> omega) | fail) only [↓YA, YB, YC, YZ, YF, ↓reduceIte, Nat.reduceEqDiff, Nat.reduceAdd, Nat.reduceMul, Nat.reduceLeDiff, hQr, hQn, c21_0, d1, f12, f11, f2, f1, hg]); repeat' ((first | apply GdK_st | apply GdK_sf | apply CondK_s) <;> intro hd <;> (try simp only [hd]) <;> (try simp (disch := first | assumption | omega | (simp only [nx_alloc, nx_bump, nx_set] <;> omega) | fail) only [↓YA, YB, YC, YZ, YF, ↓reduceIte, Nat.reduceEqDiff, Nat.reduceAdd, Nat.reduceMul, Nat.reduceLeDiff, hQr, hQn, hd, c21_0, d1, f12, f11, f2, f1, hg])))
    exact ⟨hxG.bump, ht⟩
   ·have d1 : (addErr x 131072 (l.take k) l[k] != 0) = true := by simpa using he
    rw [if_pos he] at ht
    ((try simp (disch := first | assumption | omega | (simp only [nx_alloc, nx_bump, nx_set] <;> omega) | fail) only [↓YA, YB, YC, YZ, YF, ↓reduceIte, Nat.reduceEqDiff, Nat.reduceAdd, Nat.reduceMul, Nat.reduceLeDiff, hQr, hQn, c21_0, d1]); repeat' ((first | apply GdK_st | apply GdK_sf | apply CondK_s) <;> intro hd <;> (try simp only [hd]) <;> (try simp (disch := first | assumption | omega | (simp only [nx_alloc, nx_bump, nx_set] <;> omega) | fail) only [↓YA, YB, YC, YZ, YF, ↓reduceIte, Nat.reduceEqDiff, Nat.reduceAdd, Nat.reduceMul, Nat.reduceLeDiff, hQr, hQn, hd, c21_0, d1])))
    exact fin_i hxG.bump ht.symm
  ·rintro F G ⟨f12, f11, f2, f1, hxG, hg, ht⟩
   rw [List.take_length, List.drop_length] at ht
   ((try simp (disch := first | assumption | omega | (simp only [nx_alloc, nx_bump, nx_set] <;> omega) | fail) only [↓YA, YB, YC, YZ, YF, ↓reduceIte, Nat.reduceEqDiff, Nat.reduceAdd, Nat.reduceMul, Nat.reduceLeDiff, hQr, hQn, c21_0]); repeat' ((first | apply GdK_st | apply GdK_sf | apply CondK_s) <;> intro hd <;> (try simp only [hd]) <;> (try simp (disch := first | assumption | omega | (simp only [nx_alloc, nx_bump, nx_set] <;> omega) | fail) only [↓YA, YB, YC, YZ, YF, ↓reduceIte, Nat.reduceEqDiff, Nat.reduceAdd, Nat.reduceMul, Nat.reduceLeDiff, hQr, hQn, hd, c21_0])))
   exact fin_i hxG ht.symm
theorem cnt_zero {n : Nat} {ks : List Int} : ((cnt n ks).take (n - 1)).contains 0 = false ↔ ∀ i : Nat, i < n - 1 → ks.contains (i : Int) = true := by
 rw [← Bool.not_eq_true, List.contains_iff_mem]
 constructor
 ·intro h i hi
  rw [List.contains_iff_mem]
  by_cases hm : (i : Int) ∈ ks
  ·exact hm
  ·refine absurd ?_ h
   have hl : i < ((cnt n ks).take (n - 1)).length := by rw [List.length_take, cnt_len]; omega
   have : ((cnt n ks).take (n - 1))[i] = 0 := by
    rw [List.getElem_take, cnt_get (by omega)]
    have := List.count_eq_zero.2 hm
    omega
   rw [← this]
   exact List.getElem_mem hl
 ·intro h hm
  obtain ⟨i, hi, he⟩ := List.getElem_of_mem hm
  rw [List.length_take, cnt_len] at hi
  rw [List.getElem_take, cnt_get (by omega)] at he
  have h1 := h i (by omega)
  rw [List.contains_iff_mem] at h1
  have := List.count_pos_iff.2 h1
  omega
theorem kids_drop {x : Shp} {l : List Nod} {k : Nat} (h : k < l.length) (v : Int) : (kids x (l.drop k)).contains v = ((!lastB x l[k].dim && ((each l[k]).map Cel.child).contains v) || (kids x (l.drop (k + 1))).contains v) := by
 rw [List.drop_eq_getElem_cons h]
 unfold kids
 rw [List.flatMap_cons, Bool.eq_iff_iff]
 cases lastB x l[k].dim <;> simp [List.contains_iff_mem, List.mem_append]
theorem child_drop {es : List Cel} {j : Nat} (h : j < es.length) (v : Int) : ((es.drop j).map Cel.child).contains v = (v == es[j].child || ((es.drop (j + 1)).map Cel.child).contains v) := by
 rw [List.drop_eq_getElem_cons h, List.map_cons, List.contains_cons]
set_option maxHeartbeats 8000000 in
theorem rwhole_sound (lt : Tok) (x : Shp) (l : List Nod) (H : AHeap) (hx : x.sizes.length ≤ 1000) (hl : l.length ≤ 200000) (hn : ∀ n ∈ l, smallN n) (hdm : ∀ n ∈ l, 0 ≤ n.dim ∧ n.dim < x.sizes.length) : Sound Try.prog 26 [.agg (eShp x), .sl lt (rN l)] H (Pure H (.b (wholeB x l))) := by
 refine fn_soundQ hE cf26 (Nat.le_of_ble_eq_true rfl) fun Q hQr hQn => ?_
 have hx0 : AHeap.Ext H (H.alloc (.cells (eShp x) 24)) := (AHeap.Ext.refl H).alloc
 rw [eShp_eq] at hx0 ⊢
 by_cases hz : l.length = 0
 ·have d0 : ((l.length : Int) == 0) = true := by simp [hz]
  have hT : wholeB x l = true := by unfold wholeB; rw [if_pos hz]
  ((try simp (disch := first | assumption | omega | (simp only [nx_alloc, nx_bump, nx_set] <;> omega) | fail) only [↓YA, YB, YC, YZ, YF, ↓reduceIte, Nat.reduceEqDiff, Nat.reduceAdd, Nat.reduceMul, Nat.reduceLeDiff, hQr, hQn, c26_0, d0, List.length_map]); repeat' ((first | apply GdK_st | apply GdK_sf | apply CondK_s) <;> intro hd <;> (try simp only [hd]) <;> (try simp (disch := first | assumption | omega | (simp only [nx_alloc, nx_bump, nx_set] <;> omega) | fail) only [↓YA, YB, YC, YZ, YF, ↓reduceIte, Nat.reduceEqDiff, Nat.reduceAdd, Nat.reduceMul, Nat.reduceLeDiff, hQr, hQn, hd, c26_0, d0, List.length_map])))
  rw [hT]
  exact fin_b hx0 rfl
 ·have d0 : ((l.length : Int) == 0) = false := by rw [beq_eq_false_iff_ne]; omega
  have hn1 : l.length - 1 < l.length := by omega
  have hr := rN_get hn1
  have h0 : (0 : Int) ≤ (l.length : Int) - 1 := by omega
  have hti : ((l.length : Int) - 1).toNat = l.length - 1 := by omega
  unfold eNod at hr
  have hT : wholeB x l = (l[l.length - 1].dim == 0 && !(((cnt l.length (kids x l)).take (l.length - 1)).contains 0)) := by
   unfold wholeB
   rw [if_neg hz]
   congr 2
   unfold nodAt
   rw [if_pos h0, hti, List.getElem?_eq_getElem hn1]
   rfl
  rw [hT] at hQr hQn
  cases hdz : (l[l.length - 1].dim == 0) with
  | false =>
   have d1 : (l[l.length - 1].dim != 0) = true := by simp [bne, hdz]
   rw [hdz, Bool.false_and] at hQr hQn
   ((try simp (disch := first | assumption | omega | (simp only [nx_alloc, nx_bump, nx_set] <;> omega) | fail) only [↓YA, YB, YC, YZ, YF, ↓reduceIte, Nat.reduceEqDiff, Nat.reduceAdd, Nat.reduceMul, Nat.reduceLeDiff, hQr, hQn, c26_0, d0, h0, hti, hr, d1, List.length_map]); repeat' ((first | apply GdK_st | apply GdK_sf | apply CondK_s) <;> intro hd <;> (try simp only [hd]) <;> (try simp (disch := first | assumption | omega | (simp only [nx_alloc, nx_bump, nx_set] <;> omega) | fail) only [↓YA, YB, YC, YZ, YF, ↓reduceIte, Nat.reduceEqDiff, Nat.reduceAdd, Nat.reduceMul, Nat.reduceLeDiff, hQr, hQn, hd, c26_0, d0, h0, hti, hr, d1, List.length_map])))
   exact fin_b hx0 rfl
  | true =>
   have d1 : (l[l.length - 1].dim != 0) = false := by simp [bne, hdz]
   rw [hdz, Bool.true_and] at hQr hQn
   ((try simp (disch := first | assumption | omega | (simp only [nx_alloc, nx_bump, nx_set] <;> omega) | fail) only [↓YA, YB, YC, YZ, YF, ↓reduceIte, Nat.reduceEqDiff, Nat.reduceAdd, Nat.reduceMul, Nat.reduceLeDiff, hQr, hQn, c26_0, d0, h0, hti, hr, d1, List.length_map]); repeat' ((first | apply GdK_st | apply GdK_sf | apply CondK_s) <;> intro hd <;> (try simp only [hd]) <;> (try simp (disch := first | assumption | omega | (simp only [nx_alloc, nx_bump, nx_set] <;> omega) | fail) only [↓YA, YB, YC, YZ, YF, ↓reduceIte, Nat.reduceEqDiff, Nat.reduceAdd, Nat.reduceMul, Nat.reduceLeDiff, hQr, hQn, hd, c26_0, d0, h0, hti, hr, d1, List.length_map])))
   generalize hK : kids x l = K at *
   refine AW_loopI (fun m F G => ∃ i : Nat, i ≤ l.length - 1 ∧ m = l.length - 1 - i ∧ Fr.get F 5 = .i (i : Int) ∧ Fr.get F 1 = .sl lt (rN l) ∧ Fr.get F 2 = .ptr H.next 0 ∧ AHeap.Ext H G ∧ G.get H.next = some (.cells [.sl .no (rII x.sizes), .i x.measures] 24) ∧ ∀ j : Nat, j < i → K.contains (j : Int) = true) (l.length - 1) (GStep.refl _ _) ⟨0, by omega, rfl, rfl, rfl, rfl, hx0, AHeap.get_alloc_self (H := H), fun j hj => by omega⟩ ?_
   rintro m F G ⟨i, hi, rfl, f5, f1, f2, hxG, hg, hall⟩
   by_cases hie : i = l.length - 1
   ·have d2 : decide ((i : Int) < (l.length : Int) - 1) = false := by simp; omega
    ((try simp (disch := first | assumption | omega | (simp only [nx_alloc, nx_bump, nx_set] <;> omega) | fail) only [↓YA, YB, YC, YZ, YF, ↓reduceIte, Nat.reduceEqDiff, Nat.reduceAdd, Nat.reduceMul, Nat.reduceLeDiff, hQr, hQn, c26_0, f5, f1, d2, List.length_map]); repeat' ((first | apply GdK_st | apply GdK_sf | apply CondK_s) <;> intro hd <;> (try simp only [hd]) <;> (try simp (disch := first | assumption | omega | (simp only [nx_alloc, nx_bump, nx_set] <;> omega) | fail) only [↓YA, YB, YC, YZ, YF, ↓reduceIte, Nat.reduceEqDiff, Nat.reduceAdd, Nat.reduceMul, Nat.reduceLeDiff, hQr, hQn, hd, c26_0, f5, f1, d2, List.length_map])))
    ((try simp (disch := first | assumption | omega | (simp only [nx_alloc, nx_bump, nx_set] <;> omega) | fail) only [↓YA, YB, YC, YZ, YF, ↓reduceIte, Nat.reduceEqDiff, Nat.reduceAdd, Nat.reduceMul, Nat.reduceLeDiff, hQr, hQn, c26_0]); repeat' ((first | apply GdK_st | apply GdK_sf | apply CondK_s) <;> intro hd <;> (try simp only [hd]) <;> (try simp (disch := first | assumption | omega | (simp only [nx_alloc, nx_bump, nx_set] <;> omega) | fail) only [↓YA, YB, YC, YZ, YF, ↓reduceIte, Nat.reduceEqDiff, Nat.reduceAdd, Nat.reduceMul, Nat.reduceLeDiff, hQr, hQn, hd, c26_0])))
    refine fin_b hxG ?_
    have := cnt_zero.2 (fun j hj => hall j (by omega) : ∀ j : Nat, j < l.length - 1 → K.contains (j : Int) = true)
    rw [this]; rfl
   ·have hi2 : i < l.length - 1 := by omega
    have d2 : decide ((i : Int) < (l.length : Int) - 1) = true := by simp; omega
    ((try simp (disch := first | assumption | omega | (simp only [nx_alloc, nx_bump, nx_set] <;> omega) | fail) only [↓YA, YB, YC, YZ, YF, ↓reduceIte, Nat.reduceEqDiff, Nat.reduceAdd, Nat.reduceMul, Nat.reduceLeDiff, hQr, hQn, c26_0, f5, f1, d2, List.length_map]); repeat' ((first | apply GdK_st | apply GdK_sf | apply CondK_s) <;> intro hd <;> (try simp only [hd]) <;> (try simp (disch := first | assumption | omega | (simp only [nx_alloc, nx_bump, nx_set] <;> omega) | fail) only [↓YA, YB, YC, YZ, YF, ↓reduceIte, Nat.reduceEqDiff, Nat.reduceAdd, Nat.reduceMul, Nat.reduceLeDiff, hQr, hQn, hd, c26_0, f5, f1, d2, List.length_map])))
    generalize hTT : (K.contains (i : Int)) = T at *
    refine AW_forI (N := l.length) (fun k F G => Fr.get F 31 = .i (k : Int) ∧ Fr.get F 30 = .i (l.length : Int) ∧ Fr.get F 29 = .sl lt (rN l) ∧ Fr.get F 5 = .i (i : Int) ∧ Fr.get F 1 = .sl lt (rN l) ∧ Fr.get F 2 = .ptr H.next 0 ∧ AHeap.Ext H G ∧ G.get H.next = some (.cells [.sl .no (rII x.sizes), .i x.measures] 24) ∧ ∃ b : Bool, Fr.get F 6 = .b b ∧ T = (b || (kids x (l.drop k)).contains (i : Int))) (by unfold maxLen; omega) (fun k F G h => ⟨h.1, h.2.1⟩) (GStep.refl _ _) ?_ ?_ ?_
    ·refine ⟨rfl, rfl, rfl, f5, f1, f2, hxG, hg, false, rfl, ?_⟩
     rw [List.drop_zero, hK, hTT]; rfl
    ·rintro k F G hk ⟨f31, f30, f29, f5, f1, f2, hxG, hg, b, f6, ht⟩
     rw [kids_drop hk] at ht
     have hrk := rN_get hk
     have h0k : (0 : Int) ≤ k := by omega
     have hgl := AHeap.lt hg
     have hxn := hxG.next
     have hs := hn _ (List.getElem_mem hk)
     have hdk := hdm _ (List.getElem_mem hk)
     have hel := each_len hs
     unfold eNod at hrk
     ((try simp (disch := first | assumption | omega | (simp only [nx_alloc, nx_bump, nx_set] <;> omega) | fail) only [↓YA, YB, YC, YZ, YF, ↓reduceIte, Nat.reduceEqDiff, Nat.reduceAdd, Nat.reduceMul, Nat.reduceLeDiff, hQr, hQn, c26_0, f31, f29, hrk, h0k]); repeat' ((first | apply GdK_st | apply GdK_sf | apply CondK_s) <;> intro hd <;> (try simp only [hd]) <;> (try simp (disch := first | assumption | omega | (simp only [nx_alloc, nx_bump, nx_set] <;> omega) | fail) only [↓YA, YB, YC, YZ, YF, ↓reduceIte, Nat.reduceEqDiff, Nat.reduceAdd, Nat.reduceMul, Nat.reduceLeDiff, hQr, hQn, hd, c26_0, f31, f29, hrk, h0k])))
     refine CallK.use (reach_sound .no l[k] _ hs.1 (by have := hs.2.1; omega)) ?_
     rintro r H2 ⟨rfl, k2, rfl⟩
     ((try simp (disch := first | assumption | omega | (simp only [nx_alloc, nx_bump, nx_set] <;> omega) | fail) only [↓YA, YB, YC, YZ, YF, ↓reduceIte, Nat.reduceEqDiff, Nat.reduceAdd, Nat.reduceMul, Nat.reduceLeDiff, hQr, hQn, List.length_map]); repeat' ((first | apply GdK_st | apply GdK_sf | apply CondK_s) <;> intro hd <;> (try simp only [hd]) <;> (try simp (disch := first | assumption | omega | (simp only [nx_alloc, nx_bump, nx_set] <;> omega) | fail) only [↓YA, YB, YC, YZ, YF, ↓reduceIte, Nat.reduceEqDiff, Nat.reduceAdd, Nat.reduceMul, Nat.reduceLeDiff, hQr, hQn, hd, List.length_map])))
     have hlb : lastB x l[k].dim = !(decide (l[k].dim < (x.sizes.length : Int) - 1)) := by
      unfold lastB
      rw [Bool.eq_iff_iff]
      simp
      omega
     rw [hlb, Bool.not_not] at ht
     generalize hes : each l[k] = es at *
     generalize hdd : decide (l[k].dim < (x.sizes.length : Int) - 1) = dd at *
     generalize hR : (kids x (l.drop (k + 1))).contains (i : Int) = R at *
     refine AW_forI (N := es.length) (fun j F s => Fr.get F 38 = .i (j : Int) ∧ Fr.get F 37 = .i (es.length : Int) ∧ Fr.get F 36 = .sl .no (rC es) ∧ Fr.get F 8 = .ptr G.next 0 ∧ Fr.get F 31 = .i (k : Int) ∧ Fr.get F 30 = .i (l.length : Int) ∧ Fr.get F 29 = .sl lt (rN l) ∧ Fr.get F 5 = .i (i : Int) ∧ Fr.get F 1 = .sl lt (rN l) ∧ Fr.get F 2 = .ptr H.next 0 ∧ AHeap.Ext H s ∧ s.get H.next = some (.cells [.sl .no (rII x.sizes), .i x.measures] 24) ∧ s.get G.next = some (.cells (eNod .no l[k]) 45) ∧ ∃ b : Bool, Fr.get F 6 = .b b ∧ T = (b || ((dd && ((es.drop j).map Cel.child).contains (i : Int)) || R))) (by unfold maxLen; omega) (fun k F G h => ⟨h.1, h.2.1⟩) (GStep.refl _ _) ?_ ?_ ?_
     ·refine ⟨rfl, rfl, rfl, rfl, f31, f30, f29, f5, f1, f2, ?_, ?_, ?_, b, f6, ht⟩
      ·(repeat (first | assumption | exact AHeap.Ext.refl _ | refine AHeap.Ext.set ?_ (by first | assumption | omega | (simp only [nx_alloc, nx_bump, nx_set]; omega)) | refine AHeap.Ext.alloc ?_ | refine AHeap.Ext.bump ?_))
      ·simp only [AHeap.get_bump]
       rw [AHeap.get_set_ne (by omega), AHeap.get_alloc_ne (by omega)]
       exact hg
      ·simp only [AHeap.get_bump]
       exact AHeap.get_set_self (by simp)
     ·rintro j F s hj ⟨f38, f37, f36, f8, f31, f30, f29, f5, f1, f2, hxs, hs1, hs2, b, f6, ht⟩
      rw [child_drop hj] at ht
      have hrj := rC_get hj
      have h0j : (0 : Int) ≤ j := by omega
      have hl1 := AHeap.lt hs1
      have hl2 := AHeap.lt hs2
      have hsn := hxs.next
      unfold eNod at hs2
      unfold eCel at hrj
      cases b with
      | true =>
       ((try simp (disch := first | assumption | omega | (simp only [nx_alloc, nx_bump, nx_set] <;> omega) | fail) only [↓YA, YB, YC, YZ, YF, ↓reduceIte, Nat.reduceEqDiff, Nat.reduceAdd, Nat.reduceMul, Nat.reduceLeDiff, hQr, hQn, c26_0, eNod, f38, f37, f36, f8, f31, f30, f29, f5, f1, f2, f6, hrj, h0j, hs1, hs2, hdd, List.length_map]); repeat' ((first | apply GdK_st | apply GdK_sf | apply CondK_s) <;> intro hd <;> (try simp only [hd]) <;> (try simp (disch := first | assumption | omega | (simp only [nx_alloc, nx_bump, nx_set] <;> omega) | fail) only [↓YA, YB, YC, YZ, YF, ↓reduceIte, Nat.reduceEqDiff, Nat.reduceAdd, Nat.reduceMul, Nat.reduceLeDiff, hQr, hQn, hd, c26_0, eNod, f38, f37, f36, f8, f31, f30, f29, f5, f1, f2, f6, hrj, h0j, hs1, hs2, hdd, List.length_map])))
       refine ⟨?_, true, rfl, ?_⟩
       ·(repeat (first | assumption | exact AHeap.Ext.refl _ | refine AHeap.Ext.set ?_ (by first | assumption | omega | (simp only [nx_alloc, nx_bump, nx_set]; omega)) | refine AHeap.Ext.alloc ?_ | refine AHeap.Ext.bump ?_))
       ·rw [ht]; simp
      | false =>
       cases dd with
       | false =>
        ((try simp (disch := first | assumption | omega | (simp only [nx_alloc, nx_bump, nx_set] <;> omega) | fail) only [↓YA, YB, YC, YZ, YF, ↓reduceIte, Nat.reduceEqDiff, Nat.reduceAdd, Nat.reduceMul, Nat.reduceLeDiff, hQr, hQn, c26_0, eNod, f38, f37, f36, f8, f31, f30, f29, f5, f1, f2, f6, hrj, h0j, hs1, hs2, hdd, List.length_map]); repeat' ((first | apply GdK_st | apply GdK_sf | apply CondK_s) <;> intro hd <;> (try simp only [hd]) <;> (try simp (disch := first | assumption | omega | (simp only [nx_alloc, nx_bump, nx_set] <;> omega) | fail) only [↓YA, YB, YC, YZ, YF, ↓reduceIte, Nat.reduceEqDiff, Nat.reduceAdd, Nat.reduceMul, Nat.reduceLeDiff, hQr, hQn, hd, c26_0, eNod, f38, f37, f36, f8, f31, f30, f29, f5, f1, f2, f6, hrj, h0j, hs1, hs2, hdd, List.length_map])))
        refine ⟨?_, false, rfl, ?_⟩
        ·(repeat (first | assumption | exact AHeap.Ext.refl _ | refine AHeap.Ext.set ?_ (by first | assumption | omega | (simp only [nx_alloc, nx_bump, nx_set]; omega)) | refine AHeap.Ext.alloc ?_ | refine AHeap.Ext.bump ?_))
        ·rw [ht]; simp
       | true =>
        ((try simp (disch := first | assumption | omega | (simp only [nx_alloc, nx_bump, nx_set] <;> omega) | fail) only [↓YA, YB, YC, YZ, YF, ↓reduceIte, Nat.reduceEqDiff, Nat.reduceAdd, Nat.reduceMul, Nat.reduceLeDiff, hQr, hQn, c26_0, eNod, f38, f37, f36, f8, f31, f30, f29, f5, f1, f2, f6, hrj, h0j, hs1, hs2, hdd, List.length_map]); repeat' ((first | apply GdK_st | apply GdK_sf | apply CondK_s) <;> intro hd <;> (try simp only [hd]) <;> (try simp (disch := first | assumption | omega | (simp only [nx_alloc, nx_bump, nx_set] <;> omega) | fail) only [↓YA, YB, YC, YZ, YF, ↓reduceIte, Nat.reduceEqDiff, Nat.reduceAdd, Nat.reduceMul, Nat.reduceLeDiff, hQr, hQn, hd, c26_0, eNod, f38, f37, f36, f8, f31, f30, f29, f5, f1, f2, f6, hrj, h0j, hs1, hs2, hdd, List.length_map])))
        refine ⟨?_, es[j].child == (i : Int), rfl, ?_⟩
        ·(repeat (first | assumption | exact AHeap.Ext.refl _ | refine AHeap.Ext.set ?_ (by first | assumption | omega | (simp only [nx_alloc, nx_bump, nx_set]; omega)) | refine AHeap.Ext.alloc ?_ | refine AHeap.Ext.bump ?_))
        ·rw [ht]
         have : ((i : Int) == es[j].child) = (es[j].child == (i : Int)) := by rw [Bool.eq_iff_iff]; simp; omega
         rw [this]
         simp [Bool.or_assoc]
     ·rintro F s ⟨f38, f37, f36, f8, f31, f30, f29, f5, f1, f2, hxs, hs1, hs2, b, f6, ht⟩
      rw [List.drop_length] at ht
      ((try simp (disch := first | assumption | omega | (simp only [nx_alloc, nx_bump, nx_set] <;> omega) | fail) only [↓YA, YB, YC, YZ, YF, ↓reduceIte, Nat.reduceEqDiff, Nat.reduceAdd, Nat.reduceMul, Nat.reduceLeDiff, hQr, hQn, f31, f30, f29, f5, f1, f2, f6, hs1]); repeat' ((first | apply GdK_st | apply GdK_sf | apply CondK_s) <;> intro hd <;> (try simp only [hd]) <;> (try simp (disch := first | assumption | omega | (simp only [nx_alloc, nx_bump, nx_set] <;> omega) | fail) only [↓YA, YB, YC, YZ, YF, ↓reduceIte, Nat.reduceEqDiff, Nat.reduceAdd, Nat.reduceMul, Nat.reduceLeDiff, hQr, hQn, hd, f31, f30, f29, f5, f1, f2, f6, hs1])))
      refine ⟨hxs, b, rfl, ?_⟩
      rw [ht, hR]; simp
    ·rintro F G ⟨f31, f30, f29, f5, f1, f2, hxG, hg, b, f6, ht⟩
     have hb : b = T := by
      rw [ht, List.drop_length]
      simp [kids]
     subst hb
     cases b with
     | false =>
      ((try simp (disch := first | assumption | omega | (simp only [nx_alloc, nx_bump, nx_set] <;> omega) | fail) only [↓YA, YB, YC, YZ, YF, ↓reduceIte, Nat.reduceEqDiff, Nat.reduceAdd, Nat.reduceMul, Nat.reduceLeDiff, hQr, hQn, c26_0, f6]); repeat' ((first | apply GdK_st | apply GdK_sf | apply CondK_s) <;> intro hd <;> (try simp only [hd]) <;> (try simp (disch := first | assumption | omega | (simp only [nx_alloc, nx_bump, nx_set] <;> omega) | fail) only [↓YA, YB, YC, YZ, YF, ↓reduceIte, Nat.reduceEqDiff, Nat.reduceAdd, Nat.reduceMul, Nat.reduceLeDiff, hQr, hQn, hd, c26_0, f6])))
      refine fin_b hxG ?_
      symm
      rw [Bool.not_eq_false']
      cases hc : ((cnt l.length K).take (l.length - 1)).contains 0 with
      | true => rfl
      | false =>
       have := cnt_zero.1 hc i hi2
       rw [hTT] at this
       cases this
     | true =>
      ((try simp (disch := first | assumption | omega | (simp only [nx_alloc, nx_bump, nx_set] <;> omega) | fail) only [↓YA, YB, YC, YZ, YF, ↓reduceIte, Nat.reduceEqDiff, Nat.reduceAdd, Nat.reduceMul, Nat.reduceLeDiff, hQr, hQn, c26_0, f6, f5, f1, f2, hg]); repeat' ((first | apply GdK_st | apply GdK_sf | apply CondK_s) <;> intro hd <;> (try simp only [hd]) <;> (try simp (disch := first | assumption | omega | (simp only [nx_alloc, nx_bump, nx_set] <;> omega) | fail) only [↓YA, YB, YC, YZ, YF, ↓reduceIte, Nat.reduceEqDiff, Nat.reduceAdd, Nat.reduceMul, Nat.reduceLeDiff, hQr, hQn, hd, c26_0, f6, f5, f1, f2, hg])))
      refine ⟨l.length - 1 - (i + 1), by omega, i + 1, by omega, rfl, by simp, hxG, fun j hj => ?_⟩
      by_cases hji : j = i
      ·subst hji; exact hTT
      ·exact hall j (by omega)
def vAg (a : Ag) : List Value := [.int .i64 a.n, .int .i64 a.s0, .int .i64 a.l0, .int .i64 a.h0, .int .i64 a.s1, .int .i64 a.l1, .int .i64 a.h1, .int .i64 a.s2, .int .i64 a.l2, .int .i64 a.h2]
def vCel (c : Cel) : List Value := .int .i64 c.key :: .int .i64 c.child :: vAg c.agg
theorem vsEq_ag (a b : Ag) : vsEq (vAg a) (vAg b) = decide (a = b) := by
 obtain ⟨n, s0, l0, h0, s1, l1, h1, s2, l2, h2⟩ := a
 obtain ⟨n', s0', l0', h0', s1', l1', h1', s2', l2', h2'⟩ := b
 rw [Bool.eq_iff_iff]
 simp [vAg, vsEq, vEq_int]
theorem vsEq_cel (a b : Cel) : vsEq (vCel a) (vCel b) = decide (a = b) := by
 obtain ⟨k, c, x⟩ := a
 obtain ⟨k', c', y⟩ := b
 rw [Bool.eq_iff_iff]
 simp [vCel, vsEq, vEq_int, vsEq_ag]
theorem stable_n {d : Nat} {op : AOp} {F : Fr} {H : AHeap} : AI.stable ⟨none, some d, op⟩ F H = (op.ev F H = some (Fr.get F d, H)) := by
 simp [AI.stable, AI.want]
theorem stable_g {s d : Nat} {t : Bool} {op : AOp} {F : Fr} {H : AHeap} : AI.stable ⟨some (s, t), some d, op⟩ F H = @GdK (Fr.get F s) t ⟨op.ev F H = some (Fr.get F d, H)⟩ ⟨fun _ _ => True⟩ := by
 simp only [AI.stable, AI.want, GdK]
 cases Fr.get F s with
 | sc v =>
  cases v with
  | bool c => cases c <;> cases t <;> simp
  | _ => rfl
 | _ => rfl
theorem stables_nil {F : Fr} {H : AHeap} : (∀ r ∈ ([] : List AI), r.stable F H) = True := by simp
theorem stables_cons {F : Fr} {H : AHeap} {a : AI} {l : List AI} : (∀ r ∈ a :: l, r.stable F H) = (a.stable F H ∧ ∀ r ∈ l, r.stable F H) := by simp
theorem YE : (∀ {α β : Type} {f : α → β} {l : List α} {i : Nat}, (l.map f)[i]? = (l[i]?).map f) ∧ (∀ {α : Type} {l : List α} {i : Nat} (h : i < l.length), l[i]? = some l[i]) ∧
  (∀ {a : Ag}, (eAg a).length = 10) ∧ (∀ {c : Cel}, (eCel c).length = 12) ∧ (∀ {t : Tok} {n : Nod}, (eNod t n).length = 14) ∧ (∀ {x : Shp}, (eShp x).length = 2) ∧
  (∀ {a : Ag}, (eAg a).take 10 = eAg a) ∧ (∀ {c : Cel}, (eCel c).take 12 = eCel c) ∧ (∀ {t : Tok} {n : Nod}, (eNod t n).take 14 = eNod t n) ∧ (∀ {x : Shp}, (eShp x).take 2 = eShp x) ∧
  (∀ {c : Cel}, (eCel c)[0]? = some (.i c.key)) ∧ (∀ {c : Cel}, (eCel c)[1]? = some (.i c.child)) ∧ (∀ {c : Cel}, ((eCel c).drop 2).take 10 = eAg c.agg) ∧ (∀ {a : Ag}, (eAg a)[0]? = some (.i a.n)) ∧
  (∀ {t : Tok} {n : Nod}, (eNod t n)[0]? = some (.i n.dim)) ∧ (∀ {t : Tok} {n : Nod}, (eNod t n)[1]? = some (.sl t (rL n.lists))) ∧ (∀ {t : Tok} {n : Nod}, (eNod t n)[2]? = some (.i n.all.key)) ∧ (∀ {t : Tok} {n : Nod}, (eNod t n)[3]? = some (.i n.all.child)) ∧
  (∀ {t : Tok} {n : Nod}, ((eNod t n).drop 2).take 12 = eCel n.all) ∧ (∀ {t : Tok} {n : Nod}, ((eNod t n).drop 4).take 10 = eAg n.all.agg) ∧ (∀ {x : Shp}, (eShp x)[0]? = some (.sl .no (rII x.sizes))) ∧ (∀ {x : Shp}, (eShp x)[1]? = some (.i x.measures)) ∧
  (∀ {a : Ag}, scs [.int .i64, .int .i64, .int .i64, .int .i64, .int .i64, .int .i64, .int .i64, .int .i64, .int .i64, .int .i64] (eAg a) = some (vAg a)) ∧
  (∀ {c : Cel}, scs [.int .i64, .int .i64, .int .i64, .int .i64, .int .i64, .int .i64, .int .i64, .int .i64, .int .i64, .int .i64, .int .i64, .int .i64] (eCel c) = some (vCel c)) ∧
  (∀ {a b : Ag}, vsEq (vAg a) (vAg b) = decide (a = b)) ∧ (∀ {a b : Cel}, vsEq (vCel a) (vCel b) = decide (a = b)) ∧ (∀ {n : Nat}, (0 ≤ (n : Int)) = True) ∧ (∀ {H : AHeap} {i : Nat} {o o' : AObj}, i = H.next → (H.alloc o).set i o' = H.alloc o') ∧
  (∀ {d op F H}, AI.stable ⟨none, some d, op⟩ F H = (op.ev F H = some (Fr.get F d, H))) ∧ (∀ {s d t op F H}, AI.stable ⟨some (s, t), some d, op⟩ F H = @GdK (Fr.get F s) t ⟨op.ev F H = some (Fr.get F d, H)⟩ ⟨fun _ _ => True⟩) ∧
  (∀ {F : Fr} {H : AHeap}, (∀ r ∈ ([] : List AI), r.stable F H) = True) ∧ (∀ {F : Fr} {H : AHeap} {a : AI} {l : List AI}, (∀ r ∈ a :: l, r.stable F H) = (a.stable F H ∧ ∀ r ∈ l, r.stable F H)) :=
 ⟨List.getElem?_map, List.getElem?_eq_getElem, rfl, rfl, rfl, rfl, rfl, rfl, rfl, rfl, rfl, rfl, rfl, rfl, rfl, rfl, rfl, rfl, rfl, rfl, rfl, rfl, rfl, rfl, vsEq_ag _ _, vsEq_cel _ _, by simp, set_alloc_at, stable_n, stable_g, stables_nil, stables_cons⟩
section
variable {K V : Type} [DecidableEq K] {kf : K → Value} {vf : V → AV}
def aGet (k : K) : List (K × V) → Option V
 | [] => none
 | (k', v) :: M => if k = k' then some v else aGet k M
def aSet (k : K) (v : V) : List (K × V) → List (K × V)
 | [] => [(k, v)]
 | (k', u) :: M => if k = k' then (k, v) :: M else (k', u) :: aSet k v M
def eMap (kf : K → Value) (vf : V → AV) (M : List (K × V)) : List (Value × AV) := M.map fun p => (kf p.1, vf p.2)
theorem mFind_map (hk : ∀ a b, kEq (kf a) (kf b) = decide (a = b)) (k : K) : ∀ M : List (K × V), mFind (kf k) (eMap kf vf M) = (aGet k M).map vf
 | [] => rfl
 | (k', v) :: M => by
  have ih := mFind_map hk k M
  unfold eMap at ih ⊢
  simp only [List.map_cons, mFind, hk, aGet]
  by_cases h : k = k' <;> simp [h, ih]
theorem mSet_map (hk : ∀ a b, kEq (kf a) (kf b) = decide (a = b)) (k : K) (v : V) : ∀ M : List (K × V), mSet (kf k) (vf v) (eMap kf vf M) = eMap kf vf (aSet k v M)
 | [] => rfl
 | (k', u) :: M => by
  have ih := mSet_map hk k v M
  unfold eMap at ih ⊢
  simp only [List.map_cons, mSet, hk, aSet]
  by_cases h : k = k' <;> simp [h, ih]
theorem aGet_set (k j : K) (v : V) : ∀ M : List (K × V), aGet j (aSet k v M) = if j = k then some v else aGet j M
 | [] => by simp [aSet, aGet]
 | (k', u) :: M => by
  have ih := aGet_set k j v M
  unfold aSet
  by_cases h : k = k'
  ·subst h
   rw [if_pos rfl]
   simp only [aGet]
   by_cases h2 : j = k <;> simp [h2]
  ·rw [if_neg h]
   simp only [aGet, ih]
   by_cases h2 : j = k
   ·subst h2; simp [h]
   ·simp [h2]
end
def kI (n : Int) : Value := .int .i64 n
def k2 (p : Int × Int) : Value := .agg #[.int .i64 p.1, .int .i64 p.2]
theorem k2_eq (a b : Int × Int) : kEq (k2 a) (k2 b) = decide (a = b) := by
 obtain ⟨x, y⟩ := a
 obtain ⟨x', y'⟩ := b
 rw [Bool.eq_iff_iff]
 simp [k2, kEq, vsEq, vEq_int]
theorem k2_of (a b : Int) : KK.of (.row [.int .i64, .int .i64]) (.agg [.i a, .i b]) = some (k2 (a, b)) := rfl
structure ExtB (m : Nat) (H H' : AHeap) : Prop where
 next : H.next ≤ H'.next
 get : ∀ i o, i ≠ m → H.get i = some o → H'.get i = some o
theorem ExtB.refl (m : Nat) (H : AHeap) : ExtB m H H := ⟨Nat.le_refl _, fun _ _ _ h => h⟩
theorem ExtB.trans {m : Nat} {H H' H'' : AHeap} (h : ExtB m H H') (k : ExtB m H' H'') : ExtB m H H'' := ⟨Nat.le_trans h.next k.next, fun i o hi e => k.get i o hi (h.get i o hi e)⟩
theorem ExtB.of {m : Nat} {H H' : AHeap} (h : AHeap.Ext H H') : ExtB m H H' := ⟨h.next, fun i o _ e => h.get i o e⟩
theorem ExtB.set {m : Nat} {H H' : AHeap} {o : AObj} (h : ExtB m H H') : ExtB m H (H'.set m o) := ⟨h.next, fun i o hi e => by rw [AHeap.get_set_ne hi]; exact h.get i o hi e⟩
theorem ExtB.alloc {m : Nat} {H H' : AHeap} {o : AObj} (h : ExtB m H H') : ExtB m H (H'.alloc o) := h.trans (.of (AHeap.Ext.refl _).alloc)
theorem ExtB.bump {m k : Nat} {H H' : AHeap} (h : ExtB m H H') : ExtB m H (H'.bump k) := h.trans (.of (AHeap.Ext.refl _).bump)
section
variable {w : World} {F : Nat → Prop}
end
section
variable {W : World}
theorem arg_shp {cs : Array Value} {y : shpSh.D} (h : shpSh.Is W (· < W.heap.size) cs.toList y) : ∃ x : Shp, VR (Gh.ro (allRO W)) W (.agg (eShp x)) (.agg cs) :=
 ⟨⟨y.1, y.2.1⟩, arg_agg (by simp [shpSh, Sh.pos, Sh.size, i64Sh]) h⟩
theorem nod_pos : (Sh.slice nodSh).pos := by simp [nodSh, celSh, agSh, partSh, i64Sh, Sh.pos, Sh.size]
end
end Go.Proofs.Ytgnpihhakogeeaa
