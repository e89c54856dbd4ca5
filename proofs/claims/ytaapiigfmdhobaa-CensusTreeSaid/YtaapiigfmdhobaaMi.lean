/- Texts of the walk, joined: Ta Tb Tc Td Te Tf Ye Ym Av. -/
import Derived.Test.YtaapiigfmdhobaaMh
import Derived.Sort.Walk0
import Derived.Test.YtaapiigfmdhobaaMd
import Derived.Test.YtaapiigfmdhobaaMe
namespace Go.Proofs.Ytaapiigfmdhobaa
set_option linter.unusedSimpArgs false
set_option linter.unusedVariables false
open Go.RowKit
def ArA (H : AHeap) (id : Nat) (x : Shp) (l : List Nod) : Prop := ∃ tok nt most, H.get id = some (.cells (eArN x tok nt l most) 93)
theorem ArA.ext {H H' : AHeap} {id : Nat} {x : Shp} {l : List Nod} (h : ArA H id x l) (hx : AHeap.Ext H H') : ArA H' id x l := by
 obtain ⟨tok, nt, most, h⟩ := h
 exact ⟨tok, nt, most, hx.get _ _ h⟩
theorem ArO.ara {H : AHeap} {id tk : Nat} {x : Shp} {tok : Tok} {l : List Nod} {most : Int} (h : ArO H id tk x tok l most) : ArA H id x l := ⟨_, _, _, h.cell⟩
theorem len_sound {H : AHeap} {id : Nat} {x : Shp} {l : List Nod} (ha : ArA H id x l) (hx : 1 ≤ x.sizes.length) : Sound Try.prog 12 [.ptr id 0] H (PureE H (.i l.length)) := by
 obtain ⟨tok, nt, most, h⟩ := ha
 refine fn_soundQ hE cf12 (Nat.le_of_ble_eq_true rfl) fun Q hQr hQn => ?_
 ((try simp (disch := first | assumption | omega | (simp only [nx_alloc, nx_bump, nx_set] <;> omega) | fail) only [↓YA, YB, YC, YZ, YF, ↓reduceIte, Nat.reduceEqDiff, Nat.reduceAdd, Nat.reduceMul, Nat.reduceLeDiff, hQr, hQn, c12_0]); repeat' ((first | apply GdK_st | apply GdK_sf | apply CondK_s) <;> intro hd <;> (try simp only [hd]) <;> (try simp (disch := first | assumption | omega | (simp only [nx_alloc, nx_bump, nx_set] <;> omega) | fail) only [↓YA, YB, YC, YZ, YF, ↓reduceIte, Nat.reduceEqDiff, Nat.reduceAdd, Nat.reduceMul, Nat.reduceLeDiff, hQr, hQn, hd, c12_0])))
 refine CallK.use (there_yes h hx) ?_
 rintro r H1 ⟨rfl, hx1⟩
 have hc := hx1.get _ _ h
 unfold eArN eAr at hc
 ((try simp (disch := first | assumption | omega | (simp only [nx_alloc, nx_bump, nx_set] <;> omega) | fail) only [↓YA, YB, YC, YZ, YF, ↓reduceIte, Nat.reduceEqDiff, Nat.reduceAdd, Nat.reduceMul, Nat.reduceLeDiff, hQr, hQn, c12_0, hc, List.length_map]); repeat' ((first | apply GdK_st | apply GdK_sf | apply CondK_s) <;> intro hd <;> (try simp only [hd]) <;> (try simp (disch := first | assumption | omega | (simp only [nx_alloc, nx_bump, nx_set] <;> omega) | fail) only [↓YA, YB, YC, YZ, YF, ↓reduceIte, Nat.reduceEqDiff, Nat.reduceAdd, Nat.reduceMul, Nat.reduceLeDiff, hQr, hQn, hd, c12_0, hc, List.length_map])))
 exact fin_keep ⟨rfl, hx1⟩
set_option maxHeartbeats 1000000 in
theorem nodes_sound {H : AHeap} {id : Nat} {x : Shp} {l : List Nod} (ha : ArA H id x l) (hx : 1 ≤ x.sizes.length) (hl : l.length ≤ 1000000) (hn : ∀ n ∈ l, smallN n) : Sound Try.prog 33 [.ptr id 0] H (Pure H (.sl .no (rN l))) := by
 obtain ⟨tok, nt, most, h⟩ := ha
 refine fn_soundQ hE cf33 (Nat.le_of_ble_eq_true rfl) fun Q hQr hQn => ?_
 ((try simp (disch := first | assumption | omega | (simp only [nx_alloc, nx_bump, nx_set] <;> omega) | fail) only [↓YA, YB, YC, YZ, YF, ↓reduceIte, Nat.reduceEqDiff, Nat.reduceAdd, Nat.reduceMul, Nat.reduceLeDiff, hQr, hQn, c33_0]); repeat' ((first | apply GdK_st | apply GdK_sf | apply CondK_s) <;> intro hd <;> (try simp only [hd]) <;> (try simp (disch := first | assumption | omega | (simp only [nx_alloc, nx_bump, nx_set] <;> omega) | fail) only [↓YA, YB, YC, YZ, YF, ↓reduceIte, Nat.reduceEqDiff, Nat.reduceAdd, Nat.reduceMul, Nat.reduceLeDiff, hQr, hQn, hd, c33_0])))
 refine CallK.use (there_yes h hx) ?_
 rintro r H1 ⟨rfl, hx1⟩
 have hc := hx1.get _ _ h
 have hx1n := hx1.next
 unfold eArN eAr at hc
 ((try simp (disch := first | assumption | omega | (simp only [nx_alloc, nx_bump, nx_set] <;> omega) | fail) only [↓YA, YB, YC, YZ, YF, ↓reduceIte, Nat.reduceEqDiff, Nat.reduceAdd, Nat.reduceMul, Nat.reduceLeDiff, hQr, hQn, c33_0, hc, List.length_map]); repeat' ((first | apply GdK_st | apply GdK_sf | apply CondK_s) <;> intro hd <;> (try simp only [hd]) <;> (try simp (disch := first | assumption | omega | (simp only [nx_alloc, nx_bump, nx_set] <;> omega) | fail) only [↓YA, YB, YC, YZ, YF, ↓reduceIte, Nat.reduceEqDiff, Nat.reduceAdd, Nat.reduceMul, Nat.reduceLeDiff, hQr, hQn, hd, c33_0, hc, List.length_map])))
 refine AW_forI (N := l.length) (fun k F G => Fr.get F 14 = .i (k : Int) ∧ Fr.get F 13 = .i (l.length : Int) ∧ Fr.get F 12 = .sl nt (rN l) ∧ Fr.get F 3 = .sl (.own H1.next) (rN (l.take k)) ∧ AHeap.Ext H G ∧ G.get H1.next = some (.tok k 60 14)) (by unfold maxLen; omega) (fun k F G h => ⟨h.1, h.2.1⟩)
  (F1 := [(3, .sl (.own H1.next) []), (14, .i ((0 : Nat) : Int)), (13, .i (l.length : Int)), (12, .sl nt (rN l))]) (H1 := H1.alloc (.tok 0 60 14)) ?_ ?_ ?_ ?_
 ·exact (GStep.fr (F' := [(14, .i ((0 : Nat) : Int)), (13, .i (l.length : Int)), (12, .sl nt (rN l)), (3, .sl .full [])]) (by simp [Fr.get])).trans ((GStep.tok 3 60 14 rfl).trans (GStep.fr (by simp [Fr.get, Fr.put])))
 ·exact ⟨rfl, rfl, rfl, rfl, hx1.alloc, AHeap.get_alloc_self (H := H1)⟩
 ·rintro k F G hk ⟨f14, f13, f12, f3, hxG, hg⟩
  have hr := rN_get hk
  have h0 : (0 : Int) ≤ k := by omega
  have hlk : (rN (l.take k)).length = k := by simp; omega
  have hgl := AHeap.lt hg
  have hgn := hxG.next
  have hs := hn _ (List.getElem_mem hk)
  unfold eNod at hr
  ((try simp (disch := first | assumption | omega | (simp only [nx_alloc, nx_bump, nx_set] <;> omega) | fail) only [↓YA, YB, YC, YZ, YF, ↓reduceIte, Nat.reduceEqDiff, Nat.reduceAdd, Nat.reduceMul, Nat.reduceLeDiff, hQr, hQn, c33_0, f14, f12, f3, hr, h0]); repeat' ((first | apply GdK_st | apply GdK_sf | apply CondK_s) <;> intro hd <;> (try simp only [hd]) <;> (try simp (disch := first | assumption | omega | (simp only [nx_alloc, nx_bump, nx_set] <;> omega) | fail) only [↓YA, YB, YC, YZ, YF, ↓reduceIte, Nat.reduceEqDiff, Nat.reduceAdd, Nat.reduceMul, Nat.reduceLeDiff, hQr, hQn, hd, c33_0, f14, f12, f3, hr, h0])))
  refine CallK.use (nclone_sound .no l[k] _ ⟨hs.1, hs.2.2⟩) ?_
  rintro r H2 ⟨rfl, k2, rfl⟩
  have ha1 := allLen_rN (l.take k)
  have hb1 : k + 1 ≤ maxLen := by unfold maxLen; omega
  have hb2 : (k + 1) * 128 ≤ 140737488355328 := by omega
  have ho1 : allLen 14 [eNod .no l[k]] = true := rfl
  have hsn : rN (l.take k) ++ [eNod .no l[k]] = rN (l.take (k + 1)) := by rw [rN_snoc, List.take_succ_eq_append_getElem hk]
  unfold eNod at ho1
  conv at hsn => lhs; rhs; unfold eNod
  ((try simp (disch := first | assumption | omega | (simp only [nx_alloc, nx_bump, nx_set] <;> omega) | fail) only [↓YA, YB, YC, YZ, YF, ↓reduceIte, Nat.reduceEqDiff, Nat.reduceAdd, Nat.reduceMul, Nat.reduceLeDiff, hQr, hQn, eNod, f14, f13, f12, f3, hg, hlk, ha1, hb1, hb2, ho1]); repeat' ((first | apply GdK_st | apply GdK_sf | apply CondK_s) <;> intro hd <;> (try simp only [hd]) <;> (try simp (disch := first | assumption | omega | (simp only [nx_alloc, nx_bump, nx_set] <;> omega) | fail) only [↓YA, YB, YC, YZ, YF, ↓reduceIte, Nat.reduceEqDiff, Nat.reduceAdd, Nat.reduceMul, Nat.reduceLeDiff, hQr, hQn, hd, eNod, f14, f13, f12, f3, hg, hlk, ha1, hb1, hb2, ho1])))
  rw [hsn]
  refine ⟨rfl, ?_⟩
  (repeat (first | assumption | exact AHeap.Ext.refl _ | refine AHeap.Ext.set ?_ (by first | assumption | omega | (simp only [nx_alloc, nx_bump, nx_set]; omega)) | refine AHeap.Ext.alloc ?_ | refine AHeap.Ext.bump ?_))
 ·rintro F G ⟨f14, f13, f12, f3, hxG, hg⟩
  rw [List.take_length] at f3
  ((try simp (disch := first | assumption | omega | (simp only [nx_alloc, nx_bump, nx_set] <;> omega) | fail) only [↓YA, YB, YC, YZ, YF, ↓reduceIte, Nat.reduceEqDiff, Nat.reduceAdd, Nat.reduceMul, Nat.reduceLeDiff, hQr, hQn, c33_0, f3]); repeat' ((first | apply GdK_st | apply GdK_sf | apply CondK_s) <;> intro hd <;> (try simp only [hd]) <;> (try simp (disch := first | assumption | omega | (simp only [nx_alloc, nx_bump, nx_set] <;> omega) | fail) only [↓YA, YB, YC, YZ, YF, ↓reduceIte, Nat.reduceEqDiff, Nat.reduceAdd, Nat.reduceMul, Nat.reduceLeDiff, hQr, hQn, hd, c33_0, f3])))
  exact fin_pure hxG rfl
def vAg (a : Ag) : List Value := [.int .i64 a.n, .int .i64 a.s0, .int .i64 a.l0, .int .i64 a.h0, .int .i64 a.s1, .int .i64 a.l1, .int .i64 a.h1, .int .i64 a.s2, .int .i64 a.l2, .int .i64 a.h2]
def vCel (c : Cel) : List Value := .int .i64 c.key :: .int .i64 c.child :: vAg c.agg
theorem vsEq_ag (a b : Ag) : vsEq (vAg a) (vAg b) = decide (a = b) := by
 obtain ⟨n, s0, l0, h0, s1, l1, h1, s2, l2, h2⟩ := a
 obtain ⟨n', s0', l0', h0', s1', l1', h1', s2', l2', h2'⟩ := b
 rw [Bool.eq_iff_iff]
 simp [vAg, vsEq, vEq_int]
theorem vsEq_cel (a b : Cel) : vsEq (vCel a) (vCel b) = decide (a = b) := by
 obtain ⟨k, c, x⟩ := a
 obtain ⟨k', c', y⟩ := b
 rw [Bool.eq_iff_iff]
 simp [vCel, vsEq, vEq_int, vsEq_ag]
theorem stable_n {d : Nat} {op : AOp} {F : Fr} {H : AHeap} : AI.stable ⟨none, some d, op⟩ F H = (op.ev F H = some (Fr.get F d, H)) := by
 simp [AI.stable, AI.want]
theorem stable_g {s d : Nat} {t : Bool} {op : AOp} {F : Fr} {H : AHeap} : AI.stable ⟨some (s, t), some d, op⟩ F H = @GdK (Fr.get F s) t ⟨op.ev F H = some (Fr.get F d, H)⟩ ⟨fun _ _ => True⟩ := by
 simp only [AI.stable, AI.want, GdK]
 cases Fr.get F s with
 | sc v =>
  cases v with
  | bool c => cases c <;> cases t <;> simp
  | _ => rfl
 | _ => rfl
theorem stables_nil {F : Fr} {H : AHeap} : (∀ r ∈ ([] : List AI), r.stable F H) = True := by simp
theorem stables_cons {F : Fr} {H : AHeap} {a : AI} {l : List AI} : (∀ r ∈ a :: l, r.stable F H) = (a.stable F H ∧ ∀ r ∈ l, r.stable F H) := by simp
theorem bytes_toList (l : List UInt8) : (⟨l.toArray⟩ : ByteArray).toList = l := by rw [ByteArray.toList_eq]
theorem beq_dec (a b : List UInt8) : (a == b) = decide (a = b) := by rw [Bool.eq_iff_iff]; simp
theorem YE : (∀ {α β : Type} {f : α → β} {l : List α} {i : Nat}, (l.map f)[i]? = (l[i]?).map f) ∧ (∀ {α : Type} {l : List α} {i : Nat} (h : i < l.length), l[i]? = some l[i]) ∧
  (∀ {a : Ag}, (eAg a).length = 10) ∧ (∀ {c : Cel}, (eCel c).length = 12) ∧ (∀ {t : Tok} {n : Nod}, (eNod t n).length = 14) ∧ (∀ {x : Shp}, (eShp x).length = 2) ∧
  (∀ {a : Ag}, (eAg a).take 10 = eAg a) ∧ (∀ {c : Cel}, (eCel c).take 12 = eCel c) ∧ (∀ {t : Tok} {n : Nod}, (eNod t n).take 14 = eNod t n) ∧ (∀ {x : Shp}, (eShp x).take 2 = eShp x) ∧
  (∀ {c : Cel}, (eCel c)[0]? = some (.i c.key)) ∧ (∀ {c : Cel}, (eCel c)[1]? = some (.i c.child)) ∧ (∀ {c : Cel}, ((eCel c).drop 2).take 10 = eAg c.agg) ∧ (∀ {a : Ag}, (eAg a)[0]? = some (.i a.n)) ∧
  (∀ {t : Tok} {n : Nod}, (eNod t n)[0]? = some (.i n.dim)) ∧ (∀ {t : Tok} {n : Nod}, (eNod t n)[1]? = some (.sl t (rL n.lists))) ∧ (∀ {t : Tok} {n : Nod}, (eNod t n)[2]? = some (.i n.all.key)) ∧ (∀ {t : Tok} {n : Nod}, (eNod t n)[3]? = some (.i n.all.child)) ∧
  (∀ {t : Tok} {n : Nod}, ((eNod t n).drop 2).take 12 = eCel n.all) ∧ (∀ {t : Tok} {n : Nod}, ((eNod t n).drop 4).take 10 = eAg n.all.agg) ∧ (∀ {x : Shp}, (eShp x)[0]? = some (.sl .no (rII x.sizes))) ∧ (∀ {x : Shp}, (eShp x)[1]? = some (.i x.measures)) ∧
  (∀ {a : Ag}, scs [.int .i64, .int .i64, .int .i64, .int .i64, .int .i64, .int .i64, .int .i64, .int .i64, .int .i64, .int .i64] (eAg a) = some (vAg a)) ∧
  (∀ {c : Cel}, scs [.int .i64, .int .i64, .int .i64, .int .i64, .int .i64, .int .i64, .int .i64, .int .i64, .int .i64, .int .i64, .int .i64, .int .i64] (eCel c) = some (vCel c)) ∧
  (∀ {a b : Ag}, vsEq (vAg a) (vAg b) = decide (a = b)) ∧ (∀ {a b : Cel}, vsEq (vCel a) (vCel b) = decide (a = b)) ∧ (∀ {n : Nat}, (0 ≤ (n : Int)) = True) ∧ (∀ {H : AHeap} {i : Nat} {o o' : AObj}, i = H.next → (H.alloc o).set i o' = H.alloc o') ∧
  (∀ {d op F H}, AI.stable ⟨none, some d, op⟩ F H = (op.ev F H = some (Fr.get F d, H))) ∧ (∀ {s d t op F H}, AI.stable ⟨some (s, t), some d, op⟩ F H = @GdK (Fr.get F s) t ⟨op.ev F H = some (Fr.get F d, H)⟩ ⟨fun _ _ => True⟩) ∧
  (∀ {F : Fr} {H : AHeap}, (∀ r ∈ ([] : List AI), r.stable F H) = True) ∧ (∀ {F : Fr} {H : AHeap} {a : AI} {l : List AI}, (∀ r ∈ a :: l, r.stable F H) = (a.stable F H ∧ ∀ r ∈ l, r.stable F H)) ∧
  (∀ {l : List UInt8}, (⟨l.toArray⟩ : ByteArray).toList = l) ∧ (∀ {a b : List UInt8}, Op.bytesLess a b = decide (a < b)) ∧ (∀ {a b : List UInt8}, (a == b) = decide (a = b)) ∧ (∀ {l : List UInt8}, (⟨l.toArray⟩ : ByteArray).size = l.length) :=
 ⟨List.getElem?_map, List.getElem?_eq_getElem, rfl, rfl, rfl, rfl, rfl, rfl, rfl, rfl, rfl, rfl, rfl, rfl, rfl, rfl, rfl, rfl, rfl, rfl, rfl, rfl, rfl, rfl, vsEq_ag _ _, vsEq_cel _ _, by simp, set_alloc_at, stable_n, stable_g, stables_nil, stables_cons, bytes_toList _, bytesLess_eq _ _, beq_dec _ _, rfl⟩
section
variable {K V : Type} [DecidableEq K] {kf : K → Value} {vf : V → AV}
def aGet (k : K) : List (K × V) → Option V
 | [] => none
 | (k', v) :: M => if k = k' then some v else aGet k M
def aSet (k : K) (v : V) : List (K × V) → List (K × V)
 | [] => [(k, v)]
 | (k', u) :: M => if k = k' then (k, v) :: M else (k', u) :: aSet k v M
def eMap (kf : K → Value) (vf : V → AV) (M : List (K × V)) : List (Value × AV) := M.map fun p => (kf p.1, vf p.2)
theorem mFind_map (hk : ∀ a b, kEq (kf a) (kf b) = decide (a = b)) (k : K) : ∀ M : List (K × V), mFind (kf k) (eMap kf vf M) = (aGet k M).map vf
 | [] => rfl
 | (k', v) :: M => by
  have ih := mFind_map hk k M
  unfold eMap at ih ⊢
  simp only [List.map_cons, mFind, hk, aGet]
  by_cases h : k = k' <;> simp [h, ih]
theorem mSet_map (hk : ∀ a b, kEq (kf a) (kf b) = decide (a = b)) (k : K) (v : V) : ∀ M : List (K × V), mSet (kf k) (vf v) (eMap kf vf M) = eMap kf vf (aSet k v M)
 | [] => rfl
 | (k', u) :: M => by
  have ih := mSet_map hk k v M
  unfold eMap at ih ⊢
  simp only [List.map_cons, mSet, hk, aSet]
  by_cases h : k = k' <;> simp [h, ih]
theorem aGet_set (k j : K) (v : V) : ∀ M : List (K × V), aGet j (aSet k v M) = if j = k then some v else aGet j M
 | [] => by simp [aSet, aGet]
 | (k', u) :: M => by
  have ih := aGet_set k j v M
  unfold aSet
  by_cases h : k = k'
  ·subst h
   rw [if_pos rfl]
   simp only [aGet]
   by_cases h2 : j = k <;> simp [h2]
  ·rw [if_neg h]
   simp only [aGet, ih]
   by_cases h2 : j = k
   ·subst h2; simp [h]
   ·simp [h2]
theorem aGet_same (k : K) (v : V) (M : List (K × V)) : aGet k (aSet k v M) = some v := by rw [aGet_set, if_pos rfl]
theorem aSet_len (k : K) (v : V) : ∀ M : List (K × V), (aSet k v M).length = if (aGet k M).isSome then M.length else M.length + 1
 | [] => by simp [aSet, aGet]
 | (k', u) :: M => by
  have ih := aSet_len k v M
  unfold aSet aGet
  by_cases h : k = k'
  ·simp [h]
  ·simp only [h, if_false, List.length_cons, ih]
   split <;> omega
end
def kI (n : Int) : Value := .int .i64 n
def k2 (p : Int × Int) : Value := .agg #[.int .i64 p.1, .int .i64 p.2]
theorem kI_eq (a b : Int) : kEq (kI a) (kI b) = decide (a = b) := vEq_int a b
theorem kI_of (a : Int) : KK.of (.one (.int .i64)) (.i a) = some (kI a) := rfl
structure ExtB (m : Nat) (H H' : AHeap) : Prop where
 next : H.next ≤ H'.next
 get : ∀ i o, i ≠ m → H.get i = some o → H'.get i = some o
theorem ExtB.refl (m : Nat) (H : AHeap) : ExtB m H H := ⟨Nat.le_refl _, fun _ _ _ h => h⟩
theorem ExtB.trans {m : Nat} {H H' H'' : AHeap} (h : ExtB m H H') (k : ExtB m H' H'') : ExtB m H H'' := ⟨Nat.le_trans h.next k.next, fun i o hi e => k.get i o hi (h.get i o hi e)⟩
theorem ExtB.of {m : Nat} {H H' : AHeap} (h : AHeap.Ext H H') : ExtB m H H' := ⟨h.next, fun i o _ e => h.get i o e⟩
theorem ExtB.set {m : Nat} {H H' : AHeap} {o : AObj} (h : ExtB m H H') : ExtB m H (H'.set m o) := ⟨h.next, fun i o hi e => by rw [AHeap.get_set_ne hi]; exact h.get i o hi e⟩
theorem ExtB.alloc {m : Nat} {H H' : AHeap} {o : AObj} (h : ExtB m H H') : ExtB m H (H'.alloc o) := h.trans (.of (AHeap.Ext.refl _).alloc)
theorem ExtB.bump {m k : Nat} {H H' : AHeap} (h : ExtB m H H') : ExtB m H (H'.bump k) := h.trans (.of (AHeap.Ext.refl _).bump)
section
variable {w : World} {F : Nat → Prop}
theorem enc_slice {s : Sh} {α : Type} {f : α → List AV} (he : ∀ cs x, s.Is w F cs x → ∃ a, s.enc x = f a) {cs : List Value} {x : (Sh.slice s).D} (h : (Sh.slice s).Is w F cs x) : ∃ l : List α, l.length ≤ maxLen ∧ (Sh.slice s).enc x = [.sl .no (l.map f)] := by
 obtain ⟨A, c, css, _, h1, h2, h3, _, h5⟩ := h
 have : ∀ (l : List s.D), (∀ x ∈ l, ∃ a, s.enc x = f a) → ∃ m : List α, m.length = l.length ∧ l.map s.enc = m.map f := by
  intro l
  induction l with
  | nil => intro _; exact ⟨[], rfl, rfl⟩
  | cons y l ih =>
   intro hl
   obtain ⟨a, ha⟩ := hl y List.mem_cons_self
   obtain ⟨m, hm, e⟩ := ih fun z hz => hl z (List.mem_cons_of_mem _ hz)
   exact ⟨a :: m, by simp [hm], by simp [ha, e]⟩
 obtain ⟨m, hm, e⟩ := this x fun y hy => by
  obtain ⟨i, hi, rfl⟩ := List.getElem_of_mem hy
  have hi2 : i < css.length := by rw [h3]; exact hi
  exact he css[i] _ (h5 i _ _ (List.getElem?_eq_getElem hi2) (List.getElem?_eq_getElem hi))
 refine ⟨m, by rw [hm]; exact Nat.le_trans h1 h2, ?_⟩
 show [AV.sl .no (List.map s.enc x)] = _
 rw [e]
end
section
variable {W : World}
end
end Go.Proofs.Ytaapiigfmdhobaa
