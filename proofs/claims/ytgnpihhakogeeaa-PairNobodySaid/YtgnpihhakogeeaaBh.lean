/- The abstract machine is sound: regions whose order is open, walked. -/
import Derived.Test.YtgnpihhakogeeaaBg
namespace Go.Proofs.Ytgnpihhakogeeaa
set_option linter.unusedSimpArgs false
set_option linter.unusedVariables false
open Go.RowKit

section
variable {P : Program} {eqT : TypeId → Option (List SK)} {N n : Nat} {ops : Array Oper} {dirs : List (List Nat)} {ais : List AI} {tab : List (List Nat)} {L : List Nat} {chk : List (List Nat)} {F0 : Fr} {K : Fr → AHeap → Prop} {g0 : Gh} {H0 : AHeap} {w0 : World}
theorem mem_dst {ais : List AI} {i d : Nat} : d ∈ dstA ais i ↔ dstA ais i = some d := by simp [Option.mem_def]
/-- the frame as it is agrees with the frame as it would be, where an instruction that is next looks -/
theorem Inv.agr (D : DrawOk n dirs ais tab L chk) {p : Nat} {val : Nat → AV} {X : Nat → Bool} {E : List Nat} {blk : Nat → Nat} {Hc : AHeap} {g : Gh} {w : World} {a : Act} (I : Inv P N n dirs ais L chk F0 K g0 H0 w0 p val X E blk Hc g w a) {i : Nat} (hin : i < n) (hX : X i = false) (hd : ∀ k ∈ dirs.getD i [], X k = true) (hq : L.idxOf i ≤ p) {ai : AI} (ha : ais[i]? = some ai) : Agr ai.reads (ovl ais E (fx ais L F0 X val p)) (frm ais L F0 val (L.idxOf i)) := by
  have hpre := D.listed I.down i hin hd
  intro t ht
  have hrd : rdsA ais i = ai.reads := by simp [rdsA, ha]
  rw [ovl_ne (fun k hk hdk => by
    obtain ⟨q1, q2, q3, q4⟩ := I.en k hk
    have hki : k ≠ i := by rintro rfl; rw [q3] at hX; cases hX
    rcases D.tmp k q1 i hin hki t (mem_dst.2 hdk) (.inl (by rw [hrd]; exact ht)) with h | h
    · have := (D.lin i hin k h).2; omega
    · have := D.listed I.down k q1 (I.down k q1 q3) i h
      rw [this] at hX; cases hX)]
  refine fx_get (fun r j hr hj hdj => ?_) hq (fun r j hr hr2 hj hdj => ?_)
  · obtain ⟨hpj, hjn⟩ := D.pos hj
    have hji : j ≠ i := by rintro rfl; omega
    rcases D.tmp j hjn i hin hji t (mem_dst.2 hdj) (.inl (by rw [hrd]; exact ht)) with h | h
    · exact hpre j h
    · have := (D.lin j hjn i h).2; omega
  · obtain ⟨hpj, hjn⟩ := D.pos hj
    by_cases hji : j = i
    · subst hji; exact hX
    · rcases D.tmp j hjn i hin hji t (mem_dst.2 hdj) (.inl (by rw [hrd]; exact ht)) with h | h
      · have := (D.lin i hin j h).2; omega
      · cases hXj : X j with
        | false => rfl
        | true =>
          have := D.listed I.down j hjn (I.down j hjn hXj) i h
          rw [this] at hX; cases hX
theorem Inv.done (D : DrawOk n dirs ais tab L chk) {p : Nat} {val : Nat → AV} {X : Nat → Bool} {E : List Nat} {blk : Nat → Nat} {Hc : AHeap} {g : Gh} {w : World} {a : Act} (I : Inv P N n dirs ais L chk F0 K g0 H0 w0 p val X E blk Hc g w a) (hall : ∀ i < n, X i = true) : KR N g0 H0 w0 K a w := by
  obtain ⟨p, val, E, Hc, g, I, hnf⟩ := Inv.norm D _ p val E Hc g rfl I
  have hpn : p = n := by
    rcases hnf with h | ⟨e, he, _, hX⟩
    · exact h
    · rw [hall e (D.pos he).2] at hX; cases hX
  subst hpn
  have hE : E = [] := by
    apply List.eq_nil_iff_forall_not_mem.2
    intro i hi
    obtain ⟨q1, _, _, q4⟩ := I.en i hi
    have := (D.at q1).2
    omega
  subst hE
  have haw := I.aw
  rw [List.drop_eq_nil_of_le (by rw [D.len]; exact Nat.le_refl _)] at haw
  simp only [ents, List.filterMap_nil, AWDraw] at haw
  have hfr : FR g w N (fx ais L F0 X val p) a := I.fr
  refine ⟨_, Hc, g, haw, hfr.congr (fun t => ?_), I.wr, I.st⟩
  exact (fx_frm (fun r i _ hi _ => hall i (D.pos hi).2)).symm
theorem Inv.late (D : DrawOk n dirs ais tab L chk) {p : Nat} {val : Nat → AV} {X : Nat → Bool} {E : List Nat} {blk : Nat → Nat} {Hc : AHeap} {g g' : Gh} {w w' : World} {a a' : Act} (I : Inv P N n dirs ais L chk F0 K g0 H0 w0 p val X E blk Hc g w a) {i : Nat} (hin : i < n) (hX : X i = false) (hd : ∀ k ∈ dirs.getD i [], X k = true) (hq : L.idxOf i < p)
    (hfr : FR g' w' N (Fr.put (ovl ais E (fx ais L F0 X val p)) (dstA ais i) (val i)) a') (hwr : WR g' Hc w') (hst : Stp g0 H0 w0 g' Hc w') (hpend : ∀ k ∈ E, ∀ ak, ais[k]? = some ak → Pend g' Hc w' a' (blk k) ak) : Inv P N n dirs ais L chk F0 K g0 H0 w0 p val (fun j => if j = i then true else X j) E blk Hc g' w' a' := by
  have hEi : ∀ k ∈ E, k ≠ i := fun k hkE h => by have := (I.en k hkE).2.2.1; rw [h, hX] at this; cases this
  have hEd : ∀ k ∈ E, ∀ t, dstA ais i = some t → dstA ais k ≠ some t := by
    intro k hk t hdi hdk
    obtain ⟨q1, q2, _⟩ := I.en k hk
    have := D.own k q1 q2 i hin (fun h => hEi k hk h.symm) t (mem_dst.2 hdk)
    exact this (mem_dst.2 hdi)
  refine ⟨I.hp, I.aw, fun j hj hXj => ?_, fun j hj hk hpj => ?_, fun j hj hXj k hk => ?_, hfr.congr (fun t => ?_), hwr, hst, fun j hj hXj hpj => ?_, I.nd, fun k hk => ?_, hpend, I.dist, I.fresh⟩
  · by_cases h : j = i
    · subst h; exact .inl hq
    · exact I.sub j hj (by simpa [h] using hXj)
  · by_cases h : j = i
    · simp [h]
    · simp only [if_neg h]; exact I.effs j hj hk hpj
  · by_cases h : j = i
    · subst h
      have := hd k hk
      split
      · rfl
      · exact this
    · have := I.down j hj (by simpa [h] using hXj) k hk
      split
      · rfl
      · exact this
  · have hfa : Fr.get (fx ais L F0 (fun j => if j = i then true else X j) val p) t = Fr.get (Fr.put (fx ais L F0 X val p) (dstA ais i) (val i)) t := by
      refine fx_add (D.at hin).1 (fun r hr => ((D.pos hr).1).symm) hX hq (fun r j hr hr2 hj hdi hdj => ?_)
      obtain ⟨hpj, hjn⟩ := D.pos hj
      have hji : j ≠ i := by rintro rfl; omega
      rcases D.tmp j hjn i hin hji t (mem_dst.2 hdj) (.inr (mem_dst.2 hdi)) with h | h
      · have := (D.lin i hin j h).2; omega
      · cases hXj : X j with
        | false => rfl
        | true =>
          have := D.listed I.down j hjn (I.down j hjn hXj) i h
          rw [this] at hX; cases hX
    rw [Fr.get_put]
    by_cases hdi : dstA ais i = some t
    · rw [if_pos hdi, ovl_ne (fun k hk => hEd k hk t hdi), hfa, Fr.get_put, if_pos hdi]
    · rw [if_neg hdi]
      rcases ovl_get (ais := ais) (F := fx ais L F0 (fun j => if j = i then true else X j) val p) (t := t) (E := E) with ⟨⟨k, hk, hdk⟩, hg⟩ | ⟨hn, hg⟩
      · rw [hg, ovl_mem hk hdk]
      · rw [hg, ovl_ne hn, hfa, Fr.get_put, if_neg hdi]
  · by_cases h : j = i
    · simp [h] at hXj
    · simp only [if_neg h] at hXj
      exact I.facts j hj hXj hpj
  · obtain ⟨q1, q2, q3, q4⟩ := I.en k hk
    exact ⟨q1, q2, by simp [q3], q4⟩
/-- a cell is made -/
theorem Inv.made (D : DrawOk n dirs ais tab L chk) {p : Nat} {val : Nat → AV} {X : Nat → Bool} {E : List Nat} {blk : Nat → Nat} {Hc : AHeap} {g : Gh} {w : World} {a : Act} (I : Inv P N n dirs ais L chk F0 K g0 H0 w0 p val X E blk Hc g w a) {i : Nat} (hin : i < n) (hX : X i = false) (hd : ∀ k ∈ dirs.getD i [], X k = true) (hk : kindA ais i = 3) {d Et : Nat} {z : AV} (ha : ais[i]? = some ⟨none, some d, .box Et (.c z)⟩) (hdN : d < N) {carr : Array Value} (hz : ∀ g w cs, z.cells = some cs → VRs g w cs carr.toList ∧ ∀ x ∈ cs, x.one = true) :
    Inv P N n dirs ais L chk F0 K g0 H0 w0 p val (fun j => if j = i then true else X j) (i :: E) (fun j => if j = i then w.heap.size else blk j) Hc g (w.alloc (.cells carr Et)) (a.put (some d) (.pointer (some ⟨w.heap.size, 0, none⟩))) := by
  have hEi : ∀ k ∈ E, k ≠ i := fun k hkE h => by have := (I.en k hkE).2.2.1; rw [h, hX] at this; cases this
  have hdst : dstA ais i = some d := by simp [dstA, ha]
  obtain ⟨k1, k2⟩ := new_junk I.wr (.cells carr Et)
  have hpi : p ≤ L.idxOf i := by
    rcases Nat.lt_or_ge (L.idxOf i) p with h | h
    · have := I.effs i hin (by omega) h
      rw [hX] at this; cases this
    · exact h
  have hsz0 := I.st.size
  have hfx : fx ais L F0 (fun j => if j = i then true else X j) val p = fx ais L F0 X val p := by
    refine fx_X (fun r j hr hj => ?_)
    have : j ≠ i := by rintro rfl; have := (D.pos hj).1; omega
    simp [this]
  have hput : ∀ t, t ≠ d → (a.put (some d) (.pointer (some ⟨w.heap.size, 0, none⟩))).tmps.getD t undef = a.tmps.getD t undef := by
    intro t ht
    simp [Act.put, Array.getElem?_setIfInBounds, Ne.symm ht]
  have hputd : (a.put (some d) (.pointer (some ⟨w.heap.size, 0, none⟩))).tmps.getD d undef = .pointer (some ⟨w.heap.size, 0, none⟩) := by
    simp [Act.put, Array.getElem?_setIfInBounds, I.fr.size, hdN]
  refine ⟨I.hp, I.aw, fun j hj hXj => ?_, fun j hj hk' hpj => ?_, fun j hj hXj k hk' => ?_, ?_, k1, I.st.trans k2, fun j hj hXj hpj => ?_, ?_, fun k hk' => ?_, fun k hk' ak hak => ?_, fun k hk' k2' hk2' hb => ?_, fun k hk' => ?_⟩
  · by_cases h : j = i
    · subst h; exact .inr (by simp)
    · exact (I.sub j hj (by simpa [h] using hXj)).imp id (fun h => by simp [h])
  · by_cases h : j = i
    · simp [h]
    · simp only [if_neg h]; exact I.effs j hj hk' hpj
  · by_cases h : j = i
    · subst h
      have := hd k hk'
      split
      · rfl
      · exact this
    · have := I.down j hj (by simpa [h] using hXj) k hk'
      split
      · rfl
      · exact this
  · rw [hfx]
    have hF := I.fr.mono k2.le
    refine ⟨by simpa [Act.put] using hF.size, hF.df, fun t => ?_⟩
    by_cases htd : t = d
    · subst htd
      rw [ovl_mem (List.mem_cons_self) hdst]
      exact .any _
    · rw [hput t htd]
      have := hF.get t
      have e : Fr.get (ovl ais (i :: E) (fx ais L F0 X val p)) t = Fr.get (ovl ais E (fx ais L F0 X val p)) t := by
        simp only [ovl, List.foldr_cons]
        rw [Fr.get_put, if_neg (by rw [hdst]; simp; omega)]
      rw [e]
      exact this
  · by_cases h : j = i
    · simp [h] at hXj
    · simp only [if_neg h] at hXj
      exact I.facts j hj hXj hpj
  · exact List.nodup_cons.2 ⟨fun h => hEi i h rfl, I.nd⟩
  · rcases List.mem_cons.1 hk' with rfl | hk'
    · exact ⟨hin, hk, by simp, hpi⟩
    · obtain ⟨q1, q2, q3, q4⟩ := I.en k hk'
      exact ⟨q1, q2, by simp [q3], q4⟩
  · rcases List.mem_cons.1 hk' with rfl | hk'
    · rw [ha] at hak
      injection hak with hak
      subst hak
      simp only [if_true]
      refine ⟨d, Et, z, carr, rfl, hputd, heap_alloc_new w _, hz, fun j hj => absurd (I.wr.ro _ _ hj) (by omega), fun ⟨id, o, h1, h2⟩ => ?_⟩
      have := I.wr.bd id o _ h1 h2
      omega
    · have hki := hEi k hk'
      simp only [if_neg hki]
      obtain ⟨d', Et', z', carr', e', r1, r2, r3, r4, r5⟩ := I.pend k hk' ak hak
      have hdd : d' ≠ d := by
        rintro rfl
        obtain ⟨q1, q2, _⟩ := I.en k hk'
        have := D.own k q1 q2 i hin (fun h => hki h.symm) d' (by simp [dstA, hak, e'])
        exact this (by simp [hdst])
      have hbl : blk k < w.heap.size := (Array.getElem?_eq_some_iff.1 r2).1
      exact ⟨d', Et', z', carr', e', by rw [hput d' hdd]; exact r1, (heap_alloc_old w _ hbl).trans r2, r3, r4, r5⟩
  · have hold : ∀ k ∈ E, blk k < w.heap.size := by
      intro k hk
      have hkl : k < ais.length := by rw [D.alen]; exact (I.en k hk).1
      obtain ⟨d', Et', z', carr', e', r1, r2, _⟩ := I.pend k hk _ (List.getElem?_eq_getElem hkl)
      exact (Array.getElem?_eq_some_iff.1 r2).1
    rcases List.mem_cons.1 hk' with e1 | e1
    · rcases List.mem_cons.1 hk2' with e2 | e2
      · rw [e1, e2]
      · have hne := hEi _ e2
        simp only [if_pos e1, if_neg hne] at hb
        have := hold _ e2
        omega
    · have hne := hEi _ e1
      rcases List.mem_cons.1 hk2' with e2 | e2
      · simp only [if_pos e2, if_neg hne] at hb
        have := hold _ e1
        omega
      · have hne2 := hEi _ e2
        simp only [if_neg hne, if_neg hne2] at hb
        exact I.dist k e1 k2' e2 hb
  · rcases List.mem_cons.1 hk' with rfl | hk'
    · simp only [if_true]; omega
    · simp only [if_neg (hEi k hk')]
      exact I.fresh k hk'
theorem Inv.effect (D : DrawOk n dirs ais tab L chk) {p : Nat} {val : Nat → AV} {X : Nat → Bool} {E : List Nat} {blk : Nat → Nat} {Hc H' : AHeap} {g g' : Gh} {w w' : World} {a a' : Act} (I : Inv P N n dirs ais L chk F0 K g0 H0 w0 p val X E blk Hc g w a) {e : Nat} (he : L[p]? = some e) (hk : kindA ais e = 2) (hXe : X e = false) (hd : ∀ k ∈ dirs.getD e [], X k = true) {v : AV}
    (haw : AWDraw P (ents ais chk (L.drop (p + 1))) (Fr.put (frm ais L F0 val p) (dstA ais e) v) H' K) (hsame : H' = Hc ∨ ∀ r ∈ chk.getD e [], ∀ ar, ais[r]? = some ar → ar.stable (Fr.put (frm ais L F0 val p) (dstA ais e) v) H')
    (hfr : FR g' w' N (Fr.put (ovl ais E (fx ais L F0 X val p)) (dstA ais e) v) a') (hwr : WR g' H' w') (hst : Stp g0 H0 w0 g' H' w') (hpend : ∀ k ∈ E, ∀ ak, ais[k]? = some ak → Pend g' H' w' a' (blk k) ak) : Inv P N n dirs ais L chk F0 K g0 H0 w0 (p + 1) (upd val e v) (fun j => if j = e then true else X j) E blk H' g' w' a' := by
  have hEe : ∀ k ∈ E, k ≠ e := fun k hkE h => by have := (I.en k hkE).2.2.1; rw [h, hXe] at this; cases this
  have hEd : ∀ k ∈ E, ∀ t, dstA ais e = some t → dstA ais k ≠ some t := by
    intro k hk t hdi hdk
    obtain ⟨q1, q2, _⟩ := I.en k hk
    have := D.own k q1 q2 e (D.pos he).2 (fun h => hEe k hk h.symm) t (mem_dst.2 hdk)
    exact this (mem_dst.2 hdi)
  obtain ⟨hpos, hen⟩ := D.pos he
  have hpl : p < n := by rw [← D.len]; exact (List.getElem?_eq_some_iff.1 he).1
  have hne : ∀ r, r < p → L[r]? ≠ some e := fun r hr h => by have := (D.pos h).1; omega
  have hpre := D.listed I.down e hen hd
  have eF : frm ais L F0 (upd val e v) (p + 1) = Fr.put (frm ais L F0 val p) (dstA ais e) v := by
    simp only [frm, he]
    rw [frm_upd hne]
    simp [upd]
  refine ⟨by omega, by rw [eF]; exact haw, fun j hj hXj => ?_, fun j hj hkj hpj => ?_, fun j hj hXj k hk' => ?_, ?_, hwr, hst, fun j hj hXj hpj aj haj => ?_, I.nd, fun k hk' => ?_, hpend, I.dist, I.fresh⟩
  · by_cases h : j = e
    · subst h; exact .inl (by omega)
    · exact (I.sub j hj (by simpa [h] using hXj)).imp (fun h => by omega) id
  · by_cases h : j = e
    · simp [h]
    · simp only [if_neg h]
      refine I.effs j hj hkj ?_
      have : L.idxOf j ≠ p := by
        intro hjp
        have h1 := (D.at hj).1
        rw [hjp, he] at h1
        injection h1 with h1
        exact h h1.symm
      omega
  · by_cases h : j = e
    · subst h
      have := hd k hk'
      split
      · rfl
      · exact this
    · have := I.down j hj (by simpa [h] using hXj) k hk'
      split
      · rfl
      · exact this
  · have e1 : fx ais L F0 (fun j => if j = e then true else X j) (upd val e v) (p + 1) = Fr.put (fx ais L F0 X val p) (dstA ais e) v := by
      simp only [fx, he, if_true]
      rw [fx_upd hne, fx_X (X := X) (X' := fun j => if j = e then true else X j)]
      · simp [upd]
      · intro r j hr hj
        have : j ≠ e := by rintro rfl; exact hne r hr hj
        simp [this]
    rw [e1]
    refine hfr.congr (fun t => ?_)
    rw [Fr.get_put]
    by_cases hde : dstA ais e = some t
    · rw [if_pos hde, ovl_ne (fun k hk => hEd k hk t hde), Fr.get_put, if_pos hde]
    · rw [if_neg hde]
      rcases ovl_get (ais := ais) (F := Fr.put (fx ais L F0 X val p) (dstA ais e) v) (t := t) (E := E) with ⟨⟨k, hk, hdk⟩, hg⟩ | ⟨hn, hg⟩
      · rw [hg, ovl_mem hk hdk]
      · rw [hg, ovl_ne hn, Fr.get_put, if_neg hde]
  · have hje : j ≠ e := by rintro rfl; simp at hXj
    simp only [if_neg hje] at hXj
    have hjp : L.idxOf j < p := by
      have : L.idxOf j ≠ p := by
        intro hjp
        have h1 := (D.at hj).1
        rw [hjp, he] at h1
        injection h1 with h1
        exact hje h1.symm
      omega
    rw [frm_upd (fun r hr => hne r (by omega))]
    have hval : upd val e v j = val j := by simp [upd, hje]
    rw [hval]
    rcases I.facts j hj hXj hjp aj haj with h | ⟨h1, h2⟩
    · exact .inl h
    · refine .inr ⟨h1, ?_⟩
      rcases hsame with rfl | hstab
      · exact h2
      · have hkj0 : kindA ais j = aj.kind := by simp [kindA, haj]
        have hk2 : ¬ 2 ≤ kindA ais j := fun h => by rw [I.effs j hj h hjp] at hXj; cases hXj
        have hkj : kindA ais j = aj.op.kind := by
          rcases aj.kind_cases with ⟨h, _⟩ | h <;> omega
        have hk01 : aj.op.kind = 0 ∨ aj.op.kind = 1 := by omega
        rcases hk01 with hk0 | hk1
        · exact (pure_ev hk0 h2).2 H'
        · have hnt : j ∉ tab.getD e [] := fun h => by rw [hpre j h] at hXj; cases hXj
          obtain ⟨c1, c2, c3, c4⟩ := D.hchk e hen hk j hj (by rw [hkj]; exact hk1) (by omega) hnt
          obtain ⟨d, hdj⟩ := Option.isSome_iff_exists.1 c2
          have hst := hstab j c1 aj haj
          have hrd : rdsA ais j = aj.reads := by simp [rdsA, haj]
          have hjp1 := D.at hj
          -- the frame now, seen from the frame then
          have hagr : Agr aj.reads (Fr.put (frm ais L F0 val p) (dstA ais e) v) (frm ais L F0 val (L.idxOf j)) := by
            intro t ht
            have ht' : t ∈ rdsA ais j := by rw [hrd]; exact ht
            rw [Fr.get_put, if_neg (fun h => (c4 e hen (by omega) (by omega) t (mem_dst.2 h)).1 ht')]
            refine frm_get (by omega) (fun r i hr hr2 hi hdi => ?_)
            obtain ⟨hpi, hin⟩ := D.pos hi
            by_cases hri : r = L.idxOf j
            · have : i = j := by
                have h1 := hjp1.1
                rw [← hri, hi] at h1
                injection h1
              subst this
              exact c3 t (mem_dst.2 hdi) ht'
            · exact (c4 i hin (by omega) (by omega) t (mem_dst.2 hdi)).1 ht'
          have hgetd : Fr.get (Fr.put (frm ais L F0 val p) (dstA ais e) v) d = val j := by
            rw [Fr.get_put, if_neg (fun h => (c4 e hen (by omega) (by omega) d (mem_dst.2 h)).2 (mem_dst.2 hdj))]
            rw [frm_get (q := L.idxOf j + 1) (by omega) (fun r i hr hr2 hi hdi => by
              obtain ⟨hpi, hin⟩ := D.pos hi
              exact (c4 i hin (by omega) (by omega) d (mem_dst.2 hdi)).2 (mem_dst.2 hdj))]
            simp only [frm, hjp1.1]
            rw [Fr.get_put, if_pos hdj]
          unfold AI.stable at hst
          rw [AI.want_congr hagr, h1] at hst
          simp only at hst
          obtain ⟨d', hd', hev⟩ := hst
          have hdd : d' = d := by
            have : aj.dst = some d := by simpa [dstA, haj] using hdj
            rw [this] at hd'; injection hd' with hd'; exact hd'.symm
          subst hdd
          rw [hgetd, AI.ev_congr hagr] at hev
          exact hev
  · obtain ⟨q1, q2, q3, q4⟩ := I.en k hk'
    refine ⟨q1, q2, by simp [q3], ?_⟩
    have : L.idxOf k ≠ p := by
      intro h
      have h1 := (D.at q1).1
      rw [h, he] at h1
      injection h1 with h1
      exact hEe k hk' h1.symm
    omega
theorem draw_any (hE : ∀ t ks, eqT t = some ks → EqOk P t ks) (D : DrawOk n dirs ais tab L chk) (hn : ops.size = n) (hops : ∀ (i : Nat) (o : Oper), ops[i]? = some o → ∃ ai, ais[i]? = some ai ∧ cAI P eqT N ops o = some ai) (hdirs : ∀ (i : Nat) (o : Oper), ops[i]? = some o → dirs.getD i [] = (o.after.toList.filter (Region.binds .any)).map (·.on)) {Q : Exit → Act → World → Prop} (hQ : ∀ a' w', KR N g0 H0 w0 K a' w' → Q .normal a' w') :
    ∀ (fuel : Nat) (listed : Array Bool) (p : Nat) (val : Nat → AV) (E : List Nat) (blk : Nat → Nat) (Hc : AHeap) (g : Gh) (w : World) (a : Act), listed.size = n → (List.range n).countP (fun i => !listed.getD i false) = fuel → Inv P N n dirs ais L chk F0 K g0 H0 w0 p val (fun i => listed.getD i false) E blk Hc g w a → wpAny P .any ops Q fuel listed a w := by
  intro fuel
  have hready : ∀ (listed : Array Bool) (i : Nat), listed.size = n → (i ∈ Region.ready .any ops listed ↔ i < n ∧ listed.getD i false = false ∧ ∀ k ∈ dirs.getD i [], listed.getD k false = true) := by
    intro listed i hls
    unfold Region.ready
    simp only [List.mem_filter, List.mem_range, hn, Bool.and_eq_true, Bool.not_eq_true']
    constructor
    · rintro ⟨hi, h1, h2⟩
      have ho : i < ops.size := by omega
      rw [Array.getElem?_eq_getElem ho] at h2
      simp only [Option.map_some, Option.getD_some] at h2
      refine ⟨hi, ?_, fun k hk => ?_⟩
      · have : i < listed.size := by omega
        simp [Array.getD, this] at h1 ⊢
        exact h1
      · rw [hdirs i _ (Array.getElem?_eq_getElem ho)] at hk
        obtain ⟨e, he, rfl⟩ := List.mem_map.1 hk
        obtain ⟨he1, he2⟩ := List.mem_filter.1 he
        have := Array.all_eq_true_iff_forall_mem.1 h2 e (by simpa using he1)
        simpa [he2] using this
    · rintro ⟨hi, h1, h2⟩
      have ho : i < ops.size := by omega
      refine ⟨hi, ?_, ?_⟩
      · have : i < listed.size := by omega
        simp [Array.getD, this] at h1 ⊢
        exact h1
      · rw [Array.getElem?_eq_getElem ho]
        simp only [Option.map_some, Option.getD_some]
        refine Array.all_eq_true_iff_forall_mem.2 (fun e he => ?_)
        by_cases hb : Region.binds .any e = true
        · have := h2 e.on (by rw [hdirs i _ (Array.getElem?_eq_getElem ho)]; exact List.mem_map.2 ⟨e, List.mem_filter.2 ⟨by simpa using he, hb⟩, rfl⟩)
          simp [this]
        · simp [hb]
  have hnone : ∀ (listed : Array Bool), listed.size = n → Region.ready .any ops listed = [] → ∀ i < n, listed.getD i false = true := by
    intro listed hls hr
    have key : ∀ m i, L.idxOf i = m → i < n → listed.getD i false = true := by
      intro m
      induction m using Nat.strongRecOn with
      | _ m ih =>
        intro i him hi
        cases hl : listed.getD i false with
        | true => rfl
        | false =>
          have : i ∈ Region.ready .any ops listed := (hready listed i hls).2 ⟨hi, hl, fun k hk => by
            obtain ⟨hkn, hkl⟩ := D.dir i hi k hk
            exact ih (L.idxOf k) (by omega) k rfl hkn⟩
          rw [hr] at this; cases this
    intro i hi
    exact key _ i rfl hi
  induction fuel with
  | zero =>
    intro listed p val E blk Hc g w a hls hc I
    have hall : ∀ i < n, listed.getD i false = true := by
      intro i hi
      have := List.countP_eq_zero.1 hc i (List.mem_range.2 hi)
      simpa using this
    refine ⟨?_, hQ _ _ (I.done D hall)⟩
    apply List.eq_nil_iff_forall_not_mem.2
    intro i hi
    obtain ⟨h1, h2, _⟩ := (hready listed i hls).1 hi
    rw [hall i h1] at h2; cases h2
  | succ fuel ih =>
    intro listed p val E blk Hc g w a hls hc I0
    refine ⟨fun hr => hQ _ _ (I0.done D (hnone listed hls hr)), fun i hi => ?_⟩
    obtain ⟨hin, hX, hd⟩ := (hready listed i hls).1 hi
    obtain ⟨p, val, E, Hc, g, I, hnf⟩ := Inv.norm D _ p val E Hc g rfl I0
    have ho : i < ops.size := by omega
    have hop := Array.getElem?_eq_getElem ho
    obtain ⟨ai, ha, hci⟩ := hops i _ hop
    obtain ⟨hcop, hdst, hdlt, _⟩ := cAI_ok hci
    have hda : dstA ais i = ai.dst := by simp [dstA, ha]
    have hX2 : (fun j => (listed.setIfInBounds i true).getD j false) = fun j => if j = i then true else listed.getD j false := by
      funext j
      have hil : i < listed.size := by omega
      by_cases hji : j = i
      · subst hji
        simp [Array.getD, hil]
      · simp only [if_neg hji]
        rw [Array.getD_eq_getD_getElem?, Array.getD_eq_getD_getElem?, Array.getElem?_setIfInBounds_ne (Ne.symm hji)]
    have hcnt : (List.range n).countP (fun j => !(listed.setIfInBounds i true).getD j false) = fuel := by
      have hfun : (fun j => !(listed.setIfInBounds i true).getD j false) = fun j => !(if j = i then true else listed.getD j false) := by
        funext j
        rw [congrFun hX2 j]
      rw [hfun]
      have key : ∀ l : List Nat, l.Nodup → i ∈ l → l.countP (fun j => !listed.getD j false) = l.countP (fun j => !(if j = i then true else listed.getD j false)) + 1 := by
        intro l
        induction l with
        | nil => intro _ h; cases h
        | cons x l ihl =>
          intro hnd hm
          rw [List.nodup_cons] at hnd
          by_cases hx : x = i
          · subst hx
            have e : l.countP (fun j => !listed.getD j false) = l.countP (fun j => !(if j = x then true else listed.getD j false)) := by
              refine List.countP_congr (fun y hy => ?_)
              have : y ≠ x := by rintro rfl; exact hnd.1 hy
              simp [this]
            rw [List.countP_cons, List.countP_cons, e]
            simp [hX]
          · have hm2 : i ∈ l := by
              rcases List.mem_cons.1 hm with h | h
              · exact absurd h.symm hx
              · exact h
            rw [List.countP_cons, List.countP_cons, ihl hnd.2 hm2]
            simp [hx]
            omega
      have := key (List.range n) List.nodup_range (List.mem_range.2 hin)
      rw [hc] at this
      omega
    have hnext : ∀ p' val' E' blk' H' g' w' a', Inv P N n dirs ais L chk F0 K g0 H0 w0 p' val' (fun j => if j = i then true else listed.getD j false) E' blk' H' g' w' a' → wpAny P .any ops Q fuel (listed.setIfInBounds i true) a' w' := by
      intro p' val' E' blk' H' g' w' a' I'
      exact ih (listed.setIfInBounds i true) p' val' E' blk' H' g' w' a' (by simpa using hls) hcnt (by rw [hX2]; exact I')
    have hkeep : ∀ (g' : Gh) (H' : AHeap) (w' : World) (a' : Act), Stp g Hc w g' H' w' → (∀ t, dstA ais i ≠ some t → a'.tmps.getD t undef = a.tmps.getD t undef) → ∀ k ∈ E, ∀ ak, ais[k]? = some ak → Pend g' H' w' a' (blk k) ak := by
      intro g' H' w' a' hs ht k hk ak hak
      obtain ⟨q1, q2, q3, _⟩ := I.en k hk
      obtain ⟨d', Et', z', carr', e', r1, r2, r3, r4, r5⟩ := I.pend k hk ak hak
      have hbl : blk k < w.heap.size := (Array.getElem?_eq_some_iff.1 r2).1
      have hki : k ≠ i := by rintro rfl; rw [hX] at q3; cases q3
      refine ⟨d', Et', z', carr', e', ?_, (hs.frame _ hbl r5).trans r2, r3, fun j hj => ?_, fun ho => r5 (hs.new _ hbl ho)⟩
      · rw [ht d' (fun hdi => by
          have := D.own k q1 q2 i hin (fun h => hki h.symm) d' (by simp [dstA, hak, e'])
          exact this (mem_dst.2 hdi))]
        exact r1
      · rcases hs.ro _ j hbl hj with h | h
        · exact r4 j h
        · exact r5 h
    have hput : ∀ (u : Value) (t : Nat), dstA ais i ≠ some t → (a.put ops[i].dst u).tmps.getD t undef = a.tmps.getD t undef := by
      intro u t ht
      have hod : ops[i].dst = dstA ais i := by rw [hda, hdst]
      rw [hod]
      cases hdi : dstA ais i with
      | none => rfl
      | some k =>
        have : k ≠ t := fun h => ht (by rw [hdi, h])
        simp [Act.put, Array.getElem?_setIfInBounds, this]
    unfold wpOp
    rw [hop]
    simp only
    by_cases hk3 : kindA ais i = 3
    · -- a cell is made
      obtain ⟨d, Et, z, hai⟩ : ∃ d Et z, ai = ⟨none, some d, .box Et (.c z)⟩ := by
        rcases ai.kind_cases with ⟨_, h⟩ | h
        · exact h
        · have h1 : kindA ais i = ai.kind := by simp [kindA, ha]
          have := ai.op.kind_le
          omega
      subst hai
      rw [if_pos (want_ok I.fr hci rfl)]
      simp only at hcop hdst
      have hdN : d < N := hdlt d hdst.symm
      obtain ⟨zv, hzv, hrun⟩ : ∃ zv, (∀ g w, VR g w z zv) ∧ ∀ (w : World), (execOp a.eval ops[i]).run P w = .ok (.value (.pointer (some ⟨w.heap.size, 0, none⟩))) (w.alloc (.cells zv.cells Et)) := by
        have hc0 : cOp P eqT ops[i].op = some (.box Et (.c z)) := by
          unfold cOpB at hcop
          split at hcop
          · rename_i ao hc; rw [hc, hcop]
          · cases hcop
        have hx : (∃ zv, ops[i].op = .alloc Et ∧ tyZero P Et = some zv ∧ z = ofConst zv) ∨ ∃ x, ops[i].op = .box Et x ∧ cX x = .c z := by
          generalize ops[i].op = op at hc0
          cases op with
          | alloc E' =>
            simp only [cOp] at hc0
            obtain ⟨zv, hz, hc0⟩ := bindS hc0
            simp only [Option.some.injEq, AOp.box.injEq, AX.c.injEq] at hc0
            obtain ⟨rfl, rfl⟩ := hc0
            exact .inl ⟨zv, rfl, hz, rfl⟩
          | box E' x =>
            simp only [cOp, Option.some.injEq, AOp.box.injEq] at hc0
            obtain ⟨rfl, h⟩ := hc0
            exact .inr ⟨x, rfl, h⟩
          | call c =>
            exfalso
            obtain ⟨callee, ar, ats⟩ := c
            cases callee with
            | value fo => cases hc0
            | invoke r m => cases hc0
            | builtin bt =>
              cases bt <;> simp only [cOp] at hc0 <;> first
                | cases hc0
                | (split at hc0
                   · first
                     | (obtain ⟨d, _, hc0⟩ := bindS hc0
                        cases d <;> simp only at hc0 <;> first
                          | cases hc0
                          | (obtain ⟨i, _, hc0⟩ := bindS hc0
                             first
                             | (obtain ⟨z, _, hc0⟩ := bindS hc0
                                split at hc0
                                · cases hc0
                                · cases hc0)
                             | cases hc0))
                     | cases hc0
                   · cases hc0)
          | build t parts =>
            exfalso
            simp only [cOp] at hc0
            obtain ⟨z, _, hc0⟩ := bindS hc0
            obtain ⟨zc, _, hc0⟩ := bindS hc0
            obtain ⟨d, _, hc0⟩ := bindS hc0
            cases d <;> simp only at hc0 <;> first
              | cases hc0
              | (split at hc0
                 · obtain ⟨ps, _, hc0⟩ := bindS hc0; cases hc0
                 · cases hc0)
              | (obtain ⟨s, _, hc0⟩ := bindS hc0; obtain ⟨ps, _, hc0⟩ := bindS hc0; cases hc0)
          | makeFunc fn first caps => exfalso; cases fn <;> simp [cOp] at hc0
          | makeMap t r =>
            exfalso
            cases r with
            | none =>
              simp only [cOp] at hc0
              obtain ⟨d, _, hc0⟩ := bindS hc0
              cases d <;> simp only at hc0 <;> first
                | cases hc0
                | (obtain ⟨kk, _, hc0⟩ := bindS hc0; cases hc0)
            | some x => simp [cOp] at hc0
          | convert src dst x =>
            exfalso
            simp only [cOp] at hc0
            obtain ⟨d1, _, hc0⟩ := bindS hc0
            obtain ⟨d2, _, hc0⟩ := bindS hc0
            split at hc0 <;> first | cases hc0 | (split at hc0 <;> cases hc0)
          | binOp op t x y t' =>
            exfalso
            simp only [cOp] at hc0
            obtain ⟨d, _, hc0⟩ := bindS hc0
            cases d <;> simp only at hc0 <;> first
              | cases hc0
              | (cases op <;> cases hc0)
              | (split at hc0
                 · cases op <;> simp [eqsOp] at hc0
                 · cases hc0)
              | (split at hc0
                 · cases hc0
                 · obtain ⟨ks, _, hc0⟩ := bindS hc0
                   cases op <;> cases hc0)
          | slice t x lo hi mx =>
            exfalso
            simp only [cOp] at hc0
            obtain ⟨d, _, hc0⟩ := bindS hc0
            cases d <;> simp only at hc0 <;> first
              | cases hc0
              | (obtain ⟨s, _, hc0⟩ := bindS hc0
                 split at hc0 <;> cases hc0)
              | (cases mx <;> cases hc0)
          | buildSlice t len parts =>
            exfalso
            simp only [cOp] at hc0
            obtain ⟨d, _, hc0⟩ := bindS hc0
            cases d <;> simp only at hc0 <;> first
              | cases hc0
              | (obtain ⟨s, _, hc0⟩ := bindS hc0
                 obtain ⟨z, _, hc0⟩ := bindS hc0
                 split at hc0 <;> cases hc0)
          | makeSlice t l c =>
            exfalso
            simp only [cOp] at hc0
            obtain ⟨d, _, hc0⟩ := bindS hc0
            cases d <;> simp only at hc0 <;> first
              | cases hc0
              | (obtain ⟨s, _, hc0⟩ := bindS hc0
                 obtain ⟨z, _, hc0⟩ := bindS hc0
                 obtain ⟨zc, _, hc0⟩ := bindS hc0
                 split at hc0 <;> cases hc0)
          | fieldAddr s x f =>
            exfalso
            simp only [cOp] at hc0
            obtain ⟨d, _, hc0⟩ := bindS hc0
            cases d <;> simp only at hc0 <;> first
              | cases hc0
              | (obtain ⟨fd, _, hc0⟩ := bindS hc0
                 obtain ⟨z, _, hc0⟩ := bindS hc0
                 split at hc0 <;> cases hc0)
          | _ =>
            exfalso
            simp only [cOp] at hc0
            first
            | cases hc0
            | (obtain ⟨d, _, hc0⟩ := bindS hc0
               first
               | cases hc0
               | (obtain ⟨d2, _, hc0⟩ := bindS hc0; cases hc0)
               | (cases d <;> simp only at hc0 <;> first
                   | cases hc0
                   | (obtain ⟨s, _, hc0⟩ := bindS hc0
                      first
                      | cases hc0
                      | (obtain ⟨z, _, hc0⟩ := bindS hc0
                         first
                         | cases hc0
                         | (obtain ⟨z2, _, hc0⟩ := bindS hc0; cases hc0)))))
        rcases hx with ⟨zv, h1, h2, rfl⟩ | ⟨x, h1, h2⟩
        · refine ⟨zv, fun g w => ofConst_ok zv, fun w => ?_⟩
          obtain ⟨ti, hi1, hi2⟩ := zero_of h2
          simp [execOp, h1, Instr.alloc, zeroValue, typeInfo, hi1, hi2, newVar, newRow]
        · have hzx : ∀ g w, VR g w z (a.eval x) := by
            intro g w
            cases x with
            | tmp t => cases h2
            | const v => simp only [cX, AX.c.injEq] at h2; subst h2; exact ofConst_ok v
            | global g0 => simp only [cX, AX.c.injEq] at h2; subst h2; exact .sc _
            | func f => simp only [cX, AX.c.injEq] at h2; subst h2; exact .fn f [] [] #[] #[] rfl rfl (fun i x u h => by simp at h) (fun i x u h => by simp at h)
          refine ⟨a.eval x, hzx, fun w => ?_⟩
          simp [execOp, h1, Instr.box, newVar, newRow]
      left
      unfold Oper.wp
      rw [hrun w]
      have := I.made D hin hX hd hk3 ha hdN (carr := zv.cells) (fun g w cs hcs => (hzv g w).cells hcs)
      have hod : ops[i].dst = some d := hdst.symm
      simp only [Oper.upon, hod]
      exact hnext _ _ _ _ _ _ _ _ this
    · rcases Nat.lt_or_ge (L.idxOf i) p with hq | hq
      · -- it could have been done earlier
        have hagr := I.agr D hin hX hd (Nat.le_of_lt hq) ha
        rcases I.facts i hin hX hq ai ha with ⟨h1, h2⟩ | ⟨h1, h2⟩
        · rw [if_neg (by rw [want_ok I.fr hci (by rw [AI.want_congr hagr]; exact h1)]; simp)]
          refine hnext p val E blk Hc g w _ (I.late D hin hX hd hq ?_ I.wr I.st (hkeep g Hc w _ (.refl _ _ _) (hput undef)))
          rw [h2, hda, hdst]
          exact I.fr.put hdlt (.sc _)
        · rw [if_pos (want_ok I.fr hci (by rw [AI.want_congr hagr]; exact h1))]
          have hne : ¬ 2 ≤ kindA ais i := by
            intro hk
            have := I.effs i hin hk hq
            rw [hX] at this; cases this
          have hnc : ∀ f args, ai.op ≠ .call f args := by
            rintro f args e
            apply hne
            rcases ai.kind_cases with ⟨h, _⟩ | h
            · simp [kindA, ha, h]
            · simp [kindA, ha, h, e, AOp.kind]
          have hev : ai.op.ev (ovl ais E (fx ais L F0 (fun i => listed.getD i false) val p)) Hc = some (val i, Hc) := by rw [AI.ev_congr hagr]; exact h2
          have hop2 := opB_sound hE ops[i] I.fr I.wr (by rw [hcop]; exact hev)
          obtain ⟨nx, u, w', g', q1, q2, q3, q4, q5⟩ := hop2
          refine .inl ?_
          have hfin : wpAny P .any ops Q fuel (listed.setIfInBounds i true) (a.put ops[i].dst u) w' := by
            refine hnext p val E blk Hc g' w' _ (I.late D hin hX hd hq ?_ q4 (I.st.trans q5) (hkeep g' Hc w' _ q5 (hput u)))
            rw [hda, hdst]
            exact (I.fr.mono q5.le).put hdlt q3
          unfold Oper.wp
          rw [q1]
          rcases q2 with rfl | ⟨rfl, rfl⟩
          · exact hfin
          · exact hfin
      · -- it is what is next
        have hie : L[p]? = some i ∧ kindA ais i = 2 := by
          rcases hnf with hpn | ⟨e, he, hke, hXe⟩
          · have := (D.at hin).2; omega
          · obtain ⟨hpe, hen⟩ := D.pos he
            by_cases hei : e = i
            · subst hei
              refine ⟨he, ?_⟩
              have h1 : kindA ais e = ai.kind := by simp [kindA, ha]
              have := ai.op.kind_le
              rcases ai.kind_cases with ⟨h, _⟩ | h <;> omega
            · have hlt : L.idxOf e < L.idxOf i := by
                have : L.idxOf i ≠ p := by
                  intro h
                  have h1 := (D.at hin).1
                  rw [h, he] at h1
                  injection h1 with h1
                  exact hei h1
                omega
              have hte := D.eff e hen hke i hin hk3 hlt
              have := D.listed I.down i hin hd e hte
              rw [this] at hXe; cases hXe
        obtain ⟨hiL, hk2⟩ := hie
        have hpos := (D.pos hiL).1
        have hagr := I.agr D hin hX hd (Nat.le_of_eq hpos) ha
        rw [hpos] at hagr
        have haw := I.aw
        rw [ents_cons D hiL ha] at haw
        simp only [AWDraw] at haw
        split at haw
        · rename_i hw
          rw [if_pos (want_ok I.fr hci (by rw [AI.want_congr hagr]; exact hw))]
          have hstep := AI.step_congr hagr haw
          refine .inl (ai_step2 hE hci I.fr I.wr hstep fun u w' H' g' F' hF' hK k1 k2 k3 => ?_)
          obtain ⟨v, e1, e2, e3⟩ := hK
          subst e1
          refine hnext (p + 1) _ E blk H' g' w' _ (I.effect D hiL hk2 hX hd (v := v) (by rw [hda]; exact e3) (.inr fun r hr ar har => ?_) (by rw [hda]; exact k1) k2 (I.st.trans k3) (hkeep g' H' w' _ k3 (hput u)))
          rw [hda]
          exact e2 ar (List.mem_filterMap.2 ⟨r, hr, har⟩)
        · rename_i hw
          rw [if_neg (by rw [want_ok I.fr hci (by rw [AI.want_congr hagr]; exact hw)]; simp)]
          refine hnext (p + 1) _ E blk Hc g w _ (I.effect D hiL hk2 hX hd (v := undefA) (by rw [hda]; exact haw) (.inl rfl) ?_ I.wr I.st (hkeep g Hc w _ (.refl _ _ _) (hput undef)))
          rw [hda, hdst]
          exact I.fr.put hdlt (.sc _)
        · exact haw.elim
end
end Go.Proofs.Ytgnpihhakogeeaa
