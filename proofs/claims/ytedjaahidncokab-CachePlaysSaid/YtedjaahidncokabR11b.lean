/- Layer 11: Get of what is there, Put, Clear, Places, Counts. -/
import Derived.Test.YtedjaahidncokabR11
namespace Go.Proofs.Ytedjaahidncokab
open Go.RowKit

theorem own_ne {w : World} {base g n : Nat} {t : TypeId} {ov : Value} {cs xs : List Value} (h2 : w.ownsRow base 3 1 ov n xs) (h1 : Blk w g t cs) (hne : 3 ≠ t) : ov.ownBlock ≠ some g := by
  rcases own_lit h2 with ⟨rfl, _⟩ | ⟨g', cap, cur, rfl, _, hb', _⟩
  · simp [Value.ownBlock]
  · intro e
    have e' : g' = g := by simpa [Value.ownBlock] using e
    exact Blk.ne hb' h1 hne e'
theorem own_map {w : World} {base bm n : Nat} {ov : Value} {xs : List Value} {m : List (Int × Value)} (h2 : w.ownsRow base 3 1 ov n xs) (hm : MapAt w bm intKey m) : ov.ownBlock ≠ some bm := by
  rcases own_lit h2 with ⟨rfl, _⟩ | ⟨g', cap, cur, rfl, _, hb', _⟩
  · simp [Value.ownBlock]
  · intro e
    have e' : g' = bm := by simpa [Value.ownBlock] using e
    exact map_ne hb' hm e'
theorem own_kp {w w' : World} {S : Nat → Prop} {base n : Nat} {ov : Value} {xs : List Value} (h2 : w.ownsRow base 3 1 ov n xs) (k : Kp S w w') (hS : ∀ b, ov.ownBlock = some b → ¬ S b) : w'.ownsRow base 3 1 ov n xs := by
  rcases own_lit h2 with ⟨rfl, hl, hx⟩ | ⟨g', cap, cur, rfl, hg, hb', hn, hm, hl, ht⟩
  · rw [hl, hx]; exact World.ownsRow_nil _ _ _ _
  · have hb2 := hb'.kp k (hS _ rfl)
    rw [← ht]
    exact own_mk hb2 hg hn hm hl

set_option maxHeartbeats 1000000 in
theorem get_hit (base g bm size : Nat) (ob : Option Nat) (items : Items) (hits misses i : Int) (s : ByteArray) (w : World) (h : CacheAt w base g bm ob size items hits misses) (hl : look items i = some s) (hm0 : 0 ≤ hits) (hm1 : hits ≤ 1000000) :
    Calls Try.prog 18 #[.pointer (some ⟨g, 0, none⟩), .int .i64 i] w (CPost w base g bm ob size ((i, s) :: without items i) (hits + 1) misses (.tuple #[.string s, .bool true])) := by
  obtain ⟨ov, m, h0, h1, h2, h3, h4, h5, h6, h7, h8, h9⟩ := h
  have hlk := h3.lookup_ok kint under_texts i zero_str
  rw [h4, hl] at hlk
  unfold intKey at hlk
  simp only [Option.map_some, Option.getD_some, Option.isSome_some] at hlk
  have c0 : w.cell? ⟨g, 0, none⟩ = some (.int .i64 size) := by rw [h1.cell]; rfl
  have c2 : w.cell? ⟨g, 2, none⟩ = some (.map (some bm)) := by rw [h1.cell]; rfl
  have c3 : w.cell? ⟨g, 3, none⟩ = some (.int .i64 hits) := by rw [h1.cell]; rfl
  have f3 := h1.frozen 3
  have hgm := map_ne h1 h3
  have hog := own_ne h2 h1 (by decide)
  have hbg : Hid (Blk (w.setCell ⟨g, 3, none⟩ (.int .i64 (hits + 1))) g 52 (cacheCells size ov bm (hits + 1) misses)) := h1.set 3 _
  have hkl : (keys items).length < 1000 := by unfold keys; rw [List.length_map]; omega
  have hfst := Lib.hid (first_any base g bm size ov (hits + 1) misses (keys items) i _ hbg.out (ownsRow_setCell_other h2 (a := ⟨g, 3, none⟩) hog _) h5 hkl (by simp [World.setCell]; omega))
  have hks : Hid (i :: (keys items).filter (· != i) = keys ((i, s) :: without items i)) := by unfold Hid; rw [← keys_without]; rfl
  rw [hks.out] at hfst
  have hnd2 : Hid ((keys ((i, s) :: without items i)).Nodup) := without_nodup h5 i
  have hlen2 : Hid ((((i, s) :: without items i) : Items).length ≤ size) := by
    unfold Hid
    have hi : i ∈ keys items := look_some hl
    have : (without items i).length < items.length := by
      unfold without
      rw [← List.countP_eq_length_filter]
      obtain ⟨x, hx, hxi⟩ := List.mem_map.1 hi
      rcases Nat.lt_or_ge (items.countP (fun x => x.1 != i)) items.length with hlt | hge
      · exact hlt
      · have := List.countP_eq_length.1 (Nat.le_antisymm List.countP_le_length hge) x hx
        simp [hxi] at this
    simp only [List.length_cons]
    omega
  have hlook : Hid (∀ j, mget m j = (look ((i, s) :: without items i) j).map Value.string) := by
    unfold Hid
    intro j
    rw [h4]
    simp only [look, look_without]
    by_cases hj : i = j
    · subst hj; simp [hl]
    · simp [hj]
  have HM := Lib.hid h3
  have H0 := Lib.hid h0
  have hbmo := Lib.hid (own_map h2 h3)
  clear h1 h3 h2 h4 h0 hl
  generalize ((i, s) :: without items i : Items) = it2 at *
  go_enter Try.func18, Try.ntmps18
  go_wp2_with (first | (go_at_call 23; refine (cthere_yes g size _ (by assumption) h7).mono ?_; rintro e w1 ⟨rfl, rfl⟩) | (go_at_call 25; refine hfst.out.mono ?_; rintro e w2 ⟨ov2, rfl, hb2, ho2, hk2, hob2⟩; have HB2 := Lib.hid hb2; have HO2 := Lib.hid ho2; have HK2 := Lib.hid hk2; have HOB2 := Lib.hid hob2; clear hb2 ho2 hk2 hob2))
  go_ret2
  have hk1 : Kp (foot g bm ob) w (w.setCell ⟨g, 3, none⟩ (.int .i64 (hits + 1))) := (Kp.refl _ _).setCell (p := ⟨g, 3, none⟩) (.inl (.inl rfl)) _
  have hk12 : Kp (foot g bm ob) w w2 := hk1.trans HK2.out (fun b _ e => by
    rcases e with e | e
    · exact .inl e
    · exact .inr (.inr (by rw [← H0.out]; exact e)))
  have hm2 : MapAt w2 bm intKey m := (HM.out.kp ((Kp.refl (· = g) _).setCell (p := ⟨g, 3, none⟩) (.inl rfl) _) (fun e => hgm e.symm)).kp HK2.out (fun e => by
    rcases e with e | e
    · exact hgm e.symm
    · exact hbmo.out e)
  refine ⟨ov2.ownBlock, rfl, ⟨ov2, m, rfl, HB2.out, HO2.out, hm2, hlook.out, hnd2.out, hlen2.out, h7, h8, Nat.le_trans h9 hk12.size⟩, hk12, ?_⟩
  rcases HOB2.out with e | ⟨b, e, hb⟩
  · left; rw [e]; exact H0.out
  · right; exact ⟨b, e, by simpa [World.setCell] using hb⟩

set_option maxHeartbeats 1000000 in
theorem counts_any (base g bm size : Nat) (ob : Option Nat) (items : Items) (hits misses : Int) (w : World) (h : CacheAt w base g bm ob size items hits misses) :
    Calls Try.prog 13 #[.pointer (some ⟨g, 0, none⟩)] w fun e w' => e = .returned (.tuple #[.int .i64 hits, .int .i64 misses]) ∧ ∃ q, w' = w.drewN q := by
  obtain ⟨ov, m, h0, h1, h2, h3, h4, h5, h6, h7, h8, h9⟩ := h
  have c0 : w.cell? ⟨g, 0, none⟩ = some (.int .i64 size) := by rw [h1.cell]; rfl
  have c3 : w.cell? ⟨g, 3, none⟩ = some (.int .i64 hits) := by rw [h1.cell]; rfl
  have c4 : w.cell? ⟨g, 4, none⟩ = some (.int .i64 misses) := by rw [h1.cell]; rfl
  clear h0 h1 h2 h3 h4 h5
  go_enter Try.func13, Try.ntmps13
  go_wp2_with (go_at_call 23; refine (cthere_yes g size _ (by assumption) h7).mono ?_; rintro e w1 ⟨rfl, rfl⟩)
  go_quiet (fail)
  go_wp2
  go_ret2
  exact ⟨rfl, _, rfl⟩

set_option maxHeartbeats 1000000 in
theorem places_any (base g bm size : Nat) (ob : Option Nat) (items : Items) (hits misses : Int) (w : World) (h : CacheAt w base g bm ob size items hits misses) :
    Calls Try.prog 15 #[.pointer (some ⟨g, 0, none⟩)] w (clonePost w (keys items)) := by
  obtain ⟨ov, m, h0, h1, h2, h3, h4, h5, h6, h7, h8, h9⟩ := h
  have c0 : w.cell? ⟨g, 0, none⟩ = some (.int .i64 size) := by rw [h1.cell]; rfl
  have hkl : (keys items).length < 1000 := by unfold keys; rw [List.length_map]; omega
  have hcl := Lib.hid (clone_any ov (keys items) w _ (IntsAt.of_own h2) (fun b hb => hb.2) (by omega))
  obtain ⟨A, c, rfl, _, _⟩ := own_form h2
  have c1 : w.cell? ⟨g, 1, none⟩ = some (.slice A (keys items).length c) := by rw [h1.cell]; rfl
  clear h0 h1 h2 h3 h4 h5
  go_enter Try.func15, Try.ntmps15
  go_wp2_with (first | (go_at_call 23; refine (cthere_yes g size _ (by assumption) h7).mono ?_; rintro e w1 ⟨rfl, rfl⟩) | (go_at_call 24; refine hcl.out.mono ?_; rintro e w2 ⟨v2, rfl, hown2, hb2⟩; have HO2 := Lib.hid hown2; have HB2 := Lib.hid hb2; clear hown2 hb2))
  go_ret
  exact ⟨_, rfl, HO2.out, HB2.out⟩

set_option maxHeartbeats 1000000 in
theorem clear_any (base g bm size : Nat) (ob : Option Nat) (items : Items) (hits misses : Int) (w : World) (h : CacheAt w base g bm ob size items hits misses) :
    Calls Try.prog 17 #[.pointer (some ⟨g, 0, none⟩)] w fun e w' => e = .returned (.tuple #[]) ∧ CacheAt w' base g bm none size [] hits misses ∧ Kp (foot g bm ob) w w' := by
  obtain ⟨ov, m, h0, h1, h2, h3, h4, h5, h6, h7, h8, h9⟩ := h
  have c0 : w.cell? ⟨g, 0, none⟩ = some (.int .i64 size) := by rw [h1.cell]; rfl
  have c2 : w.cell? ⟨g, 2, none⟩ = some (.map (some bm)) := by rw [h1.cell]; rfl
  obtain ⟨w1, hrun, hm1, hk1, hz1⟩ := h3.clear under_texts 0
  have hgm := map_ne h1 h3
  have hb1 := h1.kp hk1 (fun e => hgm e)
  have c11 : w1.cell? ⟨g, 1, none⟩ = some ov := by rw [hb1.cell]; rfl
  have f11 := hb1.frozen 1
  have HB := Lib.hid hb1
  have HM := Lib.hid hm1
  have HK := Lib.hid hk1
  clear h0 h1 h2 h3 h4 h5 hb1 hm1 hk1
  go_enter Try.func17, Try.ntmps17
  go_wp2_with (go_at_call 23; refine (cthere_yes g size _ (by assumption) h7).mono ?_; rintro e w1 ⟨rfl, rfl⟩)
  go_end0
  refine ⟨rfl, ⟨.slice none 0 0, [], rfl, HB.out.set 1 _, World.ownsRow_nil _ _ _ _, ?_, fun i => rfl, by simp [keys], by simp, h7, h8, by simp [World.setCell]; omega⟩, ?_⟩
  · exact HM.out.kp ((Kp.refl (· = g) _).setCell (p := ⟨g, 1, none⟩) (.inl rfl) _) (fun e => hgm e.symm)
  · exact (HK.out.weak (fun b e => .inr (.inl e))).setCell (p := ⟨g, 1, none⟩) (.inl (.inl rfl)) _

theorem keys_len (l : Items) : (keys l).length = l.length := by simp [keys]
theorem keys_take (l : Items) (n : Nat) : keys (l.take n) = (keys l).take n := by simp [keys, List.map_take]

set_option maxHeartbeats 2000000 in
theorem put_any (base g bm size : Nat) (ob : Option Nat) (items : Items) (hits misses i : Int) (s : ByteArray) (w : World) (h : CacheAt w base g bm ob size items hits misses) :
    Calls Try.prog 16 #[.pointer (some ⟨g, 0, none⟩), .int .i64 i, .string s] w (CPost w base g bm ob size (putIn size items i s) hits misses (.tuple #[])) := by
  obtain ⟨ov, m, h0, h1, h2, h3, h4, h5, h6, h7, h8, h9⟩ := h
  have c0 : w.cell? ⟨g, 0, none⟩ = some (.int .i64 size) := by rw [h1.cell]; rfl
  have c2 : w.cell? ⟨g, 2, none⟩ = some (.map (some bm)) := by rw [h1.cell]; rfl
  obtain ⟨w1, hup, hm1, hk1, hz1⟩ := h3.update kint under_texts i (.string s)
  unfold intKey at hup
  have hgm := map_ne h1 h3
  have hog := own_ne h2 h1 (by decide)
  have hom := own_map h2 h3
  have hb1 := h1.kp hk1 (fun e => hgm e)
  have ho1 := own_kp h2 hk1 (fun b e e2 => hom (by rw [← e2]; exact e))
  have hkl : (keys items).length < 1000 := by rw [keys_len]; omega
  have hfst := Lib.hid (first_any base g bm size ov hits misses (keys items) i w1 hb1 ho1 h5 hkl (by omega))
  have hks : Hid (i :: (keys items).filter (· != i) = keys ((i, s) :: without items i)) := by unfold Hid; rw [← keys_without]; rfl
  rw [hks.out] at hfst
  have hnd2 : Hid ((keys ((i, s) :: without items i)).Nodup) := without_nodup h5 i
  have hlen2 : (((i, s) :: without items i) : Items).length ≤ size + 1 := by
    have := without_len items i
    simp only [List.length_cons]
    omega
  have hlook : Hid (∀ j, mget (mput m i (.string s)) j = (look ((i, s) :: without items i) j).map Value.string) := by
    unfold Hid
    intro j
    rw [mget_mput, h4]
    simp only [look, look_without]
    by_cases hj : i = j
    · simp [hj]
    · simp [hj]
  have HM := Lib.hid hm1
  have H0 := Lib.hid h0
  have HK1 := Lib.hid hk1
  have hbmo := Lib.hid (own_map ho1 hm1)
  have hput : Hid (putIn size items i s = ((i, s) :: without items i : Items).take size) := rfl
  clear h1 h3 h2 h4 h0 hb1 ho1 hm1 hk1 hks h5 hom
  generalize putIn size items i s = fin at *
  generalize ((i, s) :: without items i : Items) = it2 at *
  generalize mput m i (.string s) = m2 at *
  have hkl2 := Lib.hid (keys_len it2)
  generalize hK2 : keys it2 = ks at *
  have HKE := Lib.hid hK2
  clear hK2
  go_enter Try.func16, Try.ntmps16
  go_wp2_with (first | (go_at_call 23; refine (cthere_yes g size _ (by assumption) h7).mono ?_; rintro e w1 ⟨rfl, rfl⟩) | (go_at_call 25; refine hfst.out.mono ?_; rintro e w2 ⟨ov2, rfl, hb2, ho2, hk2, hob2⟩; have HB2 := Lib.hid hb2; have HO2 := Lib.hid ho2; have HK2 := Lib.hid hk2; have HOB2 := Lib.hid hob2; clear hb2 ho2 hk2 hob2))
  have hm2 : Hid (MapAt w2 bm intKey m2) := HM.out.kp HK2.out (fun e => by
    rcases e with e | e
    · exact hgm e.symm
    · exact hbmo.out e)
  have hk12 : Hid (Kp (foot g bm ob) w w2) := (HK1.out.weak (fun b e => .inr (.inl e))).trans HK2.out (fun b _ e => by
    rcases e with e | e
    · exact .inl e
    · exact .inr (.inr (by rw [← H0.out]; exact e)))
  have hob12 : Hid (ov2.ownBlock = ob ∨ ∃ b, ov2.ownBlock = some b ∧ w.heap.size ≤ b) := by
    rcases HOB2.out with e | ⟨b, e, hb⟩
    · left; rw [e]; exact H0.out
    · right; exact ⟨b, e, by omega⟩
  have d0 : w2.cell? ⟨g, 0, none⟩ = some (.int .i64 size) := by rw [HB2.out.cell]; rfl
  have d2 : w2.cell? ⟨g, 2, none⟩ = some (.map (some bm)) := by rw [HB2.out.cell]; rfl
  have e1 := HB2.out.frozen 1
  have hz2 := hk12.out.size
  obtain ⟨A2, c3, rfl, hc3, hm3⟩ := own_form HO2.out
  have d1 : w2.cell? ⟨g, 1, none⟩ = some (.slice A2 ks.length c3) := by rw [HB2.out.cell]; rfl
  by_cases hbig : size < ks.length
  · have hks : ks.length = size + 1 := by have := hkl2.out; omega
    have hKS := Lib.hid hks
    have hkge : size + 1 ≤ ks.length := by omega
    have hcmp : decide ((size : Int) < (ks.length : Int)) = true := by simp; omega
    have hcmp2 : (size : Int) < (ks.length : Int) := by omega
    obtain ⟨g2, o2, rfl, hF2, hcell2⟩ := (Rd.of_own HO2.out).lit (by omega) (by omega)
    have hlast : w2.cell? ⟨g2, o2 + size, none⟩ = some (.int .i64 (ks[size]'hbig)) := hcell2 size _ (by simp [ints, hbig])
    clear hcell2 hF2 hks
    have hg2 : o2 = 0 ∧ ∃ cur, base ≤ g2 ∧ Blk w2 g2 3 cur ∧ cur.length = c3 ∧ cur.take ks.length = ints ks := by
      rcases own_lit HO2.out with ⟨e, _⟩ | ⟨g', cap, cur, hv', hg', hb', hn', hm', hl', ht'⟩
      · cases e
      · injection hv' with e1 e2 e3
        injection e1 with e1
        injection e1 with e4 e5
        subst e4 e3
        exact ⟨e5, cur, hg', hb', hl', ht'⟩
    obtain ⟨rfl, cur, hg2b, hcur, hcl, hct⟩ := hg2
    have hgg2 : g ≠ g2 := fun e => Blk.ne HB2.out hcur (by decide) e
    have hg2m : g2 ≠ bm := map_ne hcur hm2.out
    have HCUR := Lib.hid hcur
    have HCT := Lib.hid hct
    have HCL := Lib.hid hcl
    clear hcur hct hcl
    have hK3 : Hid (∀ q, Kp (· = g) w2 ((w2.drewN q).setCell ⟨g, 1, none⟩ (.slice (some ⟨g2, 0, none⟩) size c3))) := fun q => ((Kp.refl (· = g) _).drewN q).setCell (p := ⟨g, 1, none⟩) (.inl rfl) _
    rw [Nat.zero_add] at hlast
    have hdel : ∀ q : Nat, ∃ w', (Builtin.delete_ #[50, 3] 0 #[.map (some bm), .int .i64 (ks[size]'hbig)]).run Try.prog ((w2.drewN q).setCell ⟨g, 1, none⟩ (.slice (some ⟨g2, 0, none⟩) size c3)) = .ok (.tuple #[]) w' ∧
        MapAt w' bm intKey (mdel m2 (ks[size]'hbig)) ∧ Kp (· = bm) ((w2.drewN q).setCell ⟨g, 1, none⟩ (.slice (some ⟨g2, 0, none⟩) size c3)) w' := by
      intro q
      obtain ⟨w', a1, a2, a3, _⟩ := (hm2.out.kp (hK3.out q) (fun e => hgm e.symm)).delete kint under_texts (ks[size]'hbig) 3 0
      exact ⟨w', a1, a2, a3⟩
    obtain ⟨fw, hfw⟩ := Classical.axiomOfChoice hdel
    have hrun := fun q => (hfw q).1
    have HFIN : Hid (∀ q, CPost w base g bm ob size fin hits misses (.tuple #[]) (.returned (.tuple #[])) (fw q)) := by
      intro q
      obtain ⟨hma, hka⟩ := (hfw q).2
      have hkf : keys fin = ks.take size := by rw [hput.out, keys_take, HKE.out]
      have hfl : fin.length = size := by rw [hput.out, List.length_take]; have := hkl2.out; omega
      have hkall := ((hK3.out q).weak (S' := fun b => b = g ∨ b = bm) (fun _ e => .inl e)).trans hka (fun _ _ e => .inr e)
      have hgb3 : Blk ((w2.drewN q).setCell ⟨g, 1, none⟩ (.slice (some ⟨g2, 0, none⟩) size c3)) g 52 (cacheCells size (.slice (some ⟨g2, 0, none⟩) size c3) bm hits misses) := Blk.set (show Blk (w2.drewN q) g _ _ from HB2.out) 1 _
      have hgb4 := hgb3.kp hka (fun e => hgm e)
      have hcur4 := HCUR.out.kp hkall (fun e => by rcases e with e | e; exact hgg2 e.symm; exact hg2m e)
      have hown4 := own_mk (base := base) (n := size) hcur4 hg2b (by omega) hm3 HCL.out
      have hct2 : cur.take size = ints (keys fin) := by
        have e : cur.take size = (cur.take ks.length).take size := by rw [List.take_take, Nat.min_eq_left (by omega)]
        rw [hkf, e, HCT.out]
        simp [ints, List.map_take]
      have hkfl : (keys fin).length = size := by rw [keys_len]; exact hfl
      rw [hct2] at hown4
      have hmn : (m2.map (·.1)).Nodup := by obtain ⟨_, _, _, _, h, _⟩ := hm2.out; exact h
      refine ⟨some g2, rfl, ⟨.slice (some ⟨g2, 0, none⟩) size c3, _, rfl, hgb4, by rw [hkfl]; exact hown4, hma, fun j => ?_, ?_, by omega, h7, h8, ?_⟩, ?_, ?_⟩
      · rw [mget_mdel _ _ _ hmn, hlook.out, hput.out, look_take it2 (by rw [HKE.out]; exact hnd2.out) size (by have := hkl2.out; have := hKS.out; omega)]
        have hlk : (it2[size]'(by have := hkl2.out; omega)).1 = ks[size]'hbig := by
          have e := HKE.out
          simp only [← e, keys, List.getElem_map]
        rw [hlk]
        by_cases hj : ks[size]'hbig = j
        · simp [hj]
        · simp [hj]
      · rw [hkf]; exact hnd2.out.sublist (List.take_sublist _ _)
      · exact Nat.le_trans h9 (Nat.le_trans hz2 hkall.size)
      · exact hk12.out.trans hkall (fun b _ e => by rcases e with e | e; exact .inl e; exact .inr (.inl e))
      · exact hob12.out
    clear hfw hdel
    go_quiet (fail)
    go_wp2
    go_quiet (fail)
    go_wp2
    go_region
    all_goals
      go_wp2
      go_end0
      exact HFIN.out _
  · have hcmp : decide ((size : Int) < (ks.length : Int)) = false := by simp; omega
    have hcmp2 : ¬ (size : Int) < (ks.length : Int) := by omega
    have hfe : Hid (fin = it2) := by unfold Hid; rw [hput.out, List.take_of_length_le]; have := hkl2.out; omega
    go_quiet (fail)
    go_wp2
    go_end0
    rw [hfe.out]
    refine ⟨_, rfl, ⟨_, m2, rfl, HB2.out, ?_, hm2.out, hlook.out, ?_, ?_, h7, h8, Nat.le_trans h9 hz2⟩, hk12.out.drewN _, hob12.out⟩
    · rw [HKE.out]; exact HO2.out
    · rw [HKE.out]; exact hnd2.out
    · have := hkl2.out; omega
end Go.Proofs.Ytedjaahidncokab
