/- Layer 11 (cache): what each method does to a cache that a call made. -/
import Derived.Test.YtedjaahidncokabP11
import Derived.Test.YtedjaahidncokabSl
namespace Go.Proofs.Ytedjaahidncokab
open Go.RowKit

/-- the cells of a cache -/
def cacheCells (size : Nat) (ov : Value) (bm : Nat) (hits misses : Int) : List Value := [.int .i64 size, ov, .map (some bm), .int .i64 hits, .int .i64 misses]
def foot (g bm : Nat) (ob : Option Nat) (b : Nat) : Prop := b = g ∨ b = bm ∨ ob = some b
def CacheAt (w : World) (base g bm : Nat) (ob : Option Nat) (size : Nat) (items : Items) (hits misses : Int) : Prop :=
  ∃ (ov : Value) (m : List (Int × Value)), ov.ownBlock = ob ∧ Blk w g 52 (cacheCells size ov bm hits misses) ∧ w.ownsRow base 3 1 ov (keys items).length (ints (keys items)) ∧
    MapAt w bm intKey m ∧ (∀ i, mget m i = (look items i).map Value.string) ∧ (keys items).Nodup ∧ items.length ≤ size ∧ 1 ≤ size ∧ size ≤ 64 ∧ base ≤ w.heap.size

theorem kint : Keys Try.prog 3 Int intKey := keys_int Try.underlying3
theorem under_texts : Try.prog.underlying 50 = some (.map 3 9) := Try.underlying50
theorem zero_str (w : World) : (zeroValue 9).run Try.prog w = .ok (.string ByteArray.empty) w := by kernel_rfl

def NewPost (w : World) (size : Nat) (e : Ending) (w' : World) : Prop :=
  ∃ g bm : Nat, e = .returned (.tuple #[.pointer (some ⟨g, 0, none⟩), .int .i64 0]) ∧ w.heap.size ≤ g ∧ w.heap.size ≤ bm ∧ CacheAt w' w.heap.size g bm none size [] 0 0 ∧ Below w.heap.size w w'

set_option maxHeartbeats 400000 in
theorem cnew_no (n : Int) (w : World) (h : n < 1 ∨ 64 < n) :
    Calls Try.prog 8 #[.int .i64 n] w fun e w' => e = .returned (.tuple #[.pointer none, .int .i64 2]) ∧ w = w' := by
  by_cases h1 : n < 1
  · clear h
    go_enter Try.func8, Try.ntmps8
    go_wp2
    go_ret2
    exact ⟨rfl, rfl⟩
  · have h2 : 64 < n := by omega
    clear h
    go_enter Try.func8, Try.ntmps8
    go_wp2
    go_ret2
    exact ⟨rfl, rfl⟩
set_option maxHeartbeats 400000 in
theorem cnew_yes (n : Nat) (w : World) (h1 : 1 ≤ n) (h2 : n ≤ 64) : Calls Try.prog 8 #[.int .i64 n] w (NewPost w n) := by
  have hmm := @run_makeMap Try.prog
  have hn1 : ¬ (n : Int) < 1 := by omega
  go_enter Try.func8, Try.ntmps8
  go_wp2
  go_ret2
  refine ⟨w.heap.size + 1, w.heap.size, rfl, by omega, by omega, ⟨.slice none 0 0, [], rfl, ?_, World.ownsRow_nil _ _ _ _, ?_, fun i => rfl, by simp [keys], by simp, h1, h2, by simp; omega⟩, ((Below.refl _ _).alloc (Nat.le_refl _) _).alloc (by simp) _⟩
  · have := Blk.new (w.alloc (.map #[] 0)) 52 (cacheCells n (.slice none 0 0) w.heap.size 0 0)
    simpa [cacheCells] using this
  · exact (MapAt.new w).kp ((Kp.refl (fun _ => False) _).alloc _) (fun h => h)

set_option maxHeartbeats 400000 in
theorem cthere_yes (g n : Nat) (w : World) (h1 : w.cell? ⟨g, 0, none⟩ = some (.int .i64 n)) (h2 : 1 ≤ n) :
    Calls Try.prog 23 #[.pointer (some ⟨g, 0, none⟩)] w fun e w' => e = .returned (.bool true) ∧ w = w' := by
  go_enter Try.func23, Try.ntmps23
  go_wp2
  go_ret
  simp
  omega
/-- nil, or a plain Cache{} -/
def NoCache (w : World) (p : Option Addr) : Prop := p = none ∨ ∃ g, p = some ⟨g, 0, none⟩ ∧ w.cell? ⟨g, 0, none⟩ = some (.int .i64 0)
set_option maxHeartbeats 400000 in
theorem cthere_no (p : Option Addr) (w : World) (h : NoCache w p) :
    Calls Try.prog 23 #[.pointer p] w fun e w' => e = .returned (.bool false) ∧ w = w' := by
  rcases h with rfl | ⟨g, rfl, h0⟩
  all_goals
    go_enter Try.func23, Try.ntmps23
    go_wp2
    go_ret
    simp

/-- first: the place goes to the head of the order -/
def FirstPost (w : World) (base g : Nat) (ov : Value) (size bm : Nat) (hits misses : Int) (o : List Int) (e : Ending) (w' : World) : Prop :=
  ∃ ov', e = .returned (.tuple #[]) ∧ Blk w' g 52 (cacheCells size ov' bm hits misses) ∧ w'.ownsRow base 3 1 ov' o.length (ints o) ∧ Kp (fun b => b = g ∨ ov.ownBlock = some b) w w' ∧ (ov'.ownBlock = ov.ownBlock ∨ ∃ b, ov'.ownBlock = some b ∧ w.heap.size ≤ b)

set_option maxHeartbeats 1000000 in
theorem first_any (base g bm size : Nat) (ov : Value) (hits misses : Int) (o : List Int) (i : Int) (w : World) (hb : Blk w g 52 (cacheCells size ov bm hits misses)) (ho : w.ownsRow base 3 1 ov o.length (ints o)) (hnd : o.Nodup) (hlen : o.length < 1000) (hb0 : base ≤ w.heap.size) :
    Calls Try.prog 25 #[.pointer (some ⟨g, 0, none⟩), .int .i64 i] w (FirstPost w base g ov size bm hits misses (i :: o.filter (· != i))) := by
  have hgl := hb.lt
  have hog : ov.ownBlock ≠ some g := by
    rcases own_lit ho with ⟨rfl, _⟩ | ⟨g', cap, cur, rfl, _, hb', _⟩
    · simp [Value.ownBlock]
    · intro e
      have e' : g' = g := by simpa [Value.ownBlock] using e
      exact Blk.ne hb' hb (by decide) e'
  have hspec := idxI_spec o i
  obtain ⟨A, c, hv, hcl, hcm⟩ := own_form ho
  have hix := Lib.hid (index_any A c o i w _ (Rd.of_own (by rw [hv] at ho; exact ho)) (by unfold maxLen; omega))
  have hc1 : w.cell? ⟨g, 1, none⟩ = some (.slice A o.length c) := by rw [hb.cell, ← hv]; rfl
  have hf1 := hb.frozen 1
  have HB := Lib.hid hb
  have HO := Lib.hid ho
  have HV := Lib.hid hv
  clear hb ho hv
  -- the last part: the place is put ahead of what is left
  have hlast : Hid (∀ (w1 : World) (v1 : Value) (o1 : List Int), Blk w1 g 52 (cacheCells size v1 bm hits misses) → w1.ownsRow base 3 1 v1 o1.length (ints o1) → o1.length < 1000 → base ≤ w1.heap.size →
      Calls Try.prog 29 #[v1, .int .i64 0, .slice (some ⟨w1.heap.size, 0, none⟩) 1 1] (w1.alloc (.cells #[.int .i64 i] 3)) (OwnPost (w1.alloc (.cells #[.int .i64 i] 3)) base v1 (i :: o1))) := by
    intro w1 v1 o1 hb1 ho1 hl1 hbs
    refine insert_any v1 base w1.heap.size 1 o1 i _ (ho1.alloc _) (Blk.new w1 3 [.int .i64 i]) (fun e => ?_) (by simp; omega) (by omega)
    have := (ho1.lt _ e).2
    omega
  rcases hspec with ⟨hneg, hnot⟩ | ⟨k, hk, hkl, hat, _⟩
  · have hfil : Hid (o.filter (· != i) = o) := filter_ne hnot
    rw [hneg] at hix
    have hins := Lib.hid (hlast.out w ov o HB.out HO.out hlen hb0)
    rw [HV.out] at hins
    have hgA : Hid (Blk (w.alloc (.cells #[.int .i64 i] 3)) g 52 (cacheCells size ov bm hits misses)) := HB.out.alloc _
    go_enter Try.func25, Try.ntmps25
    go_wp2_with (go_at_call 27; refine hix.out.mono ?_; rintro e w1 ⟨rfl, rfl⟩)
    refine hins.out.mono ?_
    rintro e w2 ⟨v2, rfl, hown2, hkp2, hob2⟩
    have hgb := hgA.out.kp hkp2 (fun e => hog (by rw [HV.out]; exact e))
    have hc2 : w2.cell? ⟨g, 1, none⟩ = some ov := by rw [hgb.cell]; rfl
    have hf2 := hgb.frozen 1
    have HG := Lib.hid hgb
    have HO2 := Lib.hid hown2
    have HK2 := Lib.hid hkp2
    have HOB := Lib.hid hob2
    clear hgb hown2 hkp2 hob2
    obtain ⟨A2, c2, rfl, _⟩ := own_form HO2.out
    go_wp2_with fail
    go_end0
    rw [hfil.out]
    have hne2 : (Value.slice A2 (i :: o).length c2).ownBlock ≠ some g := by
      rcases HOB.out with e | e
      · rw [e, ← HV.out]; exact hog
      · rw [e]; simp; omega
    refine ⟨_, rfl, ?_, ownsRow_setCell_other HO2.out (a := ⟨g, 1, none⟩) hne2 _, ?_, ?_⟩
    · have := HG.out.set 1 (.slice A2 (i :: o).length c2)
      exact this
    · refine Kp.setCell ?_ (p := ⟨g, 1, none⟩) (.inl (.inl rfl)) _
      exact ((Kp.refl _ _).alloc _).trans HK2.out (fun b _ e => .inr (by rw [HV.out]; exact e))
    · rcases HOB.out with e | e
      · left; rw [HV.out]; exact e
      · right; exact ⟨_, e, by simp⟩
  · have hfil : Hid (o.eraseIdx k = o.filter (· != i)) := by unfold Hid; rw [erase_filter hnd k hkl, hat]
    rw [hk] at hix
    have hdel := Lib.hid (delete_any ov base k o w HO.out hkl)
    rw [HV.out, hfil.out] at hdel
    have hl2 : (o.filter (· != i)).length < 1000 := Nat.lt_of_le_of_lt (List.length_filter_le _ _) hlen
    generalize hO1 : o.filter (· != i) = o1 at *
    clear hfil hO1
    go_enter Try.func25, Try.ntmps25
    go_wp2_with (go_at_call 27; refine hix.out.mono ?_; rintro e w1 ⟨rfl, rfl⟩)
    refine hdel.out.mono ?_
    rintro e w1 ⟨v1, rfl, hown1, hkp1, hob1⟩
    have hgb1 := HB.out.kp hkp1 (fun e => hog (by rw [HV.out]; exact e))
    have hc11 : w1.cell? ⟨g, 1, none⟩ = some ov := by rw [hgb1.cell]; rfl
    have hf11 := hgb1.frozen 1
    obtain ⟨A1, c1, rfl, _⟩ := own_form hown1
    have hne1 : (Value.slice A1 o1.length c1).ownBlock ≠ some g := by
      rcases hob1 with e | e
      · rw [e, ← HV.out]; exact hog
      · rw [e]; simp; omega
    have hG1 : Hid (Blk (w1.setCell ⟨g, 1, none⟩ (.slice A1 o1.length c1)) g 52 (cacheCells size (.slice A1 o1.length c1) bm hits misses)) := hgb1.set 1 _
    have hO1 : Hid ((w1.setCell ⟨g, 1, none⟩ (.slice A1 o1.length c1)).ownsRow base 3 1 (.slice A1 o1.length c1) o1.length (ints o1)) := ownsRow_setCell_other hown1 (a := ⟨g, 1, none⟩) hne1 _
    have hK1 : Hid (Kp (fun b => b = g ∨ ov.ownBlock = some b) w (w1.setCell ⟨g, 1, none⟩ (.slice A1 o1.length c1))) :=
      Kp.setCell (hkp1.weak (fun b e => .inr (by rw [HV.out]; exact e))) (p := ⟨g, 1, none⟩) (.inl (.inl rfl)) _
    have hz1 := hkp1.size
    have hins := Lib.hid (hlast.out _ _ o1 hG1.out hO1.out hl2 (by simp [World.setCell]; omega))
    have hszs : (w1.setCell ⟨g, 1, none⟩ (.slice A1 o1.length c1)).heap.size = w1.heap.size := by simp [World.setCell]
    rw [hszs] at hins
    have hne1' := Lib.hid hne1
    have HOB1 := Lib.hid hob1
    clear hgb1 hown1 hkp1 hob1 hne1 hlast
    go_wp2_with fail
    refine hins.out.mono ?_
    rintro e w2 ⟨v2, rfl, hown2, hkp2, hob2⟩
    have hgb := (hG1.out.alloc (.cells #[.int .i64 i] 3)).kp hkp2 hne1'.out
    have hc2 : w2.cell? ⟨g, 1, none⟩ = some (.slice A1 o1.length c1) := by rw [hgb.cell]; rfl
    have hf2 := hgb.frozen 1
    have HG := Lib.hid hgb
    have HO2 := Lib.hid hown2
    have HK2 := Lib.hid hkp2
    have HOB := Lib.hid hob2
    clear hgb hown2 hkp2 hob2 hins
    obtain ⟨A2, c2, rfl, _⟩ := own_form HO2.out
    go_wp2_with fail
    go_end0
    have hne2 : (Value.slice A2 (i :: o1).length c2).ownBlock ≠ some g := by
      rcases HOB.out with e | e
      · rw [e]; exact hne1'.out
      · rw [e]; simp; omega
    refine ⟨_, rfl, ?_, ownsRow_setCell_other HO2.out (a := ⟨g, 1, none⟩) hne2 _, ?_, ?_⟩
    · have := HG.out.set 1 (.slice A2 (i :: o1).length c2)
      exact this
    · refine Kp.setCell ?_ (p := ⟨g, 1, none⟩) (.inl (.inl rfl)) _
      refine (hK1.out.alloc _).trans HK2.out (fun b hb e => ?_)
      rcases HOB1.out with e1 | e1
      · right; rw [HV.out, ← e1]; exact e
      · rw [e1] at e; injection e with e; omega
    · rcases HOB.out with e | e
      · rcases HOB1.out with e1 | e1
        · left; rw [HV.out, ← e1]; exact e
        · right; exact ⟨_, e.trans e1, Nat.le_refl _⟩
      · right; exact ⟨_, e, by simp; omega⟩

section
variable {w w' : World} {base g bm size : Nat} {ob : Option Nat} {items : Items} {hits misses : Int}
theorem CacheAt.kp {S : Nat → Prop} (h : CacheAt w base g bm ob size items hits misses) (k : Kp S w w') (hS : ∀ b, S b → ¬ foot g bm ob b) : CacheAt w' base g bm ob size items hits misses := by
  obtain ⟨ov, m, h0, h1, h2, h3, h4, h5, h6, h7, h8, h9⟩ := h
  refine ⟨ov, m, h0, h1.kp k (fun h => hS _ h (.inl rfl)), ?_, h3.kp k (fun h => hS _ h (.inr (.inl rfl))), h4, h5, h6, h7, h8, Nat.le_trans h9 k.size⟩
  rcases own_lit h2 with ⟨rfl, hl, hx⟩ | ⟨g', cap, cur, rfl, hg, hb', hn, hm, hl, ht⟩
  · rw [hl, hx]; exact World.ownsRow_nil _ _ _ _
  · have hb2 := hb'.kp k (fun h => hS _ h (.inr (.inr (by rw [← h0]; rfl))))
    rw [← ht]
    exact own_mk hb2 hg hn hm hl
theorem CacheAt.lt (h : CacheAt w base g bm ob size items hits misses) : ∀ b, foot g bm ob b → b < w.heap.size := by
  obtain ⟨ov, m, h0, h1, h2, h3, _⟩ := h
  rintro b (rfl | rfl | hb)
  · exact h1.lt
  · exact h3.lt
  · exact (h2.lt b (by rw [h0]; exact hb)).2
theorem CacheAt.ge (h : CacheAt w base g bm ob size items hits misses) : ∀ b, ob = some b → base ≤ b := by
  obtain ⟨ov, m, h0, h1, h2, h3, _⟩ := h
  intro b hb
  exact (h2.lt b (by rw [h0]; exact hb)).1
end
/-- what a call leaves: a cache; only its own blocks have turned -/
def CPost (w : World) (base g bm : Nat) (ob : Option Nat) (size : Nat) (items : Items) (hits misses : Int) (v : Value) (e : Ending) (w' : World) : Prop :=
  ∃ ob', e = .returned v ∧ CacheAt w' base g bm ob' size items hits misses ∧ Kp (foot g bm ob) w w' ∧ (ob' = ob ∨ ∃ b, ob' = some b ∧ w.heap.size ≤ b)

theorem map_ne {w : World} {g bm : Nat} {t : TypeId} {cs : List Value} {m : List (Int × Value)} (h : Blk w g t cs) (hm : MapAt w bm intKey m) : g ≠ bm := by
  rintro rfl
  obtain ⟨es, clock, hb, _⟩ := hm
  unfold Blk at h
  rw [h] at hb
  cases hb

set_option maxHeartbeats 1000000 in
theorem get_miss (base g bm size : Nat) (ob : Option Nat) (items : Items) (hits misses i : Int) (w : World) (h : CacheAt w base g bm ob size items hits misses) (hl : look items i = none) (hm0 : 0 ≤ misses) (hm1 : misses ≤ 1000000) :
    Calls Try.prog 18 #[.pointer (some ⟨g, 0, none⟩), .int .i64 i] w (CPost w base g bm ob size items hits (misses + 1) (.tuple #[.string ByteArray.empty, .bool false])) := by
  obtain ⟨ov, m, h0, h1, h2, h3, h4, h5, h6, h7, h8, h9⟩ := h
  have hlk := h3.lookup_ok kint under_texts i zero_str
  rw [h4, hl] at hlk
  unfold intKey at hlk
  simp only [Option.map_none, Option.getD_none, Option.isSome_none] at hlk
  have c0 : w.cell? ⟨g, 0, none⟩ = some (.int .i64 size) := by rw [h1.cell]; rfl
  have c2 : w.cell? ⟨g, 2, none⟩ = some (.map (some bm)) := by rw [h1.cell]; rfl
  have c4 : w.cell? ⟨g, 4, none⟩ = some (.int .i64 misses) := by rw [h1.cell]; rfl
  have f4 := h1.frozen 4
  have hgm := map_ne h1 h3
  have HB := Lib.hid h1
  have HM := Lib.hid h3
  have HO := Lib.hid h2
  have H4 := Lib.hid h4
  have hog : Hid (ov.ownBlock ≠ some g) := by
    rcases own_lit h2 with ⟨rfl, _⟩ | ⟨g', cap, cur, rfl, _, hb', _⟩
    · simp [Value.ownBlock, Hid]
    · intro e
      have e' : g' = g := by simpa [Value.ownBlock] using e
      exact Blk.ne hb' h1 (by decide) e'
  have H0 := Lib.hid h0
  clear h1 h3 h2 h4 h0
  go_enter Try.func18, Try.ntmps18
  go_wp2_with (go_at_call 23; refine (cthere_yes g size _ (by assumption) h7).mono ?_; rintro e w1 ⟨rfl, rfl⟩)
  go_ret2
  refine ⟨ob, rfl, ⟨ov, m, H0.out, ?_, ownsRow_setCell_other HO.out (a := ⟨g, 4, none⟩) hog.out _, ?_, H4.out, h5, h6, h7, h8, by simp [World.setCell]; omega⟩, (Kp.refl _ _).setCell (p := ⟨g, 4, none⟩) (.inl (.inl rfl)) _, .inl rfl⟩
  · exact HB.out.set 4 _
  · exact HM.out.kp ((Kp.refl (· = g) _).setCell (p := ⟨g, 4, none⟩) (.inl rfl) _) (fun e => hgm e.symm)
end Go.Proofs.Ytedjaahidncokab
