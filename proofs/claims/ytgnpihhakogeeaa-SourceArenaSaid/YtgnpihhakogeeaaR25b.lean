/- Layer 25, the program: there, New. -/
import Derived.Test.YtgnpihhakogeeaaR25
namespace Go.Proofs.Ytgnpihhakogeeaa
open Go.RowKit
attribute [local go_sem ↓] Go.wp_at_zero Go.wp_at_succ

theorem there_yes (g n c : Nat) (A : Option Addr) (w : World) (h1 : w.cell? ⟨g, 0, none⟩ = some (.slice A n c)) (h2 : 1 ≤ n) :
    Calls Try.prog 65 #[.pointer (some ⟨g, 0, none⟩)] w fun e w' => e = .returned (.bool true) ∧ w = w' := by
  have h3 : decide (0 < n) = true := by simp; omega
  have h4 : decide (0 < (n : Int)) = true := by simp; omega
  go_enter Try.func65, Try.ntmps65
  go_wp2
  go_ret
  exact ⟨rfl, rfl⟩
/-- an arena that no call made -/
def NoArena (w : World) (p : Option Addr) : Prop := p = none ∨ ∃ g A c, p = some ⟨g, 0, none⟩ ∧ w.cell? ⟨g, 0, none⟩ = some (.slice A 0 c)
theorem there_no (p : Option Addr) (w : World) (h : NoArena w p) :
    Calls Try.prog 65 #[.pointer p] w fun e w' => e = .returned (.bool false) ∧ w = w' := by
  rcases h with rfl | ⟨g, A, c, rfl, h1⟩
  · go_enter Try.func65, Try.ntmps65
    go_wp2
    go_ret
    exact ⟨rfl, rfl⟩
  · go_enter Try.func65, Try.ntmps65
    go_wp2
    go_ret
    exact ⟨rfl, rfl⟩

theorem ints_info : (Try.prog.info? 26).map (fun i => (i.zero, i.size, i.bytes)) = some (some (.slice none 0 0), Rep.size (List Int), 24) := by kernel_rfl
theorem OwnG.int {G : Nat → Prop} {w : World} {base : Nat} {E : TypeId} {v : Value} {l : List Int} (h : OwnG G w base E v l) : SlAt w (fun b => base ≤ b ∧ b < w.heap.size) v l := by
  obtain ⟨css, h1, h2⟩ := h
  obtain ⟨A, c, rfl, h3, h4⟩ := own_form h1
  exact ⟨A, c, rfl, h3, h4, css, ⟨h2.1, fun i r x hr hx => h2.2 i r x hr hx⟩, Rd.of_own h1⟩
/-- a slice of new memory, as the one element of a row just made -/
theorem el_of_new {α : Type} [Rep α] {w0 wr w1 : World} {t : TypeId} {v v1 : Value} {lk : List α} (hz : w0.heap.size ≤ wr.heap.size) (hz1 : wr.heap.size ≤ w1.heap.size) (hv : ∀ b, v.ownBlock = some b → b < wr.heap.size) (h1 : SlAt w1 (fun b => wr.heap.size ≤ b ∧ b < w1.heap.size) v1 lk) :
    ElemsAt (w1.alloc (.cells #[v1] t)) (fun b => w0.heap.size ≤ b ∧ b < (w1.alloc (.cells #[v1] t)).heap.size ∧ v.ownBlock ≠ some b) (some ⟨w1.heap.size, 0, none⟩) [lk] := by
  refine ElemsAt.made ⟨_, rfl, ?_⟩ ⟨by omega, by simp, fun e => by have := hv _ e; omega⟩
  exact h1.keep (fun p hp => World.cell?_alloc_lt _ _ _ hp.2) (fun b hb => ⟨by omega, by simp; omega, fun e => by have := hv _ e; omega⟩)

def NewAr (w : World) (x : Shp) (most : Int) (e : Ending) (w' : World) : Prop :=
  ∃ g SA sc, e = .returned (.tuple #[.pointer (some ⟨g, 0, none⟩), .int .i64 0]) ∧ Blk w' g 75 [.slice SA x.sizes.length sc, .int .i64 x.measures, .slice none 0 0, .int .i64 most] ∧ w.heap.size ≤ g ∧
    SlAt w' (fun b => w.heap.size ≤ b ∧ b < w'.heap.size ∧ b ≠ g) (.slice SA x.sizes.length sc) x.sizes ∧ Below w.heap.size w w'
def mayNew (x : Shp) (most : Int) : Bool := shpMay x && decide (0 ≤ most) && decide (most ≤ 131072)

set_option maxHeartbeats 4000000 in
set_option maxRecDepth 100000 in
theorem anew_no (A : Option Addr) (c : Nat) (x : Shp) (most : Int) (w : World) (F : Nat → Prop) (hx : ElemsAt w F A x.sizes) (hF : ∀ b, F b → b < w.heap.size) (hl : x.sizes.length ≤ maxLen) (hm : mayNew x most = false) :
    Calls Try.prog 45 #[.agg #[.slice A x.sizes.length c, .int .i64 x.measures], .int .i64 most] w (RetV w (.tuple #[.pointer none, .int .i64 2])) := by
  have HM : Hid (∀ W, Below w.heap.size w W → Calls Try.prog 73 #[.agg #[.slice A x.sizes.length c, .int .i64 x.measures]] W (RetV W (.bool (shpMay x)))) :=
    fun W hW => amay_any A c x W F (hx.below hW hF) (fun b hb => by have := hF b hb; have := hW.size; omega) hl
  clear hx hF
  cases h1 : shpMay x with
  | false =>
    rw [h1] at HM
    clear hm h1
    go_enter Try.func45, Try.ntmps45
    go_wp2_with (go_at_call 73; refine (HM.out _ (below1 _ _)).mono ?_; rintro e w1 h1; obtain ⟨rfl, hb1, hz1, hc1, hf1⟩ := h1.imp; clear h1)
    go_ret2
    exact ⟨rfl, bon (below1 _ _) hb1⟩
  | true =>
    rw [h1] at HM
    cases h2 : decide (most < 0) with
    | true =>
      clear hm h1
      go_enter Try.func45, Try.ntmps45
      go_wp2_with (go_at_call 73; refine (HM.out _ (below1 _ _)).mono ?_; rintro e w1 h1; obtain ⟨rfl, hb1, hz1, hc1, hf1⟩ := h1.imp; clear h1)
      go_ret2
      exact ⟨rfl, bon (below1 _ _) hb1⟩
    | false =>
      have h3 : decide (131072 < most) = true := by
        unfold mayNew at hm; rw [h1] at hm; simp at hm h2 ⊢; omega
      clear hm h1
      go_enter Try.func45, Try.ntmps45
      go_wp2_with (go_at_call 73; refine (HM.out _ (below1 _ _)).mono ?_; rintro e w1 h1; obtain ⟨rfl, hb1, hz1, hc1, hf1⟩ := h1.imp; clear h1)
      go_ret2
      exact ⟨rfl, bon (below1 _ _) hb1⟩

set_option maxHeartbeats 4000000 in
set_option maxRecDepth 100000 in
theorem anew_yes (A : Option Addr) (c : Nat) (x : Shp) (most : Int) (w : World) (F : Nat → Prop) (hx : ElemsAt w F A x.sizes) (hF : ∀ b, F b → b < w.heap.size) (hm : mayNew x most = true) :
    Calls Try.prog 45 #[.agg #[.slice A x.sizes.length c, .int .i64 x.measures], .int .i64 most] w (NewAr w x most) := by
  have hms : shpMay x = true := by unfold mayNew at hm; simp at hm; exact hm.1.1
  obtain ⟨hl1, hl2, _, _, hrows⟩ := shpMay_bounds hms
  have h2 : decide (most < 0) = false := by unfold mayNew at hm; simp at hm ⊢; omega
  have h3 : decide (131072 < most) = false := by unfold mayNew at hm; simp at hm ⊢; omega
  have hl3 : x.sizes.length ≤ maxLen := by unfold maxLen; omega
  have HM : Hid (∀ W, Below w.heap.size w W → Calls Try.prog 73 #[.agg #[.slice A x.sizes.length c, .int .i64 x.measures]] W (RetV W (.bool true))) := by
    intro W hW
    have := amay_any A c x W F (hx.below hW hF) (fun b hb => by have := hF b hb; have := hW.size; omega) hl3
    rw [hms] at this
    exact this
  have HX := Lib.hid hx
  have HF := Lib.hid hF
  have HRW := Lib.hid hrows
  clear hx hF hm hms hl3 hrows
  obtain ⟨i0, hi, hj0, hj1, hj2⟩ := info_parts ints_info
  have s0 : Hid (Blk (w.alloc (.cells #[.slice A x.sizes.length c, .int .i64 x.measures] 24)) w.heap.size 24 [.slice A x.sizes.length c, .int .i64 x.measures]) := Blk.new _ _ _
  have b0 : Hid (Below w.heap.size w (w.alloc (.cells #[.slice A x.sizes.length c, .int .i64 x.measures] 24))) := below1 _ _
  go_enter Try.func45, Try.ntmps45
  go_wp2_with fail
  generalize w.alloc (.cells #[.slice A x.sizes.length c, .int .i64 x.measures] 24) = wa at b0 s0 ⊢
  refine (HM.out _ b0.out).mono ?_
  rintro e w1 h1
  obtain ⟨rfl, hb1, hz1, hc1, _⟩ := h1.imp
  have s1 := Lib.hid (s0.out.below hb1 s0.out.lt)
  have b1 : Hid (Below w.heap.size w w1) := bon b0.out hb1
  have hza := s0.out.lt
  have c0 : w1.cell? ⟨w.heap.size, 0, none⟩ = some (.slice A x.sizes.length c) := by rw [s1.out.cell]; rfl
  have c1 : w1.cell? ⟨w.heap.size, 1, none⟩ = some (.int .i64 x.measures) := by rw [s1.out.cell]; rfl
  have zw1 : w.heap.size < w1.heap.size := s1.out.lt
  clear h1 hb1 hc1 s0 b0 HM
  have s3 : Hid (Blk (w1.alloc (.cells #[.slice none 0 0, .int .i64 x.measures] 24)) w1.heap.size 24 [.slice none 0 0, .int .i64 x.measures]) := Blk.new _ _ _
  have b3 : Hid (Below w.heap.size w (w1.alloc (.cells #[.slice none 0 0, .int .i64 x.measures] 24))) := bon b1.out (below1 _ _)
  go_wp2_with fail
  generalize hw0 : w1.alloc (.cells #[.slice none 0 0, .int .i64 x.measures] 24) = w0 at b3 s3 ⊢
  have z0 : w1.heap.size < w0.heap.size := s3.out.lt
  obtain ⟨g3, hg3⟩ : ∃ g3, g3 = w1.heap.size := ⟨_, rfl⟩
  rw [← hg3] at s3 z0 ⊢
  have hg4 : w.heap.size ≤ g3 := by omega
  have HX0 := Lib.hid (HX.out.below b3.out HF.out)
  clear hw0 hg3 s1 b1 c0 c1 zw1 hz1 hza
  have k0 : Hid (Kp (fun b => b = g3) w0 w0) := Kp.refl _ _
  go_loopw [26] (fun i wr => ∃ (k : Nat) (B : Option Addr) (d : Nat) (L : List (List Int)), k ≤ x.sizes.length ∧ i = .int .i64 k ∧ L.length ≤ k ∧ Hid (L = x.sizes.take k) ∧ Hid (Blk wr g3 24 [.slice B L.length d, .int .i64 x.measures]) ∧ Hid (OwnG (fun b => w0.heap.size ≤ b) wr w0.heap.size 26 (.slice B L.length d) L) ∧ Hid (Kp (fun b => b = g3) w0 wr)) (fun i _ => x.sizes.length - (intOf i).toNat)
  case atStart => exact ⟨0, none, 0, [], Nat.zero_le _, rfl, Nat.zero_le _, rfl, s3, OwnG.nil, k0⟩
  case round =>
    obtain ⟨k, B, d, L, hk, rfl, hLk, hL, hB3, hown, hkp⟩ := hrel
    have hzr := hkp.out.size
    have hFr : Hid (∀ b, F b → b < w0.heap.size ∧ ¬ b = g3) := fun b hb => by have := HF.out b hb; omega
    have r0 : wr.cell? ⟨g3, 0, none⟩ = some (.slice B L.length d) := by rw [hB3.out.cell]; rfl
    have f0 : wr.frozen? ⟨g3, 0, none⟩ = false := hB3.out.frozen 0
    have zr : g3 < wr.heap.size := by omega
    by_cases hlt : k < x.sizes.length
    · obtain ⟨lb, lo, M, lc, rfl, _, hlb, cl, hlc, hlm, hM⟩ := (HX0.out.kp hkp.out hFr.out).sub hlt
      have hlen : x.sizes[k].length ≤ 4 := (sizesMay_bounds (HRW.out _ (List.getElem_mem hlt))).2.1
      have HS : Hid (L ++ [x.sizes[k]] = x.sizes.take (k + 1)) := by unfold Hid; rw [List.take_succ_eq_append_getElem hlt, hL.out]
      have HC : Hid (∀ W, Below wr.heap.size wr W → Calls Try.prog 74 #[.slice M x.sizes[k].length lc] W (NewL W 3 x.sizes[k])) := by
        intro W hW
        exact clone_int M lc x.sizes[k] W F (hM.below hW (fun b hb => by have := hFr.out b hb; omega)) (fun b hb => by have := hFr.out b hb; have := hW.size; omega) (by omega)
      clear hM
      generalize x.sizes[k] = lk at *
      go_wp2_with fail
      go_region_law
        (first
          | (refine step_call (by rfl) 74 _ _ (by rfl) Try.f74 Try.func74 (by kernel_rfl) (by kernel_rfl) [.slice M lk.length lc] (by rfl) (HC.out wr.drew (Below.refl _ _).drew) ?_; rintro e w1 ⟨v1, rfl, hown1, hb1⟩; refine ⟨_, rfl, ?_⟩; have hB1 : Below wr.heap.size wr w1 := ⟨hb1.os, hb1.tape, hb1.output, hb1.size, hb1.block⟩; clear hb1; have HB1 := Lib.hid hB1; have n1 : w1.cell? ⟨g3, 0, none⟩ = some (.slice B L.length d) := (hB1.cell (p := ⟨g3, 0, none⟩) zr).trans r0; have hO1 : OwnL w1 wr.heap.size 3 v1 lk := hown1; have HO1 := Lib.hid hO1; obtain ⟨A1, c1, rfl, _⟩ := hO1.form; have hz1 := hB1.size; have zw1 : g3 < w1.heap.size := (by omega); clear hown1 hO1 hB1)
          | (refine step_append_el (G := fun b => w0.heap.size ≤ b) _ (by rfl) (.tmp 31) (.tmp 34) _ (by rfl) w0.heap.size 26 i0 _ 24 Try.underlying22 hi hj0 hj1 hj2 rfl (.slice B L.length d) L (by rfl) ((hown.out.below HB1.out).alloc _) (some ⟨w1.heap.size, 0, none⟩) 1 1 [lk] (by rfl) rfl (el_of_new hzr hz1 (fun b hb => (hown.out.block b hb).2) HO1.out.int) (by unfold maxLen; omega) (by omega) (by simp; omega) ?_; intro A4 c4 w4 hown4 hg4 hat4; have HK4 : Hid (Kp (fun b => (Value.slice B L.length d).ownBlock = some b) wr w4) := ((Kp.of_below HB1.out).alloc _).grown hg4 (fun k hk => .inl hk); have HO4 := Lib.hid hown4; have hB4 := Lib.hid (hB3.out.kp HK4.out (hown.out.ne hB3.out (by decide))); have n2 : w4.cell? ⟨g3, 0, none⟩ = some (.slice B L.length d) := (by rw [hB4.out.cell]; rfl); have f4 : w4.frozen? ⟨g3, 0, none⟩ = false := hB4.out.frozen 0; have hz4 := HK4.out.size; clear hown4 hg4 hat4)
          | fail)
      all_goals
        go_wp2
        go_roundw
        case rel =>
          refine ⟨k + 1, A4, c4, L ++ [lk], by omega, by go_num, by simp; omega, HS, ?_, ?_, ?_⟩
          · unfold Hid; rw [List.length_append]; exact hB4.out.set 0 _
          · unfold Hid; rw [List.length_append]; exact HO4.out.setCell (HO4.out.ne hB4.out (by decide)) (by show ¬ w0.heap.size ≤ g3; omega) _
          · exact (hkp.out.trans HK4.out (fun b hb e => by have := (hown.out.block b e).1; omega)).setCell (p := ⟨g3, 0, none⟩) (.inl rfl) _
        case measure => simp [intOf]; omega
    · have hfin : Hid (L = x.sizes) := by unfold Hid; rw [hL.out, List.take_of_length_le (by omega)]
      have r1 : wr.cell? ⟨g3, 1, none⟩ = some (.int .i64 x.measures) := by rw [hB3.out.cell]; rfl
      go_wp2
      go_ret2
      have hf := hfin.out
      subst hf
      refine ⟨wr.heap.size, B, d, rfl, Blk.new wr 75 [.slice B x.sizes.length d, .int .i64 x.measures, .slice none 0 0, .int .i64 most], by omega, ?_, ?_⟩
      · exact (hown.out.slG.keep (fun p hp => World.cell?_alloc_lt _ _ _ hp.2) (fun b hb => ⟨by omega, by simp; omega, by omega⟩))
      · exact (b3.out.trans (hkp.out.to_below b3.out.size (fun b hb => by omega))).alloc (by omega) _
end Go.Proofs.Ytgnpihhakogeeaa
