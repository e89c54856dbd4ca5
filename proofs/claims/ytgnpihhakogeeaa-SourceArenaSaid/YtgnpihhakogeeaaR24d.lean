/- Layer 24, the program: node.Check. -/
import Derived.Test.YtgnpihhakogeeaaR24c
namespace Go.Proofs.Ytgnpihhakogeeaa
open Go.RowKit

set_option maxHeartbeats 4000000 in
set_option maxRecDepth 100000 in
theorem check_any (A : Option Addr) (c : Nat) (x : Shp) (n : Nod) (B : Option Addr) (d : Nat) (w : World) (F : Nat → Prop) (hx : ElemsAt w F A x.sizes) (hn : ElemsAt w F B n.lists) (hF : ∀ b, F b → b < w.heap.size) (hl1 : x.sizes.length ≤ maxLen) (hl2 : n.lists.length ≤ maxLen) :
    Calls Try.prog 75 #[.agg #[.slice A x.sizes.length c, .int .i64 x.measures], .agg (nodArr n.dim (.slice B n.lists.length d) n.all)] w (RetV w (.int .i64 (checkErr x n))) := by
  obtain ⟨dim, lists, all⟩ := n
  simp only at hn hl2 ⊢
  have HX := Lib.hid hx
  have HL := Lib.hid hn
  have HF := Lib.hid hF
  have HN := Lib.hid hl1
  clear hx hn hF
  unfold maxLen at hl1 hl2
  have b0 : Hid (Below w.heap.size w ((w.alloc (.cells #[.slice A x.sizes.length c, .int .i64 x.measures] 24)).alloc (.cells (nodArr dim (.slice B lists.length d) all) 45))) := below2 _ _ _
  have s0 : Hid (Blk ((w.alloc (.cells #[.slice A x.sizes.length c, .int .i64 x.measures] 24)).alloc (.cells (nodArr dim (.slice B lists.length d) all) 45)) w.heap.size 24 [.slice A x.sizes.length c, .int .i64 x.measures]) := (Blk.new _ _ _).alloc _
  have s1 : Hid (Blk ((w.alloc (.cells #[.slice A x.sizes.length c, .int .i64 x.measures] 24)).alloc (.cells (nodArr dim (.slice B lists.length d) all) 45)) (w.heap.size + 1) 45 (nodArr dim (.slice B lists.length d) all).toList) := by
    have := Blk.newA (w.alloc (.cells #[.slice A x.sizes.length c, .int .i64 x.measures] 24)) 45 (nodArr dim (.slice B lists.length d) all)
    rw [World.size_alloc] at this
    exact this
  unfold nodArr at *
  have hdim : (dim < 0 ∨ (x.sizes.length : Int) ≤ dim) ∨ ∃ D : Nat, dim = D ∧ D < x.sizes.length := by
    by_cases h : dim < 0 ∨ (x.sizes.length : Int) ≤ dim
    · exact .inl h
    · right
      obtain ⟨D, hD⟩ := Int.eq_ofNat_of_zero_le (show 0 ≤ dim by omega)
      exact ⟨D, hD, by omega⟩
  go_enter Try.func75, Try.ntmps75
  go_wp2_with fail
  generalize (w.alloc (.cells #[.slice A x.sizes.length c, .int .i64 x.measures] 24)).alloc _ = w0 at b0 s0 s1 ⊢
  have HX0 := Lib.hid (HX.out.below b0.out HF.out)
  have HL0 := Lib.hid (HL.out.below b0.out HF.out)
  have c0 : w0.cell? ⟨w.heap.size, 0, none⟩ = some (.slice A x.sizes.length c) := by rw [s0.out.cell]; rfl
  have c1 : w0.cell? ⟨w.heap.size, 1, none⟩ = some (.int .i64 x.measures) := by rw [s0.out.cell]; rfl
  have n0 : w0.cell? ⟨w.heap.size + 1, 0, none⟩ = some (.int .i64 dim) := by rw [s1.out.cell]; rfl
  have n1 : w0.cell? ⟨w.heap.size + 1, 1, none⟩ = some (.slice B lists.length d) := by rw [s1.out.cell]; rfl
  have a0 : w0.cell? ⟨w.heap.size + 1, 2, none⟩ = some (.int .i64 all.key) := by rw [s1.out.cell]; rfl
  have a1 : w0.cell? ⟨w.heap.size + 1, 3, none⟩ = some (.int .i64 all.child) := by rw [s1.out.cell]; rfl
  have a2 : w0.cell? ⟨w.heap.size + 1, 4, none⟩ = some (.int .i64 all.agg.n) := by rw [s1.out.cell]; rfl
  have a3 : w0.cell? ⟨w.heap.size + 1, 5, none⟩ = some (.int .i64 all.agg.s0) := by rw [s1.out.cell]; rfl
  have a4 : w0.cell? ⟨w.heap.size + 1, 6, none⟩ = some (.int .i64 all.agg.l0) := by rw [s1.out.cell]; rfl
  have a5 : w0.cell? ⟨w.heap.size + 1, 7, none⟩ = some (.int .i64 all.agg.h0) := by rw [s1.out.cell]; rfl
  have a6 : w0.cell? ⟨w.heap.size + 1, 8, none⟩ = some (.int .i64 all.agg.s1) := by rw [s1.out.cell]; rfl
  have a7 : w0.cell? ⟨w.heap.size + 1, 9, none⟩ = some (.int .i64 all.agg.l1) := by rw [s1.out.cell]; rfl
  have a8 : w0.cell? ⟨w.heap.size + 1, 10, none⟩ = some (.int .i64 all.agg.h1) := by rw [s1.out.cell]; rfl
  have a9 : w0.cell? ⟨w.heap.size + 1, 11, none⟩ = some (.int .i64 all.agg.s2) := by rw [s1.out.cell]; rfl
  have a10 : w0.cell? ⟨w.heap.size + 1, 12, none⟩ = some (.int .i64 all.agg.l2) := by rw [s1.out.cell]; rfl
  have a11 : w0.cell? ⟨w.heap.size + 1, 13, none⟩ = some (.int .i64 all.agg.h2) := by rw [s1.out.cell]; rfl
  have z0 : w.heap.size < w0.heap.size := s0.out.lt
  have z1 : w.heap.size + 1 < w0.heap.size := s1.out.lt
  clear HX HL s0 s1
  rcases hdim with hbad | ⟨D, rfl, hD⟩
  · have hfin : Hid (checkErr x ⟨dim, lists, all⟩ = 2) := by unfold Hid checkErr; rw [if_pos hbad]
    by_cases h1 : dim < 0
    · clear hbad
      go_quiet (fail)
      go_wp2
      go_ret
      exact ⟨by rw [hfin.out]; rfl, below_drewN b0.out _⟩
    · have h2 : (x.sizes.length : Int) ≤ dim := by omega
      have h3 : decide (dim < 0) = false := by simpa using h1
      clear hbad h1
      go_quiet (fail)
      go_wp2
      go_ret
      exact ⟨by rw [hfin.out]; rfl, below_drewN b0.out _⟩
  · have hfin : Hid (checkErr x ⟨D, lists, all⟩ = if lists.length ≠ x.sizes[D].length ∨ lists.length = 0 then 2 else
        if listsErr x D none x.sizes[D] lists ≠ 0 then listsErr x D none x.sizes[D] lists else
        if all.key ≠ 0 ∨ cellOk x D all = false then 2 else 0) := by
      unfold Hid checkErr
      rw [if_neg (by simp only; omega)]
      simp [hD]
    obtain ⟨sb, so, S, sc, rfl, _, hsb, cs, hsc, hsm, hS⟩ := HX0.out.sub hD
    have HS := Lib.hid hS
    have HSL : x.sizes[D].length ≤ 9223372036854775807 := by unfold maxLen at hsm; omega
    clear hS hsc hsm
    generalize x.sizes[D] = s at *
    have d1 : decide ((D : Int) < 0) = false := by simp
    have d2 : decide ((x.sizes.length : Int) ≤ (D : Int)) = false := by simp; omega
    have d3 : decide (x.sizes.length ≤ D) = false := by simp; omega
    by_cases h4 : lists.length = s.length
    · by_cases h5 : lists.length = 0
      · have hf2 : Hid (checkErr x ⟨D, lists, all⟩ = 2) := hfin.out.trans (if_pos (.inr h5))
        have e4 : ((lists.length : Int) != (s.length : Int)) = false := by simp [h4]
        have e5 : ((lists.length : Int) == 0) = true := by simp [h5]
        clear hfin h4 h5
        go_quiet (fail)
        go_wp2
        go_ret
        exact ⟨by rw [hf2.out]; rfl, below_drewN b0.out _⟩
      · have hf2 : Hid (checkErr x ⟨D, lists, all⟩ = _) := hfin.out.trans (if_neg (by omega))
        have e4 : ((lists.length : Int) != (s.length : Int)) = false := by simp [h4]
        have e5 : ((lists.length : Int) == 0) = false := by simp; intro h; exact h5 (by simp [h])
        have H4 : lists.length ≤ s.length := by omega
        clear hfin h4 h5
        go_quiet (fail)
        have b1 : Hid (Below w0.heap.size w0 (w0.drewN nq)) := below_drewN (Below.refl _ _) _
        generalize w0.drewN nq = w1 at b1 ⊢
        have z2 := b1.out.size
        obtain ⟨hc1, _⟩ := bcell b1.out
        go_wp2
        go_loopw [41] (fun i wr => ∃ k : Nat, k ≤ lists.length ∧ i = .int .i64 k ∧ Hid (listsErr x D none s lists = listsErr x D (lenAhead lists k) (s.drop k) (lists.drop k)) ∧ Hid (Below w0.heap.size w0 wr)) (fun i _ => lists.length - (intOf i).toNat)
        case atStart => exact ⟨0, Nat.zero_le _, rfl, rfl, b1⟩
        case round =>
          obtain ⟨k, hk, rfl, ht, hb⟩ := hrel
          clear hc1 b1 z2
          obtain ⟨hcr, _⟩ := bcell hb.out
          have hzr := hb.out.size
          have zr0 : w.heap.size < wr.heap.size := by omega
          have zr1 : w.heap.size + 1 < wr.heap.size := by omega
          by_cases hlt : k < lists.length
          · obtain ⟨lb, lo, L, lc, rfl, _, hlb, cl, hlc, hlm, hL⟩ := HL0.out.sub hlt
            have hks : k < s.length := by omega
            have hlb2 : lb < wr.heap.size := by omega
            obtain ⟨ib, io, rfl, _, hib, ci, _⟩ := HS.out.int hks
            have hst := listsErr_step x D s lists k hlt hks
            have HT : Hid (listsErr x D none s lists = _) := ht.out.trans hst
            have hpr : k = 0 ∨ ∃ q Q qc, 0 < k ∧ w0.cell? ⟨lb, lo + (k - 1), none⟩ = some (.slice Q q qc) ∧ lenAhead lists k = some q := by
              rcases Nat.eq_zero_or_pos k with h | h
              · exact .inl h
              · right
                have hk1 : k - 1 < lists.length := by omega
                obtain ⟨b', o', Q, qc, e, _, _, cq, _⟩ := HL0.out.sub hk1
                injection e with e; injection e with e1 e2; subst e1 e2
                exact ⟨_, Q, qc, h, cq, by unfold lenAhead; rw [if_neg (by omega), List.getElem?_eq_getElem hk1]; rfl⟩
            clear hst ht
            have hli := fun W (hB : Below w0.heap.size w0 W) => Lib.hid (list_any (some ⟨sb, so, none⟩) c x D s[k] L lists[k] lc W F HN.out (by omega) (hL.below hB (fun b hb => by have := HF.out b hb; omega)) (fun b hb => by have := HF.out b hb; have := hB.size; omega))
            have HLI := Lib.hid hli
            clear hli hL
            generalize s[k] = sk at *
            generalize lists[k] = lk at *
            cases h6 : (listErr0 x D sk lk != 0) with
            | true =>
              have HT2 : Hid (checkErr x ⟨D, lists, all⟩ = listErr0 x D sk lk) := by
                unfold Hid
                have h7 : listErr0 x D sk lk ≠ 0 := by simpa using h6
                have h8 := HT.out
                rw [if_pos h7] at h8
                rw [hf2.out, h8, if_pos h7]
              clear HT
              go_wp2
              go_still_tail 13, (by kernel_rfl)
              change wpList _ _ _ _ _ wr.drew
              have hbd : Hid (Below w0.heap.size w0 wr.drew) := hb.out.drew
              generalize wr.drew = w2 at hbd ⊢
              obtain ⟨hcd, _⟩ := bcell hbd.out
              have hzd := hbd.out.size
              have zd1 : w.heap.size + 1 < w2.heap.size := by omega
              have zd2 : lb < w2.heap.size := by omega
              go_wp2_with (go_at_call 99; refine ((HLI.out _ hbd.out).out).mono ?_; rintro e w1 h1; obtain ⟨rfl, hb1, hz1, hc1, hf1⟩ := h1.imp; clear h1)
              go_ret
              exact ⟨by rw [HT2.out]; rfl, bon b0.out (bon hbd.out hb1)⟩
            | false =>
              have h7 : listErr0 x D sk lk = 0 := by simpa using h6
              have HT2 : Hid (listsErr x D none s lists = _) := HT.out.trans (if_neg (by simpa using h7))
              rw [h7] at HLI
              clear HT h7 h6
              rcases hpr with hk0 | ⟨q, Q, qc, hk0, cq, hla⟩
              · have HT3 : Hid (listsErr x D none s lists = _) := HT2.out.trans (if_neg (by simp [lenAhead, overN, hk0]))
                have g1 : decide (0 < k) = false := by simp [hk0]
                have g2 : decide (0 < (k : Int)) = false := by simp [hk0]
                clear HT2 hk0
                go_wp2
                go_still_tail 13, (by kernel_rfl)
                change wpList _ _ _ _ _ wr.drew
                have hbd : Hid (Below w0.heap.size w0 wr.drew) := hb.out.drew
                generalize wr.drew = w2 at hbd ⊢
                obtain ⟨hcd, _⟩ := bcell hbd.out
                have hzd := hbd.out.size
                have zd1 : w.heap.size + 1 < w2.heap.size := by omega
                have zd2 : lb < w2.heap.size := by omega
                go_wp2_with (go_at_call 99; refine ((HLI.out _ hbd.out).out).mono ?_; rintro e w1 h1; obtain ⟨rfl, hb1, hz1, hc1, hf1⟩ := h1.imp; clear h1)
                go_roundw
                case rel => exact ⟨k + 1, by omega, by go_num, HT3, bon hbd.out hb1⟩
                case measure => simp [intOf]; omega
              · cases h8 : decide (q < lk.length) with
                | true =>
                  have HT3 : Hid (checkErr x ⟨D, lists, all⟩ = 14) := by
                    unfold Hid
                    have h9 := HT2.out
                    rw [if_pos (by rw [hla]; exact h8)] at h9
                    rw [hf2.out, h9]; rfl
                  clear HT2 hla
                  go_wp2
                  go_still_tail 13, (by kernel_rfl)
                  change wpList _ _ _ _ _ wr.drew
                  have hbd : Hid (Below w0.heap.size w0 wr.drew) := hb.out.drew
                  generalize wr.drew = w2 at hbd ⊢
                  obtain ⟨hcd, _⟩ := bcell hbd.out
                  have hzd := hbd.out.size
                  have zd1 : w.heap.size + 1 < w2.heap.size := by omega
                  have zd2 : lb < w2.heap.size := by omega
                  go_wp2_with (go_at_call 99; refine ((HLI.out _ hbd.out).out).mono ?_; rintro e w1 h1; obtain ⟨rfl, hb1, hz1, hc1, hf1⟩ := h1.imp; clear h1)
                  go_ret
                  exact ⟨by rw [HT3.out]; rfl, bon b0.out (bon hbd.out hb1)⟩
                | false =>
                  have HT3 : Hid (listsErr x D none s lists = _) := HT2.out.trans (if_neg (by rw [hla]; simpa [overN] using h8))
                  clear HT2 hla
                  go_wp2
                  go_still_tail 13, (by kernel_rfl)
                  change wpList _ _ _ _ _ wr.drew
                  have hbd : Hid (Below w0.heap.size w0 wr.drew) := hb.out.drew
                  generalize wr.drew = w2 at hbd ⊢
                  obtain ⟨hcd, _⟩ := bcell hbd.out
                  have hzd := hbd.out.size
                  have zd1 : w.heap.size + 1 < w2.heap.size := by omega
                  have zd2 : lb < w2.heap.size := by omega
                  go_wp2_with (go_at_call 99; refine ((HLI.out _ hbd.out).out).mono ?_; rintro e w1 h1; obtain ⟨rfl, hb1, hz1, hc1, hf1⟩ := h1.imp; clear h1)
                  go_roundw
                  case rel => exact ⟨k + 1, by omega, by go_num, HT3, bon hbd.out hb1⟩
                  case measure => simp [intOf]; omega
          · have hend : Hid (listsErr x D none s lists = 0) := by unfold Hid; rw [ht.out, List.drop_eq_nil_of_le (show lists.length ≤ k by omega), listsErr_end]
            have HT : Hid (checkErr x ⟨D, lists, all⟩ = _) := hf2.out.trans (if_neg (by simpa using hend.out))
            clear hf2 ht hend
            have hce := fun W => Lib.hid (cell_any (some ⟨sb, so, none⟩) c x D all W HN.out)
            have HCE := Lib.hid hce
            clear hce
            cases h6 : (all.key != 0) with
            | true =>
              have HT2 : Hid (checkErr x ⟨D, lists, all⟩ = 2) := HT.out.trans (if_pos (.inl (by simpa using h6)))
              clear HT
              go_wp2
              go_ret
              exact ⟨by rw [HT2.out]; rfl, bon b0.out hb.out⟩
            | false =>
              cases h7 : cellOk x D all with
              | false =>
                have HT2 : Hid (checkErr x ⟨D, lists, all⟩ = 2) := HT.out.trans (if_pos (.inr h7))
                rw [h7] at HCE
                clear HT h7
                go_wp2_with (go_at_call 100; refine ((HCE.out _).out).mono ?_; rintro e w1 h1; obtain ⟨rfl, hb1, hz1, hc1, hf1⟩ := h1.imp; clear h1)
                go_ret
                exact ⟨by rw [HT2.out]; rfl, bon b0.out (bon hb.out hb1)⟩
              | true =>
                have HT2 : Hid (checkErr x ⟨D, lists, all⟩ = 0) := HT.out.trans (if_neg (by rw [h7]; simpa using h6))
                rw [h7] at HCE
                clear HT h7
                go_wp2_with (go_at_call 100; refine ((HCE.out _).out).mono ?_; rintro e w1 h1; obtain ⟨rfl, hb1, hz1, hc1, hf1⟩ := h1.imp; clear h1)
                go_ret
                exact ⟨by rw [HT2.out]; rfl, bon b0.out (bon hb.out hb1)⟩
    · have hf2 : Hid (checkErr x ⟨D, lists, all⟩ = 2) := hfin.out.trans (if_pos (.inl h4))
      have e4 : ((lists.length : Int) != (s.length : Int)) = true := by simp; omega
      clear hfin h4
      go_quiet (fail)
      go_wp2
      go_ret
      exact ⟨by rw [hf2.out]; rfl, below_drewN b0.out _⟩
end Go.Proofs.Ytgnpihhakogeeaa
