/- CachePlays, walked. -/
import Derived.Test.YtedjaahidncokabF11i
import Derived.Test.YtedjaahidncokabW11
namespace Go.Proofs.Ytedjaahidncokab
open Go.RowKit

theorem keys_snoc (l : Items) (k : Nat) (hk : k < l.length) : (keys l).take (k + 1) = (keys l).take k ++ [l[k].1] := by
  have h : k < (keys l).length := by rw [keys_len]; exact hk
  rw [List.take_succ_eq_append_getElem h]
  simp [keys]

set_option maxHeartbeats 8000000 in
set_option maxRecDepth 100000 in
theorem plays_any (n : Int) (v : Value) (l : List ActC) (w : World) (F : Nat → Prop) (hv : ∃ A c, v = .slice A l.length c ∧ l.length ≤ maxLen ∧ ActsAt w F A l.length l) (hF : ∀ b, F b → b < w.heap.size) :
    Calls Try.prog 4 #[.int .i64 n, v] w fun e w' => e = .returned (.bool true) ∧ Below w.heap.size w w' := by
  obtain ⟨A, c, rfl, hlm, hact⟩ := hv
  have HA := Lib.hid hact
  have HF := Lib.hid hF
  have hfew := Lib.hid (few_any A c l w F hact hlm)
  clear hact hF
  obtain ⟨i0, hi, hy0, hy1, hy2⟩ := info_parts int_info
  cases hfb : fewB l with
  | false =>
    rw [hfb] at hfew
    clear hfb
    go_enter Try.func4, Try.ntmps4
    go_wp2_with (first | (go_at_call 11; refine hfew.out.mono ?_; rintro e w1 ⟨rfl, rfl⟩) | (go_at_call 7; refine (awake_any _).mono ?_; rintro e w5 ⟨rfl, hb5⟩; have HB5 := Lib.hid hb5; clear hb5))
    go_ret
    exact ⟨rfl, HB5.out⟩
  | true =>
    have hl60 : l.length ≤ 60 := by
      unfold fewB at hfb
      simp at hfb
      exact hfb.1
    rw [hfb] at hfew
    clear hfb
    by_cases hn : 1 ≤ n ∧ n ≤ 64
    · obtain ⟨N, rfl⟩ := Int.eq_ofNat_of_zero_le (show 0 ≤ n by omega)
      have hN1 : 1 ≤ N := by omega
      have hN2 : N ≤ 64 := by omega
      have hd1 : decide ((N : Int) < 1) = false := by simp; omega
      have hd2 : decide (64 < (N : Int)) = false := by simp; omega
      clear hn
      go_enter Try.func4, Try.ntmps4
      go_wp2_with (first | (go_at_call 11; refine hfew.out.mono ?_; rintro e w1 ⟨rfl, rfl⟩))
      refine (cnew_yes N _ hN1 hN2).mono ?_
      rintro e w1 ⟨g, bm, rfl, hg, hbm, hc1, hb1⟩
      have HC1 := Lib.hid hc1
      have HB1 := Lib.hid hb1
      have hz1 := hb1.size
      clear hc1 hb1
      have hR1 : Hid (Blk (w1.alloc (.cells #[.int .i64 N, .slice none 0 0, .int .i64 0, .int .i64 0] 38)) w1.heap.size 38 [.int .i64 N, .slice none 0 0, .int .i64 0, .int .i64 0]) := Blk.new w1 38 [.int .i64 N, .slice none 0 0, .int .i64 0, .int .i64 0]
      have k1 : Hid (Kp (fun _ => False) w1 (w1.alloc (.cells #[.int .i64 N, .slice none 0 0, .int .i64 0, .int .i64 0] 38))) := (Kp.refl _ w1).alloc _
      go_wp2_with fail
      generalize (w1.alloc (.cells #[.int .i64 N, .slice none 0 0, .int .i64 0, .int .i64 0] 38)) = ws at hR1 k1 ⊢
      obtain ⟨gr, hgr⟩ : ∃ gr, gr = w1.heap.size := ⟨_, rfl⟩
      rw [← hgr] at hR1 ⊢
      have hP0 : Hid (Pair ws gr w.heap.size g bm none N [] 0 0 (.slice none 0 0)) := ⟨HC1.out.kp k1.out (fun b hb => hb.elim), ItemsAt.nil⟩
      have hBs : Hid (Below w.heap.size w ws) := HB1.out.trans (k1.out.to_below hz1 (fun b _ h => h))
      have hgr0 : w.heap.size ≤ gr := by omega
      have hgf : Hid (¬ (gr = g ∨ gr = bm)) := by
        rintro (h | h)
        · have := HC1.out.lt g (.inl rfl); omega
        · have := HC1.out.lt bm (.inr (.inl rfl)); omega
      clear hgr HC1 HB1 k1 hz1
      go_loopw [45] (fun i wr => ∃ (k : Nat) (ob : Option Nat) (items : Items) (hits misses : Int) (IA : Option Addr) (ic : Nat), k ≤ l.length ∧ i = .int .i64 k ∧ 0 ≤ hits ∧ hits ≤ k ∧ 0 ≤ misses ∧ misses ≤ k ∧ Hid (Pair wr gr w.heap.size g bm ob N items hits misses (.slice IA items.length ic)) ∧ Hid (Blk wr gr 38 [.int .i64 N, .slice IA items.length ic, .int .i64 hits, .int .i64 misses]) ∧ Hid (Below w.heap.size w wr) ∧ Hid (ob ≠ some gr)) (fun i _ => l.length - (intOf i).toNat)
      case atStart => exact ⟨0, none, [], 0, 0, none, 0, Nat.zero_le _, rfl, by omega, by omega, by omega, by omega, hP0, hR1, hBs, by intro h; cases h⟩
      case round =>
        obtain ⟨k, ob, items, hits, misses, IA, ic, hk, rfl, hh0, hh1, hm0, hm1, hP, hR, hB, hog⟩ := hrel
        by_cases hlt : k < l.length
        · obtain ⟨ab, ao, rfl, _, ca0, ca1, ca2, ca3⟩ := (HA.out.below hB.out HF.out).get hlt
          generalize l[k] = a at ca0 ca1 ca2 ca3
          have r0 : wr.cell? ⟨gr, 0, none⟩ = some (.int .i64 N) := by rw [hR.out.cell]; rfl
          have r1 : wr.cell? ⟨gr, 1, none⟩ = some (.slice IA items.length ic) := by rw [hR.out.cell]; rfl
          have r2 : wr.cell? ⟨gr, 2, none⟩ = some (.int .i64 hits) := by rw [hR.out.cell]; rfl
          have r3 : wr.cell? ⟨gr, 3, none⟩ = some (.int .i64 misses) := by rw [hR.out.cell]; rfl
          have hgl : gr < wr.heap.size := hR.out.lt
          have hsm : Hid (Small hits misses) := ⟨hh0, by omega, hm0, by omega⟩
          go_wp2_with fail
          have hx : Hid (Kp (fun _ => False) wr (wr.alloc (.cells #[.int .i64 a.kind, .int .i64 a.i, .int .i64 a.n, .string a.s] 40))) := (Kp.refl _ wr).alloc _
          generalize (wr.alloc (.cells #[.int .i64 a.kind, .int .i64 a.i, .int .i64 a.n, .string a.s] 40)) = wx at hx ⊢
          have hzx := hx.out.size
          have hPx := hP.out.kp hx.out (fun b hb => hb.elim)
          refine (does_any gr w.heap.size g bm ob N items hits misses a.kind a.i a.n a.s _ wx hPx (by omega) hsm.out).mono ?_
          rintro e w2 ⟨iv2, ob2, items2, h2, m2, rfl, hP2, hk2, ho2, hb1, hb2, hb3, hb4⟩
          have hfr : ¬ foot g bm ob gr := by
            rintro (h | h | h)
            · exact hgf.out (.inl h)
            · exact hgf.out (.inr h)
            · exact hog.out h
          have hz2 := hk2.size
          have hR2 := Lib.hid ((hR.out.kp hx.out (fun h => h)).kp hk2 hfr)
          have hB2 : Hid (Below w.heap.size w w2) := (hB.out.trans (hx.out.to_below hB.out.size (fun b _ h => h))).trans (hk2.to_below (by have := hB.out.size; omega) (fun b hb hf => by have := foot_ge hg hbm (hPx.1.ge) b hf; omega))
          have hog2 : Hid (ob2 ≠ some gr) := by
            intro h
            rcases ho2 _ h with h' | h'
            · exact hog.out h'
            · omega
          obtain ⟨hC2, IA2, ic2, rfl, hI2⟩ := hP2
          have HC2 := Lib.hid hC2
          have HI2 := Lib.hid hI2
          have u0 : w2.cell? ⟨gr, 0, none⟩ = some (.int .i64 N) := by rw [hR2.out.cell]; rfl
          have u1 : w2.cell? ⟨gr, 1, none⟩ = some (.slice IA items.length ic) := by rw [hR2.out.cell]; rfl
          have u2 : w2.cell? ⟨gr, 2, none⟩ = some (.int .i64 hits) := by rw [hR2.out.cell]; rfl
          have u3 : w2.cell? ⟨gr, 3, none⟩ = some (.int .i64 misses) := by rw [hR2.out.cell]; rfl
          have v0 : w2.frozen? ⟨gr, 0, none⟩ = false := hR2.out.frozen 0
          have v1 : w2.frozen? ⟨gr, 1, none⟩ = false := hR2.out.frozen 1
          have v2 : w2.frozen? ⟨gr, 2, none⟩ = false := hR2.out.frozen 2
          have v3 : w2.frozen? ⟨gr, 3, none⟩ = false := hR2.out.frozen 3
          have hg2 : gr < w2.heap.size := by omega
          clear hPx hk2 ho2 hC2 hI2
          have hY : Hid (Blk ((((((w2.setCell ⟨gr, 0, none⟩ (.int .i64 N)).setCell ⟨gr, 1, none⟩ (.slice IA2 (List.length items2) ic2)).setCell ⟨gr, 2, none⟩ (.int .i64 h2)).setCell ⟨gr, 3, none⟩ (.int .i64 m2)).alloc (.cells #[.int .i64 N, .slice IA2 (List.length items2) ic2, .int .i64 h2, .int .i64 m2] 38))) gr 38 [.int .i64 N, .slice IA2 (List.length items2) ic2, .int .i64 h2, .int .i64 m2]) := (blk_set4 hR2.out (.int .i64 N) (.slice IA2 (List.length items2) ic2) (.int .i64 h2) (.int .i64 m2)).alloc _
          have kY : Hid (Kp (fun b => b = gr) w2 ((((((w2.setCell ⟨gr, 0, none⟩ (.int .i64 N)).setCell ⟨gr, 1, none⟩ (.slice IA2 (List.length items2) ic2)).setCell ⟨gr, 2, none⟩ (.int .i64 h2)).setCell ⟨gr, 3, none⟩ (.int .i64 m2)).alloc (.cells #[.int .i64 N, .slice IA2 (List.length items2) ic2, .int .i64 h2, .int .i64 m2] 38)))) := (kp_set4 w2 gr (.int .i64 N) (.slice IA2 (List.length items2) ic2) (.int .i64 h2) (.int .i64 m2)).alloc _
          go_wp2_with fail
          generalize ((((((w2.setCell ⟨gr, 0, none⟩ (.int .i64 N)).setCell ⟨gr, 1, none⟩ (.slice IA2 (List.length items2) ic2)).setCell ⟨gr, 2, none⟩ (.int .i64 h2)).setCell ⟨gr, 3, none⟩ (.int .i64 m2)).alloc (.cells #[.int .i64 N, .slice IA2 (List.length items2) ic2, .int .i64 h2, .int .i64 m2] 38))) = wy at hY kY ⊢
          have hfr2 : Hid (¬ foot g bm ob2 gr) := by
            rintro (h | h | h)
            · exact hgf.out (.inl h)
            · exact hgf.out (.inr h)
            · exact hog2.out h
          have HCy : Hid (CacheAt wy w.heap.size g bm ob2 N items2 h2 m2) := HC2.out.kp kY.out (fun b hb => by subst hb; exact hfr2.out)
          have HIy : Hid (Rd wy (fun b => b < w2.heap.size ∧ ¬ foot g bm ob2 b ∧ b ≠ gr) 2 IA2 (List.length items2) (itemCells items2)) := HI2.out.2.2.kp kY.out (fun b hb => ⟨hb.1, hb.2.2⟩)
          have hzy := kY.out.size
          have hBy : Hid (Below w.heap.size w wy) := hB2.out.trans (kY.out.to_below hB2.out.size (fun b hb h => by omega))
          have hlen2 := (HCy.out.len).1
          have HI2c := Lib.hid (And.intro HI2.out.1 HI2.out.2.1)
          clear u0 u1 u2 u3 v0 v1 v2 v3 hg2 hB2 HC2 HI2 hR2
          go_loopw [12, 60] (fun pv i wi => ∃ (j : Nat) (L : List Int), j ≤ items2.length ∧ i = .int .i64 j ∧ L.length ≤ j ∧ Hid (L = (keys items2).take j) ∧ Hid (wi.ownsRow wy.heap.size 3 1 pv L.length (ints L)) ∧ Hid (Below wy.heap.size wy wi)) (fun _ i _ => items2.length - (intOf i).toNat)
          case atStart => exact ⟨0, [], Nat.zero_le _, rfl, Nat.zero_le _, rfl, World.ownsRow_nil _ _ _ _, Below.refl _ _⟩
          case round =>
            obtain ⟨j, L, hj, rfl, hLj, hL, hown, hbi⟩ := hrel
            have hsi := hbi.out.size
            obtain ⟨A2, c2, rfl, _⟩ := own_form hown.out
            by_cases hjl : j < items2.length
            · obtain ⟨b, o, rfl, hbb, hc1, hc2⟩ := (HIy.out.below hbi.out (fun b hb => by omega)).item hjl
              have hs := keys_snoc items2 j hjl
              have HS : Hid (L ++ [items2[j].1] = (keys items2).take (j + 1)) := by unfold Hid; rw [hs, hL.out]
              clear hs
              generalize items2[j] = x at *
              go_wp2_with (at_builtin; refine wpList_append_rd _ rfl (.tmp 64) (.tmp 67) 23 rfl wy.heap.size 3 i0 _ 1 8 Try.underlying23 hi hy0 hy1 hy2 rfl (by decide) _ _ _ rfl ((hown.out.alloc _).alloc _) (fun _ => True) (some ⟨wr.heap.size + 1, 0, none⟩) 1 1 [.int .i64 x.1] rfl ?c1 ?c2 ?c3 ?c4 ?c5 ?_)
              case c1 => exact Rd.of_blk (by have := Blk.new (wr.alloc (.cells #[.int .i64 x.1, .string x.2] 44)) 3 [.int .i64 x.1]; simpa using this) trivial rfl
              case c2 => intro u hu; simp at hu; rcases hu with rfl; rfl
              case c3 => unfold maxLen; omega
              case c4 => omega
              case c5 => simp; omega
              intro v4 w4 hown4 hg4 hat4
              have HO4 : Hid (w4.ownsRow wy.heap.size 3 1 v4 (L ++ [x.1]).length (ints (L ++ [x.1]))) := by
                unfold Hid
                rw [ints_app, List.length_append]
                exact hown4
              have HB4 : Hid (Below wy.heap.size wy w4) := ((hbi.out.alloc hsi _).alloc (by simp; omega) _).grown hg4 (by simp; omega) (fun b hb2 => (hown.out.lt b hb2).1)
              clear hown4 hg4 hat4
              go_wp2
              go_roundw
              case rel => exact ⟨j + 1, L ++ [x.1], by omega, by go_num, by simp; omega, HS, HO4, HB4⟩
              case measure => simp [intOf]; omega
            · have hfin : Hid (L = keys items2) := by unfold Hid; rw [hL.out, List.take_of_length_le (by rw [keys_len]; omega)]
              have HCi : Hid (CacheAt wr w.heap.size g bm ob2 N items2 h2 m2) := HCy.out.kp (Kp.of_below (S := fun _ => False) hbi.out) (fun b hb => hb.elim)
              have hYi : Hid (Blk wr gr 38 [.int .i64 N, .slice IA2 (List.length items2) ic2, .int .i64 h2, .int .i64 m2]) := hY.out.below hbi.out hY.out.lt
              have hgy := hY.out.lt
              go_wp2_with fail
              refine (counts_any w.heap.size g bm N ob2 items2 h2 m2 wr HCi.out).mono ?_
              rintro e w5 ⟨rfl, q5, hw5⟩
              have hk5 : Hid (Kp (fun _ => False) wr w5) := by rw [hw5]; exact (Kp.refl _ wr).drewN q5
              have hz5 := hk5.out.size
              clear hw5
              have HC5 := Lib.hid (HCi.out.kp hk5.out (fun b hb => hb.elim))
              have hY5 := Lib.hid (hYi.out.kp hk5.out (fun h => h))
              go_wp2_with fail
              refine (places_any w.heap.size g bm N ob2 items2 h2 m2 w5 HC5.out).mono ?_
              rintro e w6 ⟨pv6, rfl, hown6, hb6⟩
              have hz6 := hb6.size
              have hpl : Hid (IntsAt w6 (· < w6.heap.size) (.slice A2 L.length c2) (keys items2)) := by
                have h1 := IntsAt.of_own hown.out
                rw [hfin.out] at h1 ⊢
                exact ((h1.kp hk5.out (fun b hb => ⟨hb.2, fun h => h⟩)).kp (Kp.of_below (S := fun _ => False) hb6) (fun b hb => ⟨by omega, fun h => h⟩)).more (fun b hb => by omega)
              have hp6 := Lib.hid ((IntsAt.of_own hown6).more (F' := (· < w6.heap.size)) (fun b hb => hb.2))
              obtain ⟨A6, c6, rfl, _⟩ := own_form hown6
              have HB6 := Lib.hid hb6
              have HC6 := Lib.hid (HC5.out.kp (Kp.of_below (S := fun _ => False) hb6) (fun b hb => hb.elim))
              have hY6 := Lib.hid (hY5.out.kp (Kp.of_below (S := fun _ => False) hb6) (fun h => h))
              clear hb6 hown6
              go_wp2_with fail
              refine (ints_any _ _ _ _ w6 _ hp6.out hpl.out).mono ?_
              rintro e w7 ⟨rfl, q7, hw7⟩
              have hsm1 : sameI (keys items2) (keys items2) = true := by simp [sameI]
              rw [hsm1]
              clear hsm1
              have hk7 : Hid (Kp (fun _ => False) w6 w7) := by rw [hw7]; exact (Kp.refl _ w6).drewN q7
              clear hw7
              have hz7 := hk7.out.size
              have HC7 := Lib.hid (HC6.out.kp hk7.out (fun b hb => hb.elim))
              have hY7 := Lib.hid (hY6.out.kp hk7.out (fun h => h))
              have u2 : w7.cell? ⟨gr, 2, none⟩ = some (.int .i64 h2) := by rw [hY7.out.cell]; rfl
              have u3 : w7.cell? ⟨gr, 3, none⟩ = some (.int .i64 m2) := by rw [hY7.out.cell]; rfl
              have kall : Hid (Kp (fun _ => False) wy w7) := (((Kp.of_below hbi.out).trans hk5.out (fun b _ h => h)).trans (Kp.of_below (S := fun _ => False) HB6.out) (fun b _ h => h)).trans hk7.out (fun b _ h => h)
              go_wp2_with fail
              go_roundw
              case rel => exact ⟨k + 1, ob2, items2, h2, m2, IA2, ic2, by omega, by go_num, by omega, by omega, by omega, by omega, ⟨HC7.out, ⟨IA2, ic2, rfl, HI2c.out.1, HI2c.out.2, (HIy.out.kp kall.out (fun b hb => ⟨by omega, fun h => h⟩)).more (fun b hb => ⟨by omega, hb.2⟩)⟩⟩, hY7, hBy.out.trans (kall.out.to_below hBy.out.size (fun b _ h => h)), hog2⟩
              case measure => simp [intOf]; omega
        · go_wp2_with (go_at_call 7; refine (awake_any _).mono ?_; rintro e w5 ⟨rfl, hb5⟩; have HB5 := Lib.hid hb5; clear hb5)
          go_ret
          exact ⟨rfl, hB.out.trans (HB5.out.mono hB.out.size)⟩
    · have hno : n < 1 ∨ 64 < n := by omega
      have HNO := Lib.hid hno
      by_cases h1 : n < 1
      · clear hn hno
        go_enter Try.func4, Try.ntmps4
        go_wp2_with (first | (go_at_call 11; refine hfew.out.mono ?_; rintro e w1 ⟨rfl, rfl⟩) | (go_at_call 8; refine (cnew_no n _ HNO.out).mono ?_; rintro e w1 ⟨rfl, rfl⟩) | (go_at_call 7; refine (awake_any _).mono ?_; rintro e w5 ⟨rfl, hb5⟩; have HB5 := Lib.hid hb5; clear hb5))
        go_ret
        exact ⟨rfl, HB5.out⟩
      · have h2 : 64 < n := by omega
        have hd1 : decide (n < 1) = false := by simp; omega
        clear hn hno h1
        go_enter Try.func4, Try.ntmps4
        go_wp2_with (first | (go_at_call 11; refine hfew.out.mono ?_; rintro e w1 ⟨rfl, rfl⟩) | (go_at_call 8; refine (cnew_no n _ HNO.out).mono ?_; rintro e w1 ⟨rfl, rfl⟩) | (go_at_call 7; refine (awake_any _).mono ?_; rintro e w5 ⟨rfl, hb5⟩; have HB5 := Lib.hid hb5; clear hb5))
        go_ret
        exact ⟨rfl, HB5.out⟩
end Go.Proofs.Ytedjaahidncokab
