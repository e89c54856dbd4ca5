/- CacheTrue, CacheNobody, walked. -/
import Derived.Test.YtedjaahidncokabL11
namespace Go.Proofs.Ytedjaahidncokab
open Go.RowKit

theorem call_true1 (x a : Value) (W : World) : (callFunc 9 #[x, a]).run Try.prog W = .ok (.enter 9 #[x, a]) W := by kernel_rfl

/-- what is in the cache are texts -/
def Fair (texts : List ByteArray) (items : Items) : Prop := ∀ i t, look items i = some t → errAt texts i = 0 ∧ t = textAt texts i
theorem fair_get {texts : List ByteArray} {items : Items} (h : Fair texts items) (i : Int) (t : ByteArray) (hl : look items i = some t) : Fair texts ((i, t) :: without items i) := by
  intro j u hu
  simp only [look, look_without] at hu
  by_cases hj : i = j
  · subst hj
    simp at hu
    subst hu
    exact h i t hl
  · simp only [hj, if_false] at hu
    exact h j u hu
theorem look_take_some {l : Items} {n : Nat} {j : Int} {u : ByteArray} (h : look (l.take n) j = some u) : look l j = some u := by
  induction l generalizing n with
  | nil => simp [look] at h
  | cons x r ih =>
    cases n with
    | zero => simp [look] at h
    | succ n =>
      simp only [List.take_succ_cons, look] at h ⊢
      by_cases hx : x.1 = j
      · simpa [hx] using h
      · simp only [hx, if_false] at h ⊢
        exact ih h
theorem fair_put {texts : List ByteArray} {items : Items} (h : Fair texts items) (size : Nat) (i : Int) (he : errAt texts i = 0) : Fair texts (putIn size items i (textAt texts i)) := by
  intro j u hu
  have hu := look_take_some hu
  simp only [look, look_without] at hu
  by_cases hj : i = j
  · subst hj
    simp at hu
    subst hu
    exact ⟨he, rfl⟩
  · simp only [hj, if_false] at hu
    exact h j u hu

theorem text_err {texts : List ByteArray} {i : Int} (h : errAt texts i ≠ 0) : textAt texts i = ByteArray.empty := by
  unfold errAt at h
  unfold textAt
  split at h
  · exact absurd rfl h
  · rename_i hn
    split
    · rw [List.getElem?_eq_none (by omega)]; rfl
    · rfl
theorem foot_ge {base g bm : Nat} {ob : Option Nat} (hg : base ≤ g) (hb : base ≤ bm) (ho : ∀ b, ob = some b → base ≤ b) : ∀ b, foot g bm ob b → base ≤ b := by
  rintro b (rfl | rfl | h)
  · exact hg
  · exact hb
  · exact ho b h

set_option maxHeartbeats 4000000 in
theorem true_any (n : Int) (vt va : Value) (texts : List ByteArray) (asks : List Int) (w : World) (F : Nat → Prop) (ht : ∃ A c, vt = .slice A texts.length c ∧ texts.length ≤ maxLen ∧ Rd w F 1 A texts.length (strs texts)) (hts : ∀ s ∈ texts, s.size ≤ maxLen)
    (ha : IntsAt w F va asks) (hF : ∀ b, F b → b < w.heap.size) :
    Calls Try.prog 3 #[.int .i64 n, vt, va] w fun e w' => e = .returned (.bool true) ∧ Below w.heap.size w w' := by
  obtain ⟨TA, tc, rfl, htm, htr⟩ := ht
  obtain ⟨AA, ac, rfl, hac, ham, har⟩ := ha
  have HT := Lib.hid htr
  have HA := Lib.hid har
  have HF := Lib.hid hF
  have hbox : Hid (Blk (w.alloc (.cells #[.slice TA texts.length tc] 22)) w.heap.size 22 [.slice TA texts.length tc]) := Blk.new w 22 [.slice TA texts.length tc]
  have HT1 : Hid (Rd (w.alloc (.cells #[.slice TA texts.length tc] 22)) F 1 TA texts.length (strs texts)) := htr.alloc hF _
  have hbytes := Lib.hid (bytes_any TA tc texts (w.alloc (.cells #[.slice TA texts.length tc] 22)) F HT1.out htm hts)
  clear htr har hF hts
  unfold maxLen at htm ham
  generalize bytesOf 0 texts = nb at hbytes
  by_cases h1 : 100 < texts.length
  · go_enter Try.func3, Try.ntmps3
    go_wp2_with (first | (go_at_call 6; refine hbytes.out.mono ?_; rintro e w1 ⟨rfl, rfl⟩) | (go_at_call 7; refine (awake_any _).mono ?_; rintro e w5 ⟨rfl, hb5⟩; have HB5 := Lib.hid hb5; clear hb5))
    go_ret
    exact ⟨rfl, ((Below.refl _ _).alloc (Nat.le_refl _) _).trans (HB5.out.mono (by simp))⟩
  · have hd1 : decide (100 < (texts.length : Int)) = false := by simp; omega
    by_cases h2 : 3000 < nb
    · go_enter Try.func3, Try.ntmps3
      go_wp2_with (first | (go_at_call 6; refine hbytes.out.mono ?_; rintro e w1 ⟨rfl, rfl⟩) | (go_at_call 7; refine (awake_any _).mono ?_; rintro e w5 ⟨rfl, hb5⟩; have HB5 := Lib.hid hb5; clear hb5))
      go_ret
      exact ⟨rfl, ((Below.refl _ _).alloc (Nat.le_refl _) _).trans (HB5.out.mono (by simp))⟩
    · have hd2 : decide (3000 < (nb : Int)) = false := by simp; omega
      by_cases h3 : 100 < asks.length
      · go_enter Try.func3, Try.ntmps3
        go_wp2_with (first | (go_at_call 6; refine hbytes.out.mono ?_; rintro e w1 ⟨rfl, rfl⟩) | (go_at_call 7; refine (awake_any _).mono ?_; rintro e w5 ⟨rfl, hb5⟩; have HB5 := Lib.hid hb5; clear hb5))
        go_ret
        exact ⟨rfl, ((Below.refl _ _).alloc (Nat.le_refl _) _).trans (HB5.out.mono (by simp))⟩
      · have hd3 : decide (100 < (asks.length : Int)) = false := by simp; omega
        by_cases hn : 1 ≤ n ∧ n ≤ 64
        · obtain ⟨N, rfl⟩ := Int.eq_ofNat_of_zero_le (show 0 ≤ n by omega)
          have hN1 : 1 ≤ N := by omega
          have hN2 : N ≤ 64 := by omega
          clear hn
          go_enter Try.func3, Try.ntmps3
          go_wp2_with (first | (go_at_call 6; refine hbytes.out.mono ?_; rintro e w1 ⟨rfl, rfl⟩))
          refine (cnew_yes N _ hN1 hN2).mono ?_
          rintro e w1 ⟨g, bm, rfl, hg, hbm, hc1, hb1⟩
          have HC1 := Lib.hid hc1
          have HB1 := Lib.hid hb1
          have hz1 : w.heap.size + 1 ≤ w1.heap.size := by have := hb1.size; simpa using this
          have hg' : w.heap.size + 1 ≤ g := by simpa using hg
          have hbm' : w.heap.size + 1 ≤ bm := by simpa using hbm
          have hbox1 := Lib.hid (hbox.out.below hb1 (by simp))
          clear hc1 hb1 hg hbm
          go_wp2_with fail
          go_loopw [37] (fun i wr => ∃ (k : Nat) (ob : Option Nat) (items : Items) (hits misses : Int), k ≤ asks.length ∧ i = .int .i64 k ∧ 0 ≤ hits ∧ hits ≤ k ∧ 0 ≤ misses ∧ misses ≤ k ∧ Hid (CacheAt wr (w.alloc (.cells #[.slice TA texts.length tc] 22)).heap.size g bm ob N items hits misses) ∧ Hid (Fair texts items) ∧ Hid (Below (w.heap.size + 1) w1 wr)) (fun i _ => asks.length - (intOf i).toNat)
          case atStart => exact ⟨0, none, [], 0, 0, Nat.zero_le _, rfl, by omega, by omega, by omega, by omega, HC1, fun i t h => by simp [look] at h, Below.refl _ _⟩
          case round =>
            obtain ⟨k, ob, items, hits, misses, hk, rfl, hh0, hh1, hm0, hm1, hc, hfair, hb⟩ := hrel
            have hz := hb.out.size
            have hbo := Lib.hid (hbox1.out.below hb.out (by omega))
            have hcb : wr.cell? ⟨w.heap.size, 0, none⟩ = some (.slice TA texts.length tc) := by rw [hbo.out.cell]; rfl
            have hbw : Hid (Below w.heap.size w wr) := (((Below.refl _ w).alloc (Nat.le_refl _) _).trans (HB1.out.mono (by simp))).trans (hb.out.mono (by omega))
            by_cases hlt : k < asks.length
            · obtain ⟨ad, rfl, _, hca⟩ := (HA.out.below hbw.out HF.out).int hlt
              generalize asks[k] = m at hca
              have hgeo := hc.out.ge
              have hfoot := foot_ge hg' hbm' (by simpa using hgeo)
              have HFT := Lib.hid hfoot
              have HTX := Lib.hid (HT.out.below hbw.out HF.out)
              have hrd := Lib.hid (true1_any w.heap.size TA tc texts m wr F hcb HTX.out (by omega))
              have hrd2 : Hid (∀ W ob1, CacheAt W (w.alloc (.cells #[.slice TA texts.length tc] 22)).heap.size g bm ob1 N items hits (misses + 1) → Kp (foot g bm ob) wr W → ReadsAt 9 #[.int .i64 m, .pointer (some ⟨w.heap.size, 0, none⟩)] (textAt texts m) (errAt texts m) (fun W W' => W = W') W) := by
                intro W ob1 _ hkW
                have hbW : Below (w.heap.size + 1) wr W := hkW.to_below (by omega) (fun b hb hf => by have := HFT.out b hf; omega)
                refine true1_any w.heap.size TA tc texts m W F ?_ (HTX.out.below (hbW.mono (by omega)) HF.out) (by omega)
                rw [hbW.cell (p := ⟨w.heap.size, 0, none⟩) (by simp)]; exact hcb
              have hth := Lib.hid (through1 _ g bm N ob items hits misses m 9 (.pointer (some ⟨w.heap.size, 0, none⟩)) (textAt texts m) (errAt texts m) (fun W W' => W = W') wr hc.out hrd2.out (fun W W' ob1 _ e h _ => by subst e; exact h) (fun x W => call_true1 x _ W) ⟨hh0, by omega⟩ ⟨hm0, by omega⟩)
              clear hrd2 hgeo hfoot
              go_wp2_with fail
              refine hrd.out.mono ?_
              rintro e w2 ⟨rfl, rfl⟩
              go_wp2_with fail
              refine hth.out.mono ?_
              rintro e w3 (⟨t, hl, ob3, rfl, hc3, hk3, ho3⟩ | ⟨hl, W1, W2, ⟨ob1, _, hc1, hk1, ho1⟩, rfl, ⟨hne, rfl, rfl⟩ | ⟨he, ob2, ho2, ob3, rfl, hc3, hk3, ho3⟩⟩)
              · obtain ⟨he, rfl⟩ := hfair.out m t hl
                have HF3 := Lib.hid (fair_get hfair.out m _ hl)
                have HC3 := Lib.hid hc3
                have HB3 : Hid (Below (w.heap.size + 1) w1 w3) := hb.out.trans (hk3.to_below (by omega) (fun b hb hf => by have := HFT.out b hf; omega))
                rw [he]
                clear hl hc3 hk3 ho3 he
                go_wp2_with fail
                go_roundw
                case rel => exact ⟨k + 1, ob3, _, hits + 1, misses, by omega, by go_num, by omega, by omega, by omega, by omega, HC3, HF3, HB3⟩
                case measure => simp [intOf]; omega
              · have HC3 := Lib.hid hc1
                have HB3 : Hid (Below (w.heap.size + 1) w1 W1) := hb.out.trans (hk1.to_below (by omega) (fun b hb hf => by have := HFT.out b hf; omega))
                have hte := text_err hne
                rw [hte]
                clear hl hc1 hk1 ho1 hte hne
                go_wp2_with fail
                go_roundw
                case rel => exact ⟨k + 1, ob1, _, hits, misses + 1, by omega, by go_num, by omega, by omega, by omega, by omega, HC3, hfair, HB3⟩
                case measure => simp [intOf]; omega
              · have HF3 := Lib.hid (fair_put hfair.out N m he)
                have HC3 := Lib.hid hc3
                have hge2 : ∀ b, ob2 = some b → w.heap.size + 1 ≤ b := by
                  intro b hb2
                  rcases ho2 with h | ⟨b', h, hb'⟩
                  · subst h; exact HFT.out b (.inr (.inr hb2))
                  · rw [h] at hb2; injection hb2 with hb2; omega
                have HB3 : Hid (Below (w.heap.size + 1) w1 w3) := (hb.out.trans (hk1.to_below (by omega) (fun b hb hf => by have := HFT.out b hf; omega))).trans (hk3.to_below (by have := hk1.size; omega) (fun b hb hf => by have := foot_ge hg' hbm' hge2 b hf; omega))
                rw [he]
                clear hl hc1 hk1 ho1 he hc3 hk3 ho3 ho2 hge2
                go_wp2_with fail
                go_roundw
                case rel => exact ⟨k + 1, ob3, _, hits, misses + 1, by omega, by go_num, by omega, by omega, by omega, by omega, HC3, HF3, HB3⟩
                case measure => simp [intOf]; omega
            · go_wp2_with (go_at_call 7; refine (awake_any _).mono ?_; rintro e w5 ⟨rfl, hb5⟩; have HB5 := Lib.hid hb5; clear hb5)
              go_ret
              exact ⟨rfl, hbw.out.trans (HB5.out.mono hbw.out.size)⟩
        · have hno : n < 1 ∨ 64 < n := by omega
          have HNO := Lib.hid hno
          clear hn hno
          go_enter Try.func3, Try.ntmps3
          go_wp2_with (first | (go_at_call 6; refine hbytes.out.mono ?_; rintro e w1 ⟨rfl, rfl⟩) | (go_at_call 8; refine (cnew_no n _ HNO.out).mono ?_; rintro e w1 ⟨rfl, rfl⟩))
          have hcb : (w.alloc (.cells #[.slice TA texts.length tc] 22)).cell? ⟨w.heap.size, 0, none⟩ = some (.slice TA texts.length tc) := by rw [hbox.out.cell]; rfl
          have HA1 : Hid (Rd (w.alloc (.cells #[.slice TA texts.length tc] 22)) F 1 AA asks.length (ints asks)) := HA.out.alloc HF.out _
          have hbw : Hid (Below w.heap.size w (w.alloc (.cells #[.slice TA texts.length tc] 22))) := (Below.refl _ w).alloc (Nat.le_refl _) _
          generalize (w.alloc (.cells #[.slice TA texts.length tc] 22)) = wb at *
          go_loopw [37] (fun i wr => ∃ (k : Nat), k ≤ asks.length ∧ i = .int .i64 k ∧ Hid (wb = wr)) (fun i _ => asks.length - (intOf i).toNat)
          case atStart => exact ⟨0, Nat.zero_le _, rfl, rfl⟩
          case round =>
            obtain ⟨k, hk, rfl, hw⟩ := hrel
            obtain rfl := hw.out
            by_cases hlt : k < asks.length
            · obtain ⟨ad, rfl, _, hca⟩ := HA1.out.int hlt
              generalize asks[k] = m at hca
              have hrd := Lib.hid (true1_any w.heap.size TA tc texts m wb F hcb HT1.out (by omega))
              have hth := Lib.hid (nthrough1 none m 9 (.pointer (some ⟨w.heap.size, 0, none⟩)) (textAt texts m) (errAt texts m) (fun W W' => W = W') wb (.inl rfl) hrd.out (fun _ _ => .inl rfl) (fun x W => call_true1 x _ W))
              have hee : Hid (errText (textAt texts m) (errAt texts m) = textAt texts m) := by
                unfold Hid errText
                split
                · rfl
                · rename_i h; exact (text_err h).symm
              rw [hee.out] at hth
              clear hee
              go_wp2_with fail
              refine hrd.out.mono ?_
              rintro e w2 ⟨rfl, rfl⟩
              go_wp2_with fail
              refine hth.out.mono ?_
              rintro e w3 ⟨rfl, rfl⟩
              go_wp2_with fail
              go_roundw
              case rel => exact ⟨k + 1, by omega, by go_num, by unfold Hid; trivial⟩
              case measure => simp [intOf]; omega
            · go_wp2_with (go_at_call 7; refine (awake_any _).mono ?_; rintro e w5 ⟨rfl, hb5⟩; have HB5 := Lib.hid hb5; clear hb5)
              go_ret
              exact ⟨rfl, hbw.out.trans (HB5.out.mono hbw.out.size)⟩

theorem call_nobody1 (x : Value) (W : World) : (callFunc 19 #[x]).run Try.prog W = .ok (.enter 19 #[x]) W := by kernel_rfl
theorem nobody1_any (x : Int) (w : World) : ReadsAt 19 #[.int .i64 x] ⟨#[120]⟩ 0 (fun W W' => W = W') w := by
  unfold ReadsAt
  go_enter Try.func19, Try.ntmps19
  go_wp2
  go_ret2
  exact ⟨rfl, rfl⟩
set_option maxHeartbeats 2000000 in
theorem cnobody_any (kind at' n : Int) (text : ByteArray) (b : Bool) (w : World) :
    Calls Try.prog 5 #[.agg #[.int .i64 kind, .int .i64 at', .int .i64 n, .string text], .bool b] w fun e w' => e = .returned (.bool true) ∧ Below w.heap.size w w' := by
  cases b
  · have hx : errText ⟨#[120]⟩ 0 = ⟨#[120]⟩ := rfl
    have HN : Hid (∀ W : World, NoCache W none) := fun W => .inl rfl
    go_enter Try.func5, Try.ntmps5
    go_wp2_with (first | (go_at_call 7; refine (awake_any _).mono ?_; rintro e w5 ⟨rfl, hb5⟩; have HB5 := Lib.hid hb5; clear hb5) | (go_at_call 16; refine (nput _ _ _ _ (HN.out _)).mono ?_; rintro e w1 ⟨rfl, rfl⟩) | (go_at_call 17; refine (nclear _ _ (HN.out _)).mono ?_; rintro e w1 ⟨rfl, rfl⟩) | (go_at_call 18; refine (nget _ _ _ (HN.out _)).mono ?_; rintro e w1 ⟨rfl, rfl⟩) | (go_at_call 13; refine (ncounts _ _ (HN.out _)).mono ?_; rintro e w1 ⟨rfl, rfl⟩) | (go_at_call 15; refine (nplaces _ _ (HN.out _)).mono ?_; rintro e w1 ⟨rfl, rfl⟩) | (go_at_call 10; refine (nthrough0 _ _ 19 ⟨#[120]⟩ 0 (fun W W' => W = W') _ (HN.out _) (nobody1_any _ _) (fun _ _ => HN.out _) (fun x W => call_nobody1 x W)).mono ?_; rintro e w1 ⟨rfl, rfl⟩))
    go_ret
    exact ⟨rfl, ((Below.refl _ _).alloc (Nat.le_refl _) _).trans (HB5.out.mono (by simp))⟩
  · have hx : errText ⟨#[120]⟩ 0 = ⟨#[120]⟩ := rfl
    have HN : Hid (NoCache ((w.alloc (.cells #[.int .i64 kind, .int .i64 at', .int .i64 n, .string text] 40)).alloc (.cells #[.int .i64 0, .slice none 0 0, .map none, .int .i64 0, .int .i64 0] 52)) (some ⟨w.heap.size + 1, 0, none⟩)) := by
      have := (Blk.new (w.alloc (.cells #[.int .i64 kind, .int .i64 at', .int .i64 n, .string text] 40)) 52 [.int .i64 0, .slice none 0 0, .map none, .int .i64 0, .int .i64 0]).cell 0
      rw [World.size_alloc] at this
      exact .inr ⟨_, rfl, this⟩
    go_enter Try.func5, Try.ntmps5
    go_wp2_with (first | (go_at_call 7; refine (awake_any _).mono ?_; rintro e w5 ⟨rfl, hb5⟩; have HB5 := Lib.hid hb5; clear hb5) | (go_at_call 16; refine (nput _ _ _ _ HN.out).mono ?_; rintro e w1 ⟨rfl, rfl⟩) | (go_at_call 17; refine (nclear _ _ HN.out).mono ?_; rintro e w1 ⟨rfl, rfl⟩) | (go_at_call 18; refine (nget _ _ _ HN.out).mono ?_; rintro e w1 ⟨rfl, rfl⟩) | (go_at_call 13; refine (ncounts _ _ HN.out).mono ?_; rintro e w1 ⟨rfl, rfl⟩) | (go_at_call 15; refine (nplaces _ _ HN.out).mono ?_; rintro e w1 ⟨rfl, rfl⟩) | (go_at_call 10; refine (nthrough0 _ _ 19 ⟨#[120]⟩ 0 (fun W W' => W = W') _ HN.out (nobody1_any _ _) (fun _ e => by subst e; exact HN.out) (fun x W => call_nobody1 x W)).mono ?_; rintro e w1 ⟨rfl, rfl⟩))
    go_ret
    exact ⟨rfl, (((Below.refl _ _).alloc (Nat.le_refl _) _).alloc (by simp) _).trans (HB5.out.mono (by simp; omega))⟩
end Go.Proofs.Ytedjaahidncokab
