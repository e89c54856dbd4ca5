/- pitheadplain: two lists held against each other; how many bytes texts have. -/
import Derived.Test.YtedjaahidncokabSl
namespace Go.Proofs.Ytedjaahidncokab
open Go.RowKit

def sameI (a b : List Int) : Bool := decide (a = b)
set_option maxHeartbeats 1000000 in
theorem ints_any (va vb : Value) (a b : List Int) (w : World) (F : Nat → Prop) (ha : IntsAt w F va a) (hb : IntsAt w F vb b) :
    Calls Try.prog 14 #[va, vb] w fun e w' => e = .returned (.bool (sameI a b)) ∧ ∃ q, w' = w.drewN q := by
  obtain ⟨AA, ca, rfl, hca, hma, ha⟩ := ha
  obtain ⟨AB, cb, rfl, hcb, hmb, hb⟩ := hb
  have HA := Lib.hid ha
  have HB := Lib.hid hb
  clear ha hb
  unfold maxLen at hma hmb
  by_cases hl : a.length = b.length
  · have hd : ((a.length : Int) != (b.length : Int)) = false := by simp [hl]
    have HL := Lib.hid hl
    have hle : a.length ≤ b.length := by omega
    clear hl
    go_enter Try.func14, Try.ntmps14
    go_wp2
    go_loopw [13] (fun i wr => ∃ k q : Nat, k ≤ a.length ∧ i = .int .i64 k ∧ Hid (a.take k = b.take k) ∧ Hid (wr = w.drewN q)) (fun i _ => a.length - (intOf i).toNat)
    case atStart => exact ⟨0, 0, Nat.zero_le _, rfl, rfl, rfl⟩
    case round =>
      obtain ⟨k, q, hk, rfl, hsame, hw⟩ := hrel
      by_cases hlt : k < a.length
      · have hltb : k < b.length := by omega
        obtain ⟨ad, rfl, _, hc1⟩ := (show Rd wr F 1 AA a.length (ints a) by rw [hw.out]; exact HA.out.drewN q).int hlt
        obtain ⟨bd, rfl, _, hc2⟩ := (show Rd wr F 1 AB b.length (ints b) by rw [hw.out]; exact HB.out.drewN q).int hltb
        by_cases he : a[k] = b[k]
        · have hbe : (a[k] != b[k]) = false := by simp [he]
          have hs2 : Hid (a.take (k + 1) = b.take (k + 1)) := by unfold Hid; rw [List.take_succ_eq_append_getElem hlt, List.take_succ_eq_append_getElem hltb, hsame.out, he]
          clear he
          go_wp2
          go_quiet (fail)
          go_wp2
          go_roundw
          case rel => exact ⟨k + 1, _, by omega, by go_num, hs2, by unfold Hid; rw [hw.out, World.drewN_drewN]⟩
          case measure => simp [intOf]; omega
        · have hbe : (a[k] != b[k]) = true := by simpa using he
          have hfin : Hid (sameI a b = false) := by
            unfold Hid sameI
            rw [decide_eq_false_iff_not]
            rintro rfl
            exact he rfl
          clear he
          go_wp2
          go_quiet (fail)
          go_wp2
          go_ret
          exact ⟨by rw [hfin.out]; rfl, _, by rw [hw.out, World.drewN_drewN]⟩
      · have hfin : Hid (sameI a b = true) := by
          unfold Hid sameI
          have := hsame.out
          rw [List.take_of_length_le (by omega), List.take_of_length_le (by have := HL.out; omega)] at this
          simp [this]
        go_wp2
        go_ret
        exact ⟨by rw [hfin.out]; rfl, q, hw.out⟩
  · have hd : ((a.length : Int) != (b.length : Int)) = true := by simpa using (fun h : (a.length : Int) = b.length => hl (by omega))
    have hfin : Hid (sameI a b = false) := by
      unfold Hid sameI
      rw [decide_eq_false_iff_not]
      rintro rfl
      exact hl rfl
    clear hl
    go_enter Try.func14, Try.ntmps14
    go_wp2
    go_ret
    exact ⟨by rw [hfin.out]; rfl, 0, rfl⟩

/-- texts, as cells -/
def strs (l : List ByteArray) : List Value := l.map .string
theorem strs_len (l : List ByteArray) : (strs l).length = l.length := by simp [strs]
theorem Rd.str {w : World} {F : Nat → Prop} {A : Option Addr} {n k : Nat} {l : List ByteArray} (h : Rd w F 1 A n (strs l)) (hk : k < l.length) : ∃ ad, A = some ad ∧ F ad.block ∧ w.cell? (ad.add k) = some (.string l[k]) := by
  have hn : k < n := by have := h.1; rw [strs_len] at this; omega
  obtain ⟨ad, e, hF, hc⟩ := h.2 (by omega)
  refine ⟨ad, e, hF, hc k _ ?_⟩
  simp [strs, hk]
/-- how many bytes, as long as that is below a million -/
def bytesOf (n : Nat) : List ByteArray → Nat
  | [] => n
  | s :: r => if 1000000 ≤ n + min s.size 1000000 then n + min s.size 1000000 else bytesOf (n + min s.size 1000000) r
theorem bytesOf_at (l : List ByteArray) (n k : Nat) (hk : k < l.length) : bytesOf n (l.drop k) = if 1000000 ≤ n + min l[k].size 1000000 then n + min l[k].size 1000000 else bytesOf (n + min l[k].size 1000000) (l.drop (k + 1)) := by
  rw [List.drop_eq_getElem_cons hk]; rfl
def total (l : List ByteArray) : Nat := (l.map ByteArray.size).sum
theorem bytesOf_small (l : List ByteArray) : ∀ n, bytesOf n l < 1000000 → n + total l = bytesOf n l := by
  induction l with
  | nil => intro n _; rfl
  | cons s r ih =>
    intro n h
    simp only [bytesOf] at h ⊢
    split at h
    · omega
    · rename_i hlt
      rw [if_neg hlt, ← ih _ h]
      simp only [total, List.map_cons, List.sum_cons]
      omega
theorem total_mem {l : List ByteArray} {s : ByteArray} (h : s ∈ l) : s.size ≤ total l := by
  induction l with
  | nil => cases h
  | cons x r ih =>
    simp only [total, List.map_cons, List.sum_cons]
    rcases List.mem_cons.1 h with rfl | h
    · omega
    · have := ih h; unfold total at this; omega
set_option maxHeartbeats 400000 in
theorem bytes_any (A : Option Addr) (c : Nat) (l : List ByteArray) (w : World) (F : Nat → Prop) (h : Rd w F 1 A l.length (strs l)) (hm : l.length ≤ maxLen) (hs : ∀ s ∈ l, s.size ≤ maxLen) :
    Calls Try.prog 6 #[.slice A l.length c] w fun e w' => e = .returned (.int .i64 (bytesOf 0 l)) ∧ w = w' := by
  have HS := Lib.hid hs
  clear hs
  unfold maxLen at hm
  go_enter Try.func6, Try.ntmps6
  go_wp2
  go_loop [3, 8] (fun s i => ∃ k n : Nat, k ≤ l.length ∧ i = .int .i64 k ∧ n < 1000000 ∧ s = .int .i64 n ∧ Hid (bytesOf 0 l = bytesOf n (l.drop k))) (fun _ i => l.length - (intOf i).toNat)
  case atStart => exact ⟨0, 0, Nat.zero_le _, rfl, by omega, rfl, rfl⟩
  case round =>
    obtain ⟨k, n, hk, rfl, hn, rfl, hby⟩ := hrel
    by_cases hlt : k < l.length
    · obtain ⟨ad, rfl, _, hc⟩ := h.str hlt
      have hat := bytesOf_at l n k hlt
      have hsz := HS.out _ (List.getElem_mem hlt)
      unfold maxLen at hsz
      by_cases hbig : 1000000 ≤ n + min l[k].size 1000000
      · rw [if_pos hbig] at hat
        have hfin := Lib.hid (hby.out.trans hat)
        clear hat
        go_wp2
        all_goals
          first
            | (go_ret
               refine ⟨?_, rfl⟩
               rw [hfin.out]
               refine congrArg (fun z => Ending.returned (Value.int .i64 z)) ?_
               first | omega | (split <;> omega))
            | (exfalso; omega)
      · rw [if_neg hbig] at hat
        have hfin := Lib.hid (hby.out.trans hat)
        clear hat
        go_wp2
        all_goals
          first
            | (go_round
               case rel => exact ⟨k + 1, n + min l[k].size 1000000, by omega, by go_num, by omega, by congr 1; first | omega | (split <;> omega), hfin⟩
               case measure => simp [intOf]; omega)
            | (exfalso; omega)
    · have hfin : Hid (bytesOf 0 l = n) := by unfold Hid; rw [hby.out, List.drop_eq_nil_of_le (by omega)]; rfl
      go_wp2
      go_ret
      exact ⟨by rw [hfin.out]; rfl, rfl⟩
end Go.Proofs.Ytedjaahidncokab
