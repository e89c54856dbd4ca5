/- Texts of the walk, joined: G1 G2 G3 G4 G5 G6 G7 G8 G9 Ga Gb Gc Gd. -/
import Derived.Test.YtafbdhoaoileiaaMa
import Derived.Test.YtafbdhoaoileiaaMd
import Derived.Sort.Walk0
import Derived.Test.YtafbdhoaoileiaaProg
import Derived.Test.YtafbdhoaoileiaaChecked
namespace Go.Proofs.Ytafbdhoaoileiaa
set_option linter.unusedSimpArgs false
set_option linter.unusedVariables false
def be : Nat → Nat → List UInt8
 | 0, _ => []
 | s + 1, n => UInt8.ofNat (n / 256 ^ s % 256) :: be s n
theorem be_length : ∀ s n, (be s n).length = s
 | 0, _ => rfl
 | s + 1, n => by simp [be, be_length s n]
theorem be_congr : ∀ {s m n : Nat}, m % 256 ^ s = n % 256 ^ s → be s m = be s n
 | 0, _, _, _ => rfl
 | s + 1, m, n, h => by
  have hd : m / 256 ^ s % 256 = n / 256 ^ s % 256 := by
   rw [← Nat.mod_mul_right_div_self, ← Nat.mod_mul_right_div_self, ← Nat.pow_succ, h]
  have ht : m % 256 ^ s = n % 256 ^ s := by
   have e1 : m % 256 ^ s = m % 256 ^ (s + 1) % 256 ^ s := by rw [Nat.pow_succ, Nat.mod_mul_right_mod]
   have e2 : n % 256 ^ s = n % 256 ^ (s + 1) % 256 ^ s := by rw [Nat.pow_succ, Nat.mod_mul_right_mod]
   rw [e1, e2, h]
  rw [be, be, hd, be_congr ht]
theorem u8_lt {a b : Nat} (h : a < b) (hb : b < 256) : UInt8.ofNat a < UInt8.ofNat b := by
 rw [UInt8.lt_iff_toNat_lt, UInt8.toNat_ofNat', UInt8.toNat_ofNat']
 rw [Nat.mod_eq_of_lt (by omega), Nat.mod_eq_of_lt (by omega)]; exact h
theorem be_lt : ∀ {s m n : Nat} (x y : List UInt8), m < n → n < 256 ^ s → be s m ++ x < be s n ++ y
 | 0, m, n, x, y, h, hn => by simp at hn; omega
 | s + 1, m, n, x, y, h, hn => by
  have hp : 0 < 256 ^ s := Nat.pow_pos (by omega)
  have hnd : n / 256 ^ s < 256 := by rw [Nat.div_lt_iff_lt_mul hp, ← Nat.pow_succ']; exact hn
  have hle : m / 256 ^ s ≤ n / 256 ^ s := Nat.div_le_div_right (Nat.le_of_lt h)
  rw [be, be, List.cons_append, List.cons_append, List.cons_lt_cons_iff, Nat.mod_eq_of_lt hnd, Nat.mod_eq_of_lt (Nat.lt_of_le_of_lt hle hnd)]
  rcases Nat.lt_or_eq_of_le hle with hl | he
  ·exact .inl (u8_lt hl hnd)
  ·refine .inr ⟨by rw [he], ?_⟩
   rw [be_congr (s := s) (m := m) (n := m % 256 ^ s) (Nat.mod_mod _ _).symm, be_congr (s := s) (m := n) (n := n % 256 ^ s) (Nat.mod_mod _ _).symm]
   refine be_lt x y ?_ (Nat.mod_lt _ hp)
   have e1 := Nat.div_add_mod m (256 ^ s); have e2 := Nat.div_add_mod n (256 ^ s)
   rw [he] at e1; omega
def szN (n : Nat) : Nat :=
 if n < 128 then 1 else if n < 16384 then 2 else if n < 2097152 then 3 else if n < 268435456 then 4 else if n < 34359738368 then 5 else
 if n < 4398046511104 then 6 else if n < 562949953421312 then 7 else if n < 72057594037927936 then 8 else 9
theorem szN_cases (n : Nat) : (szN n = 1 ∧ n < 128) ∨ (szN n = 2 ∧ 128 ≤ n ∧ n < 16384) ∨ (szN n = 3 ∧ 16384 ≤ n ∧ n < 2097152) ∨ (szN n = 4 ∧ 2097152 ≤ n ∧ n < 268435456) ∨
  (szN n = 5 ∧ 268435456 ≤ n ∧ n < 34359738368) ∨ (szN n = 6 ∧ 34359738368 ≤ n ∧ n < 4398046511104) ∨ (szN n = 7 ∧ 4398046511104 ≤ n ∧ n < 562949953421312) ∨
  (szN n = 8 ∧ 562949953421312 ≤ n ∧ n < 72057594037927936) ∨ (szN n = 9 ∧ 72057594037927936 ≤ n) := by
 unfold szN; repeat' split <;> try omega
def codeN (n : Nat) : Nat := n + (256 - 2 ^ (9 - szN n)) * 256 ^ (szN n - 1)
def putB (n : Nat) : List UInt8 := be (szN n) (codeN n)
def headN (n : Nat) : Nat := codeN n / 256 ^ (szN n - 1)
theorem szN_pos (n : Nat) : szN n = (szN n - 1) + 1 := by have := szN_cases n; omega
theorem headN_bd {n : Nat} (hn : n < 18446744073709551616) : 256 - 2 ^ (9 - szN n) ≤ headN n ∧ headN n < 256 ∧ ∀ t, szN n < t → t ≤ 9 → headN n < 256 - 2 ^ (9 - t) := by
 have key : 256 - 2 ^ (9 - szN n) ≤ headN n ∧ headN n < 256 ∧ (szN n < 9 → headN n < 256 - 2 ^ (9 - (szN n + 1))) := by
  rcases szN_cases n with ⟨e, h⟩ | ⟨e, h, h'⟩ | ⟨e, h, h'⟩ | ⟨e, h, h'⟩ | ⟨e, h, h'⟩ | ⟨e, h, h'⟩ | ⟨e, h, h'⟩ | ⟨e, h, h'⟩ | ⟨e, h⟩ <;> simp only [headN, codeN, e, Nat.reduceSub, Nat.reducePow, Nat.reduceMul, Nat.reduceAdd] <;> omega
 refine ⟨key.1, key.2.1, fun t h1 h2 => Nat.lt_of_lt_of_le (key.2.2 (by omega)) ?_⟩
 have : 2 ^ (9 - t) ≤ 2 ^ (9 - (szN n + 1)) := Nat.pow_le_pow_right (by omega) (by omega)
 omega
theorem putB_head {n : Nat} (hn : n < 18446744073709551616) : putB n = UInt8.ofNat (headN n) :: be (szN n - 1) (codeN n) := by
 have h := (headN_bd hn).2.1
 rw [putB, szN_pos n, be]; simp only [Nat.add_sub_cancel]
 rw [Nat.mod_eq_of_lt (by exact h), headN]
theorem szN_mono {m n : Nat} (h : m ≤ n) : szN m ≤ szN n := by
 have := szN_cases m; have := szN_cases n; omega
theorem putB_lt {m n : Nat} (x y : List UInt8) (h : m < n) (hn : n < 18446744073709551616) : putB m ++ x < putB n ++ y := by
 rcases Nat.lt_or_eq_of_le (szN_mono (Nat.le_of_lt h)) with hs | hs
 ·rw [putB_head hn, putB_head (by omega), List.cons_append, List.cons_append, List.cons_lt_cons_iff]
  have h9 : szN n ≤ 9 := by have := szN_cases n; omega
  exact .inl (u8_lt (Nat.lt_of_lt_of_le ((headN_bd (by omega)).2.2 _ hs h9) (headN_bd hn).1) (headN_bd hn).2.1)
 ·rw [putB, putB, hs]
  refine be_lt x y (by rw [codeN, codeN, hs]; omega) ?_
  have hh := (headN_bd hn).2.1
  have hp : 0 < 256 ^ (szN n - 1) := Nat.pow_pos (by omega)
  rw [headN, Nat.div_lt_iff_lt_mul hp] at hh
  rw [szN_pos n, Nat.pow_succ']; exact hh
def rowB (l : List Nat) : List UInt8 := l.flatMap putB
theorem rowB_lt : ∀ {l m : List Nat}, l.length = m.length → (∀ x ∈ l, x < 18446744073709551616) → (∀ x ∈ m, x < 18446744073709551616) → l < m → rowB l < rowB m
 | [], [], _, _, _, h => absurd h (List.not_lt_nil _)
 | a :: l, b :: m, hl, ha, hb, h => by
  rw [List.cons_lt_cons_iff] at h
  rw [rowB, rowB, List.flatMap_cons, List.flatMap_cons]
  rcases h with h | ⟨rfl, h⟩
  ·exact putB_lt _ _ h (hb _ (by simp))
  ·have := rowB_lt (Nat.succ.inj hl) (fun x hx => ha x (by simp [hx])) (fun x hx => hb x (by simp [hx])) h
   exact List.append_left_lt this
theorem rowB_lt_iff {l m : List Nat} (hl : l.length = m.length) (ha : ∀ x ∈ l, x < 18446744073709551616) (hb : ∀ x ∈ m, x < 18446744073709551616) : rowB l < rowB m ↔ l < m := by
 refine ⟨fun h => ?_, rowB_lt hl ha hb⟩
 by_cases h1 : l < m
 ·exact h1
 ·exfalso
  rcases Decidable.em (l = m) with rfl | hne
  ·exact List.lt_irrefl _ h
  ·have h2 : m < l := by
    rcases List.le_iff_lt_or_eq.mp (List.not_lt.mp h1) with h | h
    ·exact h
    ·exact absurd h.symm hne
   exact List.lt_asymm h (rowB_lt hl.symm hb ha h2)
open Go.RowKit
structure Ag where
 (n s0 l0 h0 s1 l1 h1 s2 l2 h2 : Int)
 deriving DecidableEq
abbrev Ag.arr (a : Ag) : Array Value := #[.int .i64 a.n, .int .i64 a.s0, .int .i64 a.l0, .int .i64 a.h0, .int .i64 a.s1, .int .i64 a.l1, .int .i64 a.h1, .int .i64 a.s2, .int .i64 a.l2, .int .i64 a.h2]
def ag0 : Ag := ⟨0, 0, 0, 0, 0, 0, 0, 0, 0, 0⟩
set_option maxHeartbeats 1000000 in
set_option maxRecDepth 100000 in
theorem eq_part (d : Nat) (w : World) (a0 a1 a2 b0 b1 b2 : Int) : (Op.equalIn (d + 2) 33 (.agg #[.int .i64 a0, .int .i64 a1, .int .i64 a2]) (.agg #[.int .i64 b0, .int .i64 b1, .int .i64 b2])).run Try.prog w =
  .ok (decide (a0 = b0 ∧ a1 = b1 ∧ a2 = b2)) w := by
 rw [run_equalIn_struct w (d + 1) _ _ _ (by kernel_rfl) (by kernel_rfl)]
 by_cases h0 : a0 = b0 <;> by_cases h1 : a1 = b1 <;> by_cases h2 : a2 = b2 <;> simp [go_sem, h0, h1, h2]
set_option maxHeartbeats 1000000 in
set_option maxRecDepth 100000 in
theorem eq_parts (d : Nat) (w : World) (a0 a1 a2 a3 a4 a5 a6 a7 a8 b0 b1 b2 b3 b4 b5 b6 b7 b8 : Int) : (Op.equalIn (d + 3) 34 (.agg #[.int .i64 a0, .int .i64 a1, .int .i64 a2, .int .i64 a3, .int .i64 a4, .int .i64 a5, .int .i64 a6, .int .i64 a7, .int .i64 a8]) (.agg #[.int .i64 b0, .int .i64 b1, .int .i64 b2, .int .i64 b3, .int .i64 b4, .int .i64 b5, .int .i64 b6, .int .i64 b7, .int .i64 b8])).run Try.prog w =
  .ok (decide (a0 = b0 ∧ a1 = b1 ∧ a2 = b2) && (decide (a3 = b3 ∧ a4 = b4 ∧ a5 = b5) && decide (a6 = b6 ∧ a7 = b7 ∧ a8 = b8))) w := by
 unfold Op.equalIn
 by_cases h0 : a0 = b0 ∧ a1 = b1 ∧ a2 = b2
 ·by_cases h1 : a3 = b3 ∧ a4 = b4 ∧ a5 = b5
  ·by_cases h2 : a6 = b6 ∧ a7 = b7 ∧ a8 = b8
   ·obtain ⟨rfl, rfl, rfl⟩ := h0
    obtain ⟨rfl, rfl, rfl⟩ := h1
    obtain ⟨rfl, rfl, rfl⟩ := h2
    simp [run_underlying Try.underlying34, go_sem, List.range'_succ]
   ·obtain ⟨rfl, rfl, rfl⟩ := h0
    obtain ⟨rfl, rfl, rfl⟩ := h1
    have e2 := fun w => eq_part d w a6 a7 a8 b6 b7 b8
    rw [decide_eq_false h2] at e2 ⊢
    simp [run_underlying Try.underlying34, part, isAgg, go_sem, List.range'_succ, eq_part, e2, h2]
    exact fun h1 h3 h4 => h2 ⟨h1, h3, h4⟩
  ·obtain ⟨rfl, rfl, rfl⟩ := h0
   have e1 := fun w => eq_part d w a3 a4 a5 b3 b4 b5
   rw [decide_eq_false h1] at e1 ⊢
   simp [run_underlying Try.underlying34, go_sem, List.range'_succ, e1]
   exact fun h3 h4 h5 => absurd ⟨h3, h4, h5⟩ h1
 ·have e0 := fun w => eq_part d w a0 a1 a2 b0 b1 b2
  rw [decide_eq_false h0] at e0 ⊢
  simp [run_underlying Try.underlying34, go_sem, List.range'_succ, e0]
theorem ag_eq (a b : Ag) : (a = b) = (a.n = b.n ∧ (a.s0 = b.s0 ∧ a.l0 = b.l0 ∧ a.h0 = b.h0) ∧ (a.s1 = b.s1 ∧ a.l1 = b.l1 ∧ a.h1 = b.h1) ∧ (a.s2 = b.s2 ∧ a.l2 = b.l2 ∧ a.h2 = b.h2)) := by
 cases a; cases b; simp only [Ag.mk.injEq, and_assoc]
set_option maxHeartbeats 1000000 in
set_option maxRecDepth 100000 in
theorem eq_ag (d : Nat) (w : World) (a b : Ag) : (Op.equalIn (d + 4) 36 (.agg a.arr) (.agg b.arr)).run Try.prog w = .ok (decide (a = b)) w := by
 rw [run_equalIn_struct w (d + 3) _ _ _ (by kernel_rfl) (by kernel_rfl)]
 have e0 := fun w => eq_parts d w a.s0 a.l0 a.h0 a.s1 a.l1 a.h1 a.s2 a.l2 a.h2 b.s0 b.l0 b.h0 b.s1 b.l1 b.h1 b.s2 b.l2 b.h2
 simp only [ag_eq]
 rw [← Bool.decide_and, ← Bool.decide_and] at e0
 cases h0 : decide ((a.s0 = b.s0 ∧ a.l0 = b.l0 ∧ a.h0 = b.h0) ∧ (a.s1 = b.s1 ∧ a.l1 = b.l1 ∧ a.h1 = b.h1) ∧ (a.s2 = b.s2 ∧ a.l2 = b.l2 ∧ a.h2 = b.h2)) <;> simp only [h0] at e0 <;>
 by_cases h1 : a.n = b.n <;> simp [go_sem, e0, h1] <;> simpa using h0
def eqE : TypeId → Option (List SK) := fun t => if t = 36 then some (List.replicate 10 (.int .i64)) else none
def eqT : EqT := ⟨eqE, fun _ => false⟩
theorem ints_of : ∀ {n : Nat} {xs : List Value}, xs.length = n → (∀ (i : Nat) (k : SK) (x : Value), (List.replicate n (SK.int .i64))[i]? = some k → xs[i]? = some x → k.is x = true) → ∃ l : List Int, xs = l.map (Value.int .i64) ∧ l.length = n
 | 0, xs, h, _ => ⟨[], by simpa using h, rfl⟩
 | n + 1, [], h, _ => by simp at h
 | n + 1, x :: xs, h, hk => by
  obtain ⟨l, h1, h2⟩ := ints_of (n := n) (xs := xs) (by simpa using h) (fun i k y a b => hk (i + 1) k y (by simpa [List.replicate_succ] using a) (by simpa using b))
  have := hk 0 (.int .i64) x (by simp [List.replicate_succ]) (by simp)
  cases x with
  | int k a =>
   simp [SK.is] at this
   subst this
   exact ⟨a :: l, by simp [h1], by simp [h2]⟩
  | _ => simp [SK.is] at this
theorem vsEq_ints : ∀ {l m : List Int}, l.length = m.length → vsEq (l.map (Value.int .i64)) (m.map (Value.int .i64)) = decide (l = m)
 | [], [], _ => rfl
 | a :: l, b :: m, h => by
  have ih := vsEq_ints (l := l) (m := m) (by simpa using h)
  simp only [List.map_cons, vsEq, vEq, ih]
  by_cases h1 : a = b <;> by_cases h2 : l = m <;> simp [h1, h2]
 | [], _ :: _, h => by simp at h
 | _ :: _, [], h => by simp at h
theorem list10 {l : List Int} (h : l.length = 10) : ∃ a : Ag, l = [a.n, a.s0, a.l0, a.h0, a.s1, a.l1, a.h1, a.s2, a.l2, a.h2] := by
 match l, h with
 | [a, b, c, d, e, f, g, x, y, z], _ => exact ⟨⟨a, b, c, d, e, f, g, x, y, z⟩, rfl⟩
theorem chk_int (b : Bool) (d : Nat) (w : World) (a : Int) : (Instr.checkKey b (d + 1) 3 (.int .i64 a)).run Try.prog w = .ok () w := by
 unfold Instr.checkKey
 simp [run_underlying Try.underlying3]
theorem chk_i64 (b : Bool) (d : Nat) (w : World) (a : Int) : (Instr.checkKey b (d + 1) 2 (.int .i64 a)).run Try.prog w = .ok () w := by
 unfold Instr.checkKey
 simp [run_underlying Try.underlying2]
set_option maxHeartbeats 1000000 in
set_option maxRecDepth 100000 in
theorem chk_part (b : Bool) (d : Nat) (w : World) (a0 a1 a2 : Int) : (Instr.checkKey b (d + 2) 33 (.agg #[.int .i64 a0, .int .i64 a1, .int .i64 a2])).run Try.prog w = .ok () w := by
 unfold Instr.checkKey
 simp [run_underlying Try.underlying33, go_sem, chk_int, chk_i64]
set_option maxHeartbeats 1000000 in
set_option maxRecDepth 100000 in
theorem chk_parts (b : Bool) (d : Nat) (w : World) (a0 a1 a2 a3 a4 a5 a6 a7 a8 : Int) : (Instr.checkKey b (d + 3) 34 (.agg #[.int .i64 a0, .int .i64 a1, .int .i64 a2, .int .i64 a3, .int .i64 a4, .int .i64 a5, .int .i64 a6, .int .i64 a7, .int .i64 a8])).run Try.prog w = .ok () w := by
 unfold Instr.checkKey
 simp [run_underlying Try.underlying34, go_sem, List.range'_succ, chk_part]
set_option maxHeartbeats 1000000 in
set_option maxRecDepth 100000 in
theorem chk_ag (b : Bool) (d : Nat) (w : World) (a : Ag) : (Instr.checkKey b (d + 4) 36 (.agg a.arr)).run Try.prog w = .ok () w := by
 unfold Instr.checkKey Ag.arr
 simp [run_underlying Try.underlying36, go_sem, chk_int, chk_i64, chk_parts]
theorem hE : ∀ t ks, eqT t = some ks → EqOk Try.prog t ks := by
 intro t ks h
 have h : eqE t = some ks := h
 unfold eqE at h
 split at h
 ·rename_i e
  subst e
  injection h with h
  subst h
  intro xs ys h1 h2 h3 h4 w
  obtain ⟨l, rfl, hl⟩ := ints_of (by simpa using h1) h3
  obtain ⟨m, rfl, hm⟩ := ints_of (by simpa using h2) h4
  obtain ⟨a, rfl⟩ := list10 hl
  obtain ⟨c, rfl⟩ := list10 hm
  refine ⟨?_, fun b => chk_ag b 9996 w a⟩
  rw [vsEq_ints (by simp)]
  refine (eq_ag 9996 w a c).trans ?_
  congr 1
  simp [ag_eq, and_assoc]
 ·cases h
theorem stable_n {d : Nat} {op : AOp} {F : Fr} {H : AHeap} : AI.stable ⟨none, some d, op⟩ F H = (op.ev F H = some (Fr.get F d, H)) := by
 simp [AI.stable, AI.want]
theorem stable_g {s d : Nat} {t : Bool} {op : AOp} {F : Fr} {H : AHeap} : AI.stable ⟨some (s, t), some d, op⟩ F H = @GdK (Fr.get F s) t ⟨op.ev F H = some (Fr.get F d, H)⟩ ⟨fun _ _ => True⟩ := by
 simp only [AI.stable, AI.want, GdK]
 cases Fr.get F s with
 | sc v =>
  cases v with
  | bool c => cases c <;> cases t <;> simp
  | _ => rfl
 | _ => rfl
theorem stables_nil {F : Fr} {H : AHeap} : (∀ r ∈ ([] : List AI), r.stable F H) = True := by simp
theorem stables_cons {F : Fr} {H : AHeap} {a : AI} {l : List AI} : (∀ r ∈ a :: l, r.stable F H) = (a.stable F H ∧ ∀ r ∈ l, r.stable F H) := by simp
theorem bytes_toList (l : List UInt8) : (⟨l.toArray⟩ : ByteArray).toList = l := by rw [ByteArray.toList_eq]
theorem beq_dec (a b : List UInt8) : (a == b) = decide (a = b) := by rw [Bool.eq_iff_iff]; simp
theorem vEq_int (a b : Int) : vEq (.int .i64 a) (.int .i64 b) = decide (a = b) := by by_cases h : a = b <;> simp [vEq, h]
def eAg (a : Ag) : List AV := [.i a.n, .i a.s0, .i a.l0, .i a.h0, .i a.s1, .i a.l1, .i a.h1, .i a.s2, .i a.l2, .i a.h2]
def vAg (a : Ag) : List Value := [.int .i64 a.n, .int .i64 a.s0, .int .i64 a.l0, .int .i64 a.h0, .int .i64 a.s1, .int .i64 a.l1, .int .i64 a.h1, .int .i64 a.s2, .int .i64 a.l2, .int .i64 a.h2]
theorem vsEq_ag (a b : Ag) : vsEq (vAg a) (vAg b) = decide (a = b) := by
 obtain ⟨n, s0, l0, h0, s1, l1, h1, s2, l2, h2⟩ := a
 obtain ⟨n', s0', l0', h0', s1', l1', h1', s2', l2', h2'⟩ := b
 rw [Bool.eq_iff_iff]
 simp [vAg, vsEq, vEq_int]
theorem YE : (∀ {a : Ag}, (eAg a).length = 10) ∧ (∀ {a : Ag}, (eAg a).take 10 = eAg a) ∧ (∀ {a : Ag}, (eAg a)[0]? = some (.i a.n)) ∧
  (∀ {a : Ag}, scs [.int .i64, .int .i64, .int .i64, .int .i64, .int .i64, .int .i64, .int .i64, .int .i64, .int .i64, .int .i64] (eAg a) = some (vAg a)) ∧ (∀ {a b : Ag}, vsEq (vAg a) (vAg b) = decide (a = b)) ∧
  (∀ {l : List UInt8}, (⟨l.toArray⟩ : ByteArray).toList = l) ∧ (∀ {a b : List UInt8}, Op.bytesLess a b = decide (a < b)) ∧ (∀ {a b : List UInt8}, (a == b) = decide (a = b)) ∧ (∀ {l : List UInt8}, (⟨l.toArray⟩ : ByteArray).size = l.length) ∧ (∀ {α β : Type} {f : α → β} {l : List α} {i : Nat}, (l.map f)[i]? = (l[i]?).map f) ∧ (∀ {α : Type} {l : List α} {i : Nat} (h : i < l.length), l[i]? = some l[i]) ∧
  (∀ {n : Nat}, (0 ≤ (n : Int)) = True) ∧ (∀ {H : AHeap} {i : Nat} {o o' : AObj}, i = H.next → (H.alloc o).set i o' = H.alloc o') ∧
  (∀ {d op F H}, AI.stable ⟨none, some d, op⟩ F H = (op.ev F H = some (Fr.get F d, H))) ∧ (∀ {s d t op F H}, AI.stable ⟨some (s, t), some d, op⟩ F H = @GdK (Fr.get F s) t ⟨op.ev F H = some (Fr.get F d, H)⟩ ⟨fun _ _ => True⟩) ∧
  (∀ {F : Fr} {H : AHeap}, (∀ r ∈ ([] : List AI), r.stable F H) = True) ∧ (∀ {F : Fr} {H : AHeap} {a : AI} {l : List AI}, (∀ r ∈ a :: l, r.stable F H) = (a.stable F H ∧ ∀ r ∈ l, r.stable F H)) :=
 ⟨rfl, rfl, rfl, rfl, vsEq_ag _ _, bytes_toList _, bytesLess_eq _ _, beq_dec _ _, rfl, List.getElem?_map, List.getElem?_eq_getElem, by simp, set_alloc_at, stable_n, stable_g, stables_nil, stables_cons⟩
def za0 : AV := .agg [.sl .full [], .sc (.int .i64 0), .sc (.int .i64 0), .sc (.int .i64 0), .sc (.int .i64 0), .sc (.int .i64 0), .sc (.int .i64 0), .sc (.int .i64 0), .sc (.int .i64 0), .sc (.int .i64 0), .sc (.int .i64 0)]
def zl1 : List AV := [.sc (.int .i64 0), .sc (.int .i64 0), .sc (.int .i64 0), .sc (.int .i64 0), .sc (.int .i64 0), .sc (.int .i64 0), .sc (.int .i64 0), .sc (.int .i64 0), .sc (.int .i64 0), .sc (.int .i64 0)]
def za2 : AV := .agg [.sc (.int .i64 0), .sc (.int .i64 0), .sc (.int .i64 0), .sc (.int .i64 0), .sc (.int .i64 0), .sc (.int .i64 0), .sc (.int .i64 0), .sc (.int .i64 0), .sc (.int .i64 0), .sc (.int .i64 0)]
def zl3 : List AV := [.sl .full [], .sc (.int .i64 0), .sc (.int .i64 0), .sc (.int .i64 0), .sc (.int .i64 0), .sc (.int .i64 0), .sc (.int .i64 0), .sc (.int .i64 0), .sc (.int .i64 0), .sc (.int .i64 0), .sc (.int .i64 0)]
def za4 : AV := .agg [.sc (.int .i64 0), .sc (.int .i64 0), .sc (.int .i64 0)]
def za5 : AV := .agg [.sc (.int .u8 0), .sc (.int .u8 0), .sc (.int .u8 0), .sc (.int .u8 0), .sc (.int .u8 0), .sc (.int .u8 0), .sc (.int .u8 0), .sc (.int .u8 0), .sc (.int .u8 0)]
theorem YZ : True ∧ za0 = .agg [.sl .full [], .sc (.int .i64 0), .sc (.int .i64 0), .sc (.int .i64 0), .sc (.int .i64 0), .sc (.int .i64 0), .sc (.int .i64 0), .sc (.int .i64 0), .sc (.int .i64 0), .sc (.int .i64 0), .sc (.int .i64 0)] ∧ zl1 = [.sc (.int .i64 0), .sc (.int .i64 0), .sc (.int .i64 0), .sc (.int .i64 0), .sc (.int .i64 0), .sc (.int .i64 0), .sc (.int .i64 0), .sc (.int .i64 0), .sc (.int .i64 0), .sc (.int .i64 0)] ∧ za2 = .agg [.sc (.int .i64 0), .sc (.int .i64 0), .sc (.int .i64 0), .sc (.int .i64 0), .sc (.int .i64 0), .sc (.int .i64 0), .sc (.int .i64 0), .sc (.int .i64 0), .sc (.int .i64 0), .sc (.int .i64 0)] ∧ zl3 = [.sl .full [], .sc (.int .i64 0), .sc (.int .i64 0), .sc (.int .i64 0), .sc (.int .i64 0), .sc (.int .i64 0), .sc (.int .i64 0), .sc (.int .i64 0), .sc (.int .i64 0), .sc (.int .i64 0), .sc (.int .i64 0)] ∧ za4 = .agg [.sc (.int .i64 0), .sc (.int .i64 0), .sc (.int .i64 0)] ∧ za5 = .agg [.sc (.int .u8 0), .sc (.int .u8 0), .sc (.int .u8 0), .sc (.int .u8 0), .sc (.int .u8 0), .sc (.int .u8 0), .sc (.int .u8 0), .sc (.int .u8 0), .sc (.int .u8 0)] := ⟨trivial, rfl, rfl, rfl, rfl, rfl, rfl⟩
def c3_1 : ACode := .blk 0 (.loop (.seq (.reg [io 44 (.bin .lss (.t 43) (.t 42))]) (.seq (.cond (.t 44) .skip (.exit 0)) (.seq (.blk 1 (.seq (.reg [im 45 43, im 9 45]) (.seq (.drw [ip (im 46 5), ip (im 47 1), ip (im 48 9), ip (io 49 (.ixa 11 (.t 47) (.t 48))), ip (io 50 (.fla 0 (.t 49))), ip (io 51 (.ld 1 false (.t 50))), ip (im 52 1), ip (im 53 9), ip (io 54 (.ixa 11 (.t 52) (.t 53))), ip (io 55 (.fla 1 (.t 54))), ip (io 56 (.ld 10 true (.t 55))), ip (io 57 (.call (jf 10) [.t 46, .t 51, .t 56]))]) (.drw [ip (im 58 7), ip (im 59 1), ip (im 60 1), ip (io 61 (.len false (.t 60))), ip (io 62 (.bin .sub (.t 61) (ik 1))), ip (im 63 9), ip (io 64 (.bin .sub (.t 62) (.t 63))), ip (io 65 (.ixa 11 (.t 59) (.t 64))), ip (io 66 (.fla 0 (.t 65))), ip (io 67 (.ld 1 false (.t 66))), ip (im 68 1), ip (im 69 1), ip (io 70 (.len false (.t 69))), ip (io 71 (.bin .sub (.t 70) (ik 1))), ip (im 72 9), ip (io 73 (.bin .sub (.t 71) (.t 72))), ip (io 74 (.ixa 11 (.t 68) (.t 73))), ip (io 75 (.fla 1 (.t 74))), ip (io 76 (.ld 10 true (.t 75))), ip (io 77 (.call (jf 10) [.t 58, .t 67, .t 76]))])))) (.reg [io 78 (.bin .add (.t 43) (ik 1)), im 43 78])))))
def c3_0 : ACode := .seq (.reg [io 4 (.mv (ib false))]) (.seq (.seq (.reg [im 10 1, io 11 (.call (jf 6) [.t 10, ik 60]), io 12 (.un .not (.t 11)), im 13 12, ih 13 14 (.mv (.t 1)), ih 13 15 (.call (jf 7) [.t 14]), ih 13 16 (.un .not (.t 15)), io 17 (.pick (.t 13) (ib true) (.t 16))]) (.cond (.t 17) (.seq (.reg [io 18 (.call (jf 8) []), im 4 18]) .ret) .skip)) (.seq (.reg [im 20 0, io 21 (.call (jf 9) [.t 20, ik 4000]), im 19 21, io 22 (.ext (.t 19) 0), io 23 (.ext (.t 19) 1), im 5 22, im 6 23]) (.seq (.reg [im 25 0, io 26 (.call (jf 9) [.t 25, ik 4000]), im 24 26, io 27 (.ext (.t 24) 0), io 28 (.ext (.t 24) 1), im 7 27, im 8 28]) (.seq (.seq (.reg [im 29 6, io 30 (.bin .neq (.t 29) (ik 0)), im 31 30, ih 31 32 (.mv (.t 8)), ih 31 33 (.bin .neq (.t 32) (ik 0)), io 34 (.pick (.t 31) (ib true) (.t 33))]) (.cond (.t 34) (.seq (.reg [im 35 6, im 36 8, io 37 (.bin .eql (.t 35) (.t 36)), im 38 37, ig 38 39 (.call (jf 8) []), io 40 (.pick (.t 38) (.t 39) (ib false)), im 4 40]) .ret) .skip)) (.seq (.seq (.reg [im 41 1, io 42 (.len false (.t 41)), jm 43 0]) c3_1) (.seq (.reg [im 79 5, io 80 (.call (jf 12) [.t 79]), im 81 7, io 82 (.call (jf 12) [.t 81]), io 83 (.call (jf 11) [.t 80, .t 82]), im 84 83, ig 84 85 (.call (jf 8) []), io 86 (.pick (.t 84) (.t 85) (ib false)), im 4 86]) .ret))))))
theorem cf3 : cFn Try.prog eqT 3 = some (c3_0, [(.tmp 4)], 87) := by kernel_rfl
def c6_1 : ACode := .blk 0 (.loop (.seq (.seq (.reg [im 7 6, im 8 0, io 9 (.len false (.t 8)), io 10 (.bin .lss (.t 7) (.t 9)), im 11 10, ig 11 12 (.mv (.t 6)), ig 11 13 (.mv (.t 1)), ig 11 14 (.bin .leq (.t 12) (.t 13)), io 15 (.pick (.t 11) (.t 14) (ib false))]) (.cond (.t 15) .skip (.exit 0))) (.seq (.blk 1 (.reg [im 18 5, im 19 0, im 20 6, io 21 (.ixa 11 (.t 19) (.t 20)), io 22 (.fla 0 (.t 21)), io 23 (.ld 1 false (.t 22)), io 24 (.len false (.t 23)), io 25 (.mm false (.t 24) (ik 1000)), io 26 (.bin .add (.t 18) (.t 25)), im 5 26])) (.reg [im 16 6, io 17 (.bin .add (.t 16) (ik 1)), im 6 17]))))
def c6_0 : ACode := .seq (.reg [io 4 (.mv (ib false))]) (.seq (.reg [jm 5 0]) (.seq (.seq (.reg [jm 6 0]) c6_1) (.seq (.reg [im 27 0, io 28 (.len false (.t 27)), im 29 1, io 30 (.bin .leq (.t 28) (.t 29)), im 31 30, ig 31 32 (.mv (.t 5)), ig 31 33 (.bin .leq (.t 32) (ik 2000)), io 34 (.pick (.t 31) (.t 33) (ib false)), im 4 34]) .ret)))
theorem cf6 : cFn Try.prog eqT 6 = some (c6_0, [(.tmp 4)], 35) := by kernel_rfl
def c7_2 : ACode := .blk 2 (.loop (.seq (.reg [io 17 (.bin .lss (.t 16) (ik 3))]) (.seq (.cond (.t 17) .skip (.exit 2)) (.seq (.blk 3 (.seq (.reg [im 18 16, im 5 18]) (.seq (.reg [im 19 5, io 20 (.fla 1 (.t 4)), io 21 (.fla 1 (.t 20)), io 22 (.ixA 3 3 (.t 21) (.t 19)), io 23 (.fla 0 (.t 22)), io 24 (.ld 1 false (.t 23)), io 25 (.bin .gtr (.t 24) (ik 1000000000000)), im 26 25, ih 26 27 (.mv (.t 5)), ih 26 28 (.fla 1 (.t 4)), ih 26 29 (.fla 1 (.t 28)), ih 26 30 (.ixA 3 3 (.t 29) (.t 27)), ih 26 31 (.fla 0 (.t 30)), ih 26 32 (.ld 1 false (.t 31)), ih 26 33 (.bin .lss (.t 32) (ik (-1000000000000))), io 34 (.pick (.t 26) (ib true) (.t 33))]) (.cond (.t 34) (.seq (.reg [io 2 (.mv (ib false))]) .ret) .skip)))) (.reg [io 35 (.bin .add (.t 16) (ik 1)), im 16 35])))))
def c7_1 : ACode := .blk 0 (.loop (.seq (.reg [io 9 (.bin .lss (.t 8) (.t 7))]) (.seq (.cond (.t 9) .skip (.exit 0)) (.seq (.blk 1 (.seq (.reg [io 10 (.ixa 11 (.t 6) (.t 8)), io 11 (.ld 11 true (.t 10)), io 4 (.box 38 (.c za0)), iz (.st 11 (.t 4) (.t 11))]) (.seq (.seq (.reg [io 12 (.fla 1 (.t 4)), io 13 (.fla 0 (.t 12)), io 14 (.ld 1 false (.t 13)), io 15 (.bin .gtr (.t 14) (ik 1000000000))]) (.cond (.t 15) (.seq (.reg [io 2 (.mv (ib false))]) .ret) .skip)) (.seq (.reg [jm 16 0]) c7_2)))) (.reg [io 36 (.bin .add (.t 8) (ik 1)), im 8 36])))))
def c7_0 : ACode := .seq (.reg [io 2 (.mv (ib false))]) (.seq (.seq (.reg [im 6 0, io 7 (.len false (.t 6)), jm 8 0]) c7_1) (.seq (.reg [im 37 0, io 38 (.len false (.t 37)), io 39 (.bin .leq (.t 38) (ik 1000)), im 40 39, ig 40 41 (.mv (.t 0)), ig 40 42 (.call (jf 6) [.t 41, ik 1000]), io 43 (.pick (.t 40) (.t 42) (ib false)), im 2 43]) .ret))
theorem cf7 : cFn Try.prog eqT 7 = some (c7_0, [(.tmp 2)], 44) := by kernel_rfl
def c8_0 : ACode := .seq (.reg [io 0 (.mv (ib false))]) (.seq (.reg [io 7 (.call (jf 9) [ik 0, ik 9]), im 6 7, io 8 (.ext (.t 6) 0), io 9 (.ext (.t 6) 1), im 1 8, im 2 9]) (.seq (.reg [im 10 1, io 11 (.bld zl1 [(0, (1, ik 1))]), io 12 (.call (jf 10) [.t 10, jn, .t 11]), im 3 12]) (.seq (.reg [im 13 1, io 14 (.bld zl1 [(0, (1, ik 2))]), io 15 (.call (jf 10) [.t 13, jn, .t 14]), im 4 15]) (.seq (.reg [im 16 1, io 17 (.call (jf 12) [.t 16]), im 5 17]) (.seq (.reg [im 18 2, io 19 (.bin .eql (.t 18) (ik 0)), im 20 19, ig 20 21 (.mv (.t 3)), ig 20 22 (.bin .eql (.t 21) (ik 0)), io 23 (.pick (.t 20) (.t 22) (ib false)), im 24 23, ig 24 25 (.mv (.t 4)), ig 24 26 (.bin .eql (.t 25) (ik 0)), io 27 (.pick (.t 24) (.t 26) (ib false)), im 28 27, ig 28 29 (.mv (.t 5)), ig 28 30 (.len false (.t 29)), ig 28 31 (.bin .eql (.t 30) (ik 1)), io 32 (.pick (.t 28) (.t 31) (ib false)), im 33 32, ig 33 34 (.mv (.t 5)), ig 33 35 (.ixa 11 (.t 34) (ik 0)), ig 33 36 (.fla 1 (.t 35)), ig 33 37 (.fla 0 (.t 36)), ig 33 38 (.ld 1 false (.t 37)), ig 33 39 (.bin .eql (.t 38) (ik 3)), io 40 (.pick (.t 33) (.t 39) (ib false)), im 0 40]) .ret)))))
theorem cf8 : cFn Try.prog eqT 8 = some (c8_0, [(.tmp 0)], 41) := by kernel_rfl
def c9_0 : ACode := .seq (.reg [io 4 (.mv (.c (.sc (.pointer none)))), jm 5 0]) (.seq (.seq (.reg [im 6 0, io 7 (.bin .lss (.t 6) (ik 0)), im 8 7, ih 8 9 (.mv (.t 0)), ih 8 10 (.bin .gtr (.t 9) (ik 16)), io 11 (.pick (.t 8) (ib true) (.t 10)), im 12 11, ih 12 13 (.mv (.t 1)), ih 12 14 (.bin .lss (.t 13) (ik 0)), io 15 (.pick (.t 12) (ib true) (.t 14)), im 16 15, ih 16 17 (.mv (.t 1)), ih 16 18 (.bin .gtr (.t 17) (ik 4000)), io 19 (.pick (.t 16) (ib true) (.t 18))]) (.cond (.t 19) (.seq (.reg [io 4 (.mv (.c (.sc (.pointer none)))), jm 5 2]) .ret) .skip)) (.seq (.reg [im 20 0, im 21 1, io 22 (.mkm (.one .str)), io 23 (.bld [.sc (.int .i64 0), .sc (.int .i64 0), .sc (.map none)] [(0, (1, .t 20)), (1, (1, .t 21)), (2, (1, .t 22))]), io 24 (.box 48 (.t 23)), im 4 24, jm 5 0]) .ret))
theorem cf9 : cFn Try.prog eqT 9 = some (c9_0, [(.tmp 4), (.tmp 5)], 25) := by kernel_rfl
def c10_0 : ACode := .seq (.reg [io 5 (.box 36 (.t 2)), jm 6 0]) (.seq (.seq (.reg [im 13 0, io 14 (.eqn 0 false (.t 13) (.c (.sc (.pointer none)))), im 15 14, ih 15 16 (.mv (.t 0)), ih 15 17 (.nck (.t 16)), ih 15 18 (.fla 2 (.t 17)), ih 15 19 (.ld 1 false (.t 18)), ih 15 20 (.eqn 1 false (.t 19) (.c (.sc (.map none)))), io 21 (.pick (.t 15) (ib true) (.t 20))]) (.cond (.t 21) (.seq (.reg [jm 6 1]) .ret) .skip)) (.seq (.reg [io 7 (.mv (jf 15))]) (.seq (.seq (.reg [im 22 1, io 23 (.len false (.t 22)), im 24 0, io 25 (.nck (.t 24)), io 26 (.fla 0 (.t 25)), io 27 (.ld 1 false (.t 26)), io 28 (.bin .neq (.t 23) (.t 27)), im 29 28, ih 29 30 (.mv (.t 1)), ih 29 31 (.mv (.t 7)), ih 29 32 (.call (jf 16) [.t 30, .t 31]), io 33 (.pick (.t 29) (ib true) (.t 32)), im 34 33, ih 34 35 (.fla 0 (.t 5)), ih 34 36 (.ld 1 false (.t 35)), ih 34 37 (.bin .lss (.t 36) (ik 1)), io 38 (.pick (.t 34) (ib true) (.t 37))]) (.cond (.t 38) (.seq (.reg [jm 6 2]) .ret) .skip)) (.seq (.reg [im 39 1, io 40 (.call (jf 17) [.t 39]), im 8 40]) (.seq (.reg [im 42 0, io 43 (.nck (.t 42)), io 44 (.fla 2 (.t 43)), io 45 (.ld 1 false (.t 44)), im 46 8, io 47 (.lkp (.one .str) (.agg [.sl .full [], .sc (.int .i64 0), .sc (.int .i64 0), .sc (.int .i64 0), .sc (.int .i64 0), .sc (.int .i64 0), .sc (.int .i64 0), .sc (.int .i64 0), .sc (.int .i64 0), .sc (.int .i64 0), .sc (.int .i64 0)]) true (.t 45) (.t 46)), im 41 47, io 48 (.ext (.t 41) 0), io 49 (.ext (.t 41) 1), io 9 (.box 38 (.c za0)), iz (.st 11 (.t 9) (.t 48)), im 10 49]) (.seq (.seq (.drw [ip (im 50 10), ip (io 51 (.un .not (.t 50))), ip (im 52 51), ip (ig 52 53 (.mv (.t 0))), ip (ig 52 54 (.nck (.t 53))), ip (ig 52 55 (.fla 2 (.t 54))), ip (ig 52 56 (.ld 1 false (.t 55))), ip (ig 52 57 (.mln (.t 56))), ip (ig 52 58 (.mv (.t 0))), ip (ig 52 59 (.nck (.t 58))), ip (ig 52 60 (.fla 1 (.t 59))), ip (ig 52 61 (.ld 1 false (.t 60))), ip (ig 52 62 (.bin .geq (.t 57) (.t 61))), ip (io 63 (.pick (.t 52) (.t 62) (ib false)))]) (.cond (.t 63) (.seq (.reg [jm 6 6]) .ret) .skip)) (.seq (.reg [io 65 (.fla 1 (.t 9)), io 66 (.ld 10 true (.t 65)), io 67 (.ld 10 true (.t 5)), io 68 (.call (jf 18) [.t 66, .t 67]), im 64 68, io 69 (.ext (.t 64) 0), io 70 (.ext (.t 64) 1), io 11 (.box 36 (.c za2)), iz (.st 10 (.t 11) (.t 69)), im 12 70]) (.seq (.seq (.reg [im 71 12, io 72 (.un .not (.t 71))]) (.cond (.t 72) (.seq (.reg [jm 6 12]) .ret) .skip)) (.seq (.drw [ip (im 73 0), ip (io 74 (.nck (.t 73))), ip (io 75 (.fla 2 (.t 74))), ip (io 76 (.ld 1 false (.t 75))), ip (im 77 8), ip (im 78 1), ip (io 80 (.ld 10 true (.t 11))), (io 79 (.call (jf 19) [.t 78]), [io 76 (.ld 1 false (.t 75)), io 80 (.ld 10 true (.t 11))]), ip (io 81 (.bld zl3 [(0, (1, .t 79)), (1, (10, .t 80))])), ip (iz (.mup (.one .str) (.t 76) (.t 77) (.t 81)))]) (.seq (.reg [jm 6 0]) .ret))))))))))
theorem cf10 : cFn Try.prog eqT 10 = some (c10_0, [(.tmp 6)], 82) := by kernel_rfl
def c11_1 : ACode := .blk 0 (.loop (.seq (.reg [io 14 (.bin .lss (.t 13) (.t 12))]) (.seq (.cond (.t 14) .skip (.exit 0)) (.seq (.blk 1 (.seq (.reg [im 15 13, im 5 15]) (.seq (.drw [ip (im 16 0), ip (im 17 5), ip (io 18 (.ixa 11 (.t 16) (.t 17))), ip (io 19 (.fla 1 (.t 18))), ip (io 20 (.ld 10 true (.t 19))), ip (im 21 1), ip (im 22 5), ip (io 23 (.ixa 11 (.t 21) (.t 22))), ip (io 24 (.fla 1 (.t 23))), ip (io 25 (.ld 10 true (.t 24))), ip (io 26 (.eqf [.int .i64, .int .i64, .int .i64, .int .i64, .int .i64, .int .i64, .int .i64, .int .i64, .int .i64, .int .i64] true (.t 20) (.t 25))), ip (im 27 26), ip (ih 27 28 (.mv (.t 0))), ip (ih 27 29 (.mv (.t 5))), ip (ih 27 30 (.ixa 11 (.t 28) (.t 29))), ip (ih 27 31 (.ld 11 true (.t 30))), ip (ih 27 32 (.mv (.t 1))), ip (ih 27 33 (.mv (.t 5))), ip (ih 27 34 (.ixa 11 (.t 32) (.t 33))), ip (ih 27 35 (.ld 11 true (.t 34))), ip (ih 27 36 (.call (jf 20) [.t 31, .t 35])), ip (io 37 (.pick (.t 27) (ib true) (.t 36))), ip (im 38 37), ip (ih 38 39 (.mv (.t 1))), ip (ih 38 40 (.mv (.t 5))), ip (ih 38 41 (.ixa 11 (.t 39) (.t 40))), ip (ih 38 42 (.ld 11 true (.t 41))), ip (ih 38 43 (.mv (.t 0))), ip (ih 38 44 (.mv (.t 5))), ip (ih 38 45 (.ixa 11 (.t 43) (.t 44))), ip (ih 38 46 (.ld 11 true (.t 45))), ip (ih 38 47 (.call (jf 20) [.t 42, .t 46])), ip (io 48 (.pick (.t 38) (ib true) (.t 47)))]) (.cond (.t 48) (.seq (.reg [io 4 (.mv (ib false))]) .ret) .skip)))) (.reg [io 49 (.bin .add (.t 13) (ik 1)), im 13 49])))))
def c11_0 : ACode := .seq (.reg [io 4 (.mv (ib false))]) (.seq (.seq (.reg [im 6 0, io 7 (.len false (.t 6)), im 8 1, io 9 (.len false (.t 8)), io 10 (.bin .neq (.t 7) (.t 9))]) (.cond (.t 10) (.seq (.reg [io 4 (.mv (ib false))]) .ret) .skip)) (.seq (.seq (.reg [im 11 0, io 12 (.len false (.t 11)), jm 13 0]) c11_1) (.seq (.reg [io 4 (.mv (ib true))]) .ret)))
theorem cf11 : cFn Try.prog eqT 11 = some (c11_0, [(.tmp 4)], 50) := by kernel_rfl
def c12_1 : ACode := .blk 0 (.loop (.seq (.reg [io 17 (.bin .lss (.t 16) (.t 15))]) (.seq (.cond (.t 17) .skip (.exit 0)) (.seq (.blk 1 (.seq (.reg [io 18 (.ixa 1 (.t 14) (.t 16)), io 19 (.ld 1 false (.t 18)), im 5 19]) (.seq (.reg [im 20 0, io 21 (.nck (.t 20)), io 22 (.fla 2 (.t 21)), io 23 (.ld 1 false (.t 22)), im 24 5, io 25 (.lkp (.one .str) (.agg [.sl .full [], .sc (.int .i64 0), .sc (.int .i64 0), .sc (.int .i64 0), .sc (.int .i64 0), .sc (.int .i64 0), .sc (.int .i64 0), .sc (.int .i64 0), .sc (.int .i64 0), .sc (.int .i64 0), .sc (.int .i64 0)]) false (.t 23) (.t 24)), io 6 (.box 38 (.c za0)), iz (.st 11 (.t 6) (.t 25))]) (.drw [ip (im 26 3), ip (io 27 (.fla 0 (.t 6))), ip (io 28 (.ld 1 false (.t 27))), ip (io 30 (.fla 1 (.t 6))), ip (io 31 (.ld 10 true (.t 30))), (io 29 (.call (jf 19) [.t 28]), [io 31 (.ld 10 true (.t 30))]), ip (io 32 (.bld zl3 [(0, (1, .t 29)), (1, (10, .t 31))])), ip (io 33 (.bsl 11 [.t 32])), ip (io 34 (.app 38 11 104 (.t 26) (.t 33))), ip (im 3 34)])))) (.reg [io 35 (.bin .add (.t 16) (ik 1)), im 16 35])))))
def c12_0 : ACode := .seq (.reg [io 2 (.mv jn)]) (.seq (.seq (.reg [im 7 0, io 8 (.eqn 0 false (.t 7) (.c (.sc (.pointer none))))]) (.cond (.t 8) (.seq (.reg [io 2 (.mv jn)]) .ret) .skip)) (.seq (.reg [io 3 (.mv jn)]) (.seq (.seq (.reg [im 9 0, io 10 (.nck (.t 9)), io 11 (.fla 2 (.t 10)), io 12 (.ld 1 false (.t 11)), io 13 (.call (jf 22) [.t 12]), io 14 (.call (jf 21) [.t 13]), io 15 (.len false (.t 14)), jm 16 0]) c12_1) (.seq (.reg [im 36 3, im 2 36]) .ret))))
theorem cf12 : cFn Try.prog eqT 12 = some (c12_0, [(.tmp 2)], 37) := by kernel_rfl
def c15_0 : ACode := .seq (.reg [io 2 (.mv (ib false))]) (.seq (.reg [im 3 0, io 4 (.bin .lss (.t 3) (ik 0)), im 2 4]) .ret)
theorem cf15 : cFn Try.prog eqT 15 = some (c15_0, [(.tmp 2)], 5) := by kernel_rfl
def c16_0 : ACode := .seq (.reg [io 4 (.mv (ib false))]) (.seq (.reg [im 5 0, im 6 1, io 7 (.call (jf 25) [.t 5, .t 6]), io 8 (.bin .geq (.t 7) (ik 0)), im 4 8]) .ret)
theorem cf16 : cFn Try.prog eqT 16 = some (c16_0, [(.tmp 4)], 9) := by kernel_rfl
def c17_1 : ACode := .blk 0 (.loop (.seq (.reg [io 9 (.bin .lss (.t 8) (.t 7))]) (.seq (.cond (.t 9) .skip (.exit 0)) (.seq (.blk 1 (.seq (.reg [io 10 (.ixa 1 (.t 6) (.t 8)), io 11 (.ld 1 false (.t 10)), im 5 11]) (.reg [im 12 3, im 13 5, io 14 (.cnv .u64 (.t 13)), io 15 (.bsl 1 [.t 14]), io 16 (.app 66 1 8 (.t 12) (.t 15)), im 3 16]))) (.reg [io 17 (.bin .add (.t 8) (ik 1)), im 8 17])))))
def c17_0 : ACode := .seq (.reg [io 2 (.mv (.c (.sc (.string ⟨#[]⟩))))]) (.seq (.reg [io 3 (.mv jn)]) (.seq (.seq (.reg [im 6 0, io 7 (.len false (.t 6)), jm 8 0]) c17_1) (.seq (.reg [im 18 3, io 19 (.call (jf 26) [.t 18]), im 2 19]) .ret)))
theorem cf17 : cFn Try.prog eqT 17 = some (c17_0, [(.tmp 2)], 20) := by kernel_rfl
def c18_1 : ACode := .blk 1 (.loop (.seq (.reg [io 33 (.bin .lss (.t 32) (ik 3))]) (.seq (.cond (.t 33) .skip (.exit 1)) (.seq (.blk 2 (.seq (.reg [im 34 32, im 8 34]) (.seq (.drw [ip (im 36 8), ip (im 37 8), ip (io 38 (.fla 1 (.t 2))), ip (io 39 (.ixA 3 3 (.t 38) (.t 37))), ip (io 40 (.ld 3 true (.t 39))), ip (im 41 8), ip (io 42 (.fla 1 (.t 3))), ip (io 43 (.ixA 3 3 (.t 42) (.t 41))), ip (io 44 (.ld 3 true (.t 43))), ip (io 48 (.fla 1 (.t 6))), ip (io 45 (.call (jf 28) [.t 40, .t 44])), ip (im 35 45), ip (io 46 (.ext (.t 35) 0)), ip (io 47 (.ext (.t 35) 1)), ip (io 49 (.ixA 3 3 (.t 48) (.t 36))), ip (iz (.st 3 (.t 49) (.t 46))), ip (im 7 47)]) (.seq (.reg [im 50 7, io 51 (.un .not (.t 50))]) (.cond (.t 51) (.seq (.reg [io 52 (.bld zl1 []), iz (.st 10 (.t 4) (.t 52)), io 5 (.mv (ib false))]) .ret) .skip))))) (.reg [io 53 (.bin .add (.t 32) (ik 1)), im 32 53])))))
def c18_0 : ACode := .seq (.reg [io 2 (.box 36 (.t 0)), io 3 (.box 36 (.t 1)), io 4 (.box 36 (.c za2)), io 5 (.mv (ib false))]) (.seq (.blk 0 (.seq (.reg [io 10 (.fla 0 (.t 2)), io 11 (.ld 1 false (.t 10)), io 12 (.bin .eql (.t 11) (ik 0)), im 9 12]) (.cond (.t 9) (.seq (.reg [io 13 (.ld 10 true (.t 3)), iz (.st 10 (.t 4) (.t 13)), io 5 (.mv (ib true))]) .ret) (.seq (.reg [io 15 (.fla 0 (.t 3)), io 16 (.ld 1 false (.t 15)), io 17 (.bin .eql (.t 16) (ik 0)), im 14 17]) (.cond (.t 14) (.seq (.reg [io 18 (.ld 10 true (.t 2)), iz (.st 10 (.t 4) (.t 18)), io 5 (.mv (ib true))]) .ret) .skip))))) (.seq (.reg [io 19 (.bld zl1 []), io 6 (.box 36 (.c za2)), iz (.st 10 (.t 6) (.t 19))]) (.seq (.reg [io 7 (.mv (ib true))]) (.seq (.seq (.reg [io 21 (.fla 0 (.t 2)), io 22 (.ld 1 false (.t 21)), io 23 (.fla 0 (.t 3)), io 24 (.ld 1 false (.t 23)), io 25 (.call (jf 27) [.t 22, .t 24]), im 20 25, io 26 (.ext (.t 20) 0), io 27 (.ext (.t 20) 1), io 28 (.fla 0 (.t 6)), iz (.st 1 (.t 28) (.t 26)), im 7 27]) (.seq (.reg [im 29 7, io 30 (.un .not (.t 29))]) (.cond (.t 30) (.seq (.reg [io 31 (.bld zl1 []), iz (.st 10 (.t 4) (.t 31)), io 5 (.mv (ib false))]) .ret) .skip))) (.seq (.seq (.reg [jm 32 0]) c18_1) (.seq (.reg [io 54 (.ld 10 true (.t 6)), iz (.st 10 (.t 4) (.t 54)), io 5 (.mv (ib true))]) .ret))))))
theorem cf18 : cFn Try.prog eqT 18 = some (c18_0, [(.cell 10 true 4), (.tmp 5)], 55) := by kernel_rfl
def c19_0 : ACode := .seq (.reg [io 2 (.mv jn)]) (.seq (.seq (.reg [im 3 0, io 4 (.eqs false (.t 3))]) (.cond (.t 4) (.seq (.reg [io 2 (.mv jn)]) .ret) .skip)) (.seq (.reg [io 5 (.bsl 1 []), im 6 0, io 7 (.app 3 1 8 (.t 5) (.t 6)), im 2 7]) .ret))
theorem cf19 : cFn Try.prog eqT 19 = some (c19_0, [(.tmp 2)], 8) := by kernel_rfl
def c20_1 : ACode := .blk 0 (.loop (.seq (.seq (.reg [im 6 5, io 7 (.fla 0 (.t 2)), io 8 (.ld 1 false (.t 7)), io 9 (.len false (.t 8)), io 10 (.bin .lss (.t 6) (.t 9)), im 11 10, ig 11 12 (.mv (.t 5)), ig 11 13 (.fla 0 (.t 3)), ig 11 14 (.ld 1 false (.t 13)), ig 11 15 (.len false (.t 14)), ig 11 16 (.bin .lss (.t 12) (.t 15)), io 17 (.pick (.t 11) (.t 16) (ib false))]) (.cond (.t 17) .skip (.exit 0))) (.seq (.blk 1 (.seq (.drw [ip (io 20 (.fla 0 (.t 2))), ip (io 21 (.ld 1 false (.t 20))), ip (im 22 5), ip (io 23 (.ixa 1 (.t 21) (.t 22))), ip (io 24 (.ld 1 false (.t 23))), ip (io 25 (.fla 0 (.t 3))), ip (io 26 (.ld 1 false (.t 25))), ip (im 27 5), ip (io 28 (.ixa 1 (.t 26) (.t 27))), ip (io 29 (.ld 1 false (.t 28))), ip (io 30 (.bin .neq (.t 24) (.t 29)))]) (.cond (.t 30) (.seq (.drw [ip (io 31 (.fla 0 (.t 2))), ip (io 32 (.ld 1 false (.t 31))), ip (im 33 5), ip (io 34 (.ixa 1 (.t 32) (.t 33))), ip (io 35 (.ld 1 false (.t 34))), ip (io 36 (.fla 0 (.t 3))), ip (io 37 (.ld 1 false (.t 36))), ip (im 38 5), ip (io 39 (.ixa 1 (.t 37) (.t 38))), ip (io 40 (.ld 1 false (.t 39))), ip (io 41 (.bin .lss (.t 35) (.t 40))), ip (im 4 41)]) .ret) .skip))) (.reg [im 18 5, io 19 (.bin .add (.t 18) (ik 1)), im 5 19]))))
def c20_0 : ACode := .seq (.reg [io 2 (.box 38 (.t 0)), io 3 (.box 38 (.t 1)), io 4 (.mv (ib false))]) (.seq (.seq (.reg [jm 5 0]) c20_1) (.seq (.reg [io 42 (.fla 0 (.t 2)), io 43 (.ld 1 false (.t 42)), io 44 (.len false (.t 43)), io 45 (.fla 0 (.t 3)), io 46 (.ld 1 false (.t 45)), io 47 (.len false (.t 46)), io 48 (.bin .lss (.t 44) (.t 47)), im 4 48]) .ret))
theorem cf20 : cFn Try.prog eqT 20 = some (c20_0, [(.tmp 4)], 49) := by kernel_rfl
def c22_0 : ACode := .seq (.reg [io 1 (.box 46 (.t 0)), io 2 (.mv (.c (.sc .nilFunc)))]) (.seq (.reg [io 3 (.mkf 31 [] [.t 1]), im 2 3]) .ret)
theorem cf22 : cFn Try.prog eqT 22 = some (c22_0, [(.tmp 2)], 4) := by kernel_rfl
def c24_2 : ACode := .blk 2 (.loop (.seq (.seq (.drw [ip (im 16 6), ip (io 17 (.bin .gtr (.t 16) (ik 0))), ip (im 18 17), ip (ig 18 19 (.ld 11 true (.t 5))), ip (ig 18 20 (.mv (.t 3))), ip (ig 18 21 (.mv (.t 6))), ip (ig 18 22 (.bin .sub (.t 21) (ik 1))), ip (ig 18 23 (.ixa 11 (.t 20) (.t 22))), ip (ig 18 24 (.ld 11 true (.t 23))), ip (ig 18 25 (.call (jf 20) [.t 19, .t 24])), ip (io 26 (.pick (.t 18) (.t 25) (ib false)))]) (.cond (.t 26) .skip (.exit 2))) (.blk 3 (.reg [im 27 6, io 28 (.bin .sub (.t 27) (ik 1)), im 6 28]))))
def c24_1 : ACode := .blk 0 (.loop (.seq (.reg [io 11 (.bin .lss (.t 10) (.t 9))]) (.seq (.cond (.t 11) .skip (.exit 0)) (.seq (.blk 1 (.seq (.reg [io 12 (.ixa 11 (.t 8) (.t 10)), io 13 (.ld 11 true (.t 12)), io 5 (.box 38 (.c za0)), iz (.st 11 (.t 5) (.t 13))]) (.seq (.reg [im 14 3, io 15 (.len false (.t 14)), im 6 15]) (.seq c24_2 (.seq (.reg [io 29 (.bsl 11 []), im 30 3, im 31 6, io 32 (.slc 11 (.t 30) none (some (.t 31)) none), io 33 (.app 38 11 104 (.t 29) (.t 32)), im 7 33]) (.seq (.reg [im 34 7, io 35 (.ld 11 true (.t 5)), io 36 (.bsl 11 [.t 35]), io 37 (.app 38 11 104 (.t 34) (.t 36)), im 7 37]) (.reg [im 38 7, im 39 3, im 40 6, io 41 (.slc 11 (.t 39) (some (.t 40)) none none), io 42 (.app 38 11 104 (.t 38) (.t 41)), im 3 42]))))))) (.reg [io 43 (.bin .add (.t 10) (ik 1)), im 10 43])))))
def c24_0 : ACode := .seq (.reg [io 2 (.mv jn)]) (.seq (.reg [io 3 (.mv jn)]) (.seq (.seq (.reg [im 8 0, io 9 (.len false (.t 8)), jm 10 0]) c24_1) (.seq (.reg [im 44 3, im 2 44]) .ret)))
theorem cf24 : cFn Try.prog eqT 24 = some (c24_0, [(.tmp 2)], 45) := by kernel_rfl
def c25_1 : ACode := .blk 0 (.loop (.seq (.reg [io 9 (.bin .lss (.t 8) (.t 7))]) (.seq (.cond (.t 9) .skip (.exit 0)) (.seq (.blk 1 (.seq (.reg [im 10 8, im 5 10]) (.seq (.reg [im 11 1, im 12 0, im 13 5, io 14 (.ixa 1 (.t 12) (.t 13)), io 15 (.ld 1 false (.t 14)), io 16 (.call (.t 11) [.t 15])]) (.cond (.t 16) (.seq (.reg [im 17 5, im 4 17]) .ret) .skip)))) (.reg [io 18 (.bin .add (.t 8) (ik 1)), im 8 18])))))
def c25_0 : ACode := .seq (.reg [jm 4 0]) (.seq (.seq (.reg [im 6 0, io 7 (.len false (.t 6)), jm 8 0]) c25_1) (.seq (.reg [jm 4 (-1)]) .ret))
theorem cf25 : cFn Try.prog eqT 25 = some (c25_0, [(.tmp 4)], 19) := by kernel_rfl
def c26_1 : ACode := .blk 0 (.loop (.seq (.reg [io 9 (.bin .lss (.t 8) (.t 7))]) (.seq (.cond (.t 9) .skip (.exit 0)) (.seq (.blk 1 (.seq (.reg [io 10 (.ixa 1 (.t 6) (.t 8)), io 11 (.ld 1 false (.t 10)), im 5 11]) (.reg [im 12 3, im 13 5, io 14 (.call (jf 33) [.t 13]), io 15 (.bin .add (.t 12) (.t 14)), im 3 15]))) (.reg [io 16 (.bin .add (.t 8) (ik 1)), im 8 16])))))
def c26_0 : ACode := .seq (.reg [io 2 (.mv (.c (.sc (.string ⟨#[]⟩))))]) (.seq (.reg [io 3 (.mv (.c (.sc (.string ⟨#[]⟩))))]) (.seq (.seq (.reg [im 6 0, io 7 (.len false (.t 6)), jm 8 0]) c26_1) (.seq (.reg [im 17 3, im 2 17]) .ret)))
theorem cf26 : cFn Try.prog eqT 26 = some (c26_0, [(.tmp 2)], 18) := by kernel_rfl
def c27_0 : ACode := .seq (.reg [jm 4 0, io 5 (.mv (ib false))]) (.seq (.seq (.reg [im 6 1, io 7 (.bin .gtr (.t 6) (ik 0)), im 8 7, ig 8 9 (.mv (.t 0)), ig 8 10 (.mv (.t 1)), ig 8 11 (.bin .sub (ik 9223372036854775807) (.t 10)), ig 8 12 (.bin .gtr (.t 9) (.t 11)), io 13 (.pick (.t 8) (.t 12) (ib false)), im 14 13, ih 14 15 (.mv (.t 1)), ih 14 16 (.bin .lss (.t 15) (ik 0)), ih 14 17 (.mv (.t 16)), ig 17 18 (.mv (.t 0)), ig 17 19 (.mv (.t 1)), ig 17 20 (.bin .sub (ik (-9223372036854775808)) (.t 19)), ig 17 21 (.bin .lss (.t 18) (.t 20)), ih 14 22 (.pick (.t 17) (.t 21) (ib false)), io 23 (.pick (.t 14) (ib true) (.t 22))]) (.cond (.t 23) (.seq (.reg [jm 4 0, io 5 (.mv (ib false))]) .ret) .skip)) (.seq (.reg [im 24 0, im 25 1, io 26 (.bin .add (.t 24) (.t 25)), im 4 26, io 5 (.mv (ib true))]) .ret))
theorem cf27 : cFn Try.prog eqT 27 = some (c27_0, [(.tmp 4), (.tmp 5)], 27) := by kernel_rfl
def c28_0 : ACode := .seq (.reg [io 2 (.box 33 (.t 0)), io 3 (.box 33 (.t 1)), io 4 (.box 33 (.c za4)), io 5 (.mv (ib false))]) (.seq (.reg [io 9 (.fla 0 (.t 2)), io 10 (.ld 1 false (.t 9)), io 11 (.fla 0 (.t 3)), io 12 (.ld 1 false (.t 11)), io 13 (.call (jf 27) [.t 10, .t 12]), im 8 13, io 14 (.ext (.t 8) 0), io 15 (.ext (.t 8) 1), im 6 14, im 7 15]) (.seq (.reg [im 16 6, io 17 (.fla 1 (.t 2)), io 18 (.ld 1 false (.t 17)), io 19 (.fla 1 (.t 3)), io 20 (.ld 1 false (.t 19)), io 21 (.mm false (.t 18) (.t 20)), io 22 (.fla 2 (.t 2)), io 23 (.ld 1 false (.t 22)), io 24 (.fla 2 (.t 3)), io 25 (.ld 1 false (.t 24)), io 26 (.mm true (.t 23) (.t 25)), io 27 (.bld [.sc (.int .i64 0), .sc (.int .i64 0), .sc (.int .i64 0)] [(0, (1, .t 16)), (1, (1, .t 21)), (2, (1, .t 26))]), im 28 7, iz (.st 3 (.t 4) (.t 27)), im 5 28]) .ret))
theorem cf28 : cFn Try.prog eqT 28 = some (c28_0, [(.cell 3 true 4), (.tmp 5)], 29) := by kernel_rfl
def c33_1 : ACode := .blk 0 (.loop (.seq (.seq (.reg [im 10 5, io 11 (.bin .geq (.t 10) (ik 0))]) (.cond (.t 11) .skip (.exit 0))) (.seq (.blk 1 (.seq (.reg [im 14 5, im 15 0, io 16 (.cnv .u8 (.t 15)), io 17 (.ixA 9 1 (.t 4) (.t 14)), iz (.st 1 (.t 17) (.t 16))]) (.reg [im 18 0, io 19 (.bin .shr (.t 18) (.c (.sc (.int .u64 8)))), im 0 19]))) (.reg [im 12 5, io 13 (.bin .sub (.t 12) (ik 1)), im 5 13]))))
def c33_0 : ACode := .seq (.reg [io 2 (.mv (.c (.sc (.string ⟨#[]⟩))))]) (.seq (.reg [im 6 0, io 7 (.call (jf 39) [.t 6]), im 3 7]) (.seq (.reg [io 4 (.box 82 (.c za5))]) (.seq (.seq (.reg [im 8 3, io 9 (.bin .sub (.t 8) (ik 1)), im 5 9]) c33_1) (.seq (.seq (.reg [im 20 3, io 21 (.bin .lss (.t 20) (ik 9))]) (.cond (.t 21) (.drw [ip (io 22 (.ixA 9 1 (.t 4) (ik 0))), ip (io 23 (.ld 1 false (.t 22))), ip (im 24 3), (io 25 (.call (jf 40) [.t 24]), [io 23 (.ld 1 false (.t 22))]), ip (io 26 (.bin .or (.t 23) (.t 25))), ip (io 27 (.ixA 9 1 (.t 4) (ik 0))), ip (iz (.st 1 (.t 27) (.t 26)))]) (.reg [im 28 3, io 29 (.call (jf 40) [.t 28]), io 30 (.ixA 9 1 (.t 4) (ik 0)), iz (.st 1 (.t 30) (.t 29))]))) (.seq (.reg [im 31 3, io 32 (.sla 9 1 (.t 4) none (some (.t 31)) none), io 33 (.sob (.t 32)), im 2 33]) .ret)))))
theorem cf33 : cFn Try.prog eqT 33 = some (c33_0, [(.tmp 2)], 34) := by kernel_rfl
def c39_1 : ACode := .blk 0 (.loop (.seq (.seq (.reg [im 4 3, io 5 (.bin .lss (.t 4) (ik 9))]) (.cond (.t 5) .skip (.exit 0))) (.seq (.blk 1 (.seq (.reg [im 8 0, im 9 3, io 10 (.bin .mul (ik 7) (.t 9)), io 11 (.bin .shr (.t 8) (.t 10)), io 12 (.bin .eql (.t 11) (.c (.sc (.int .u64 0))))]) (.cond (.t 12) (.seq (.reg [im 13 3, im 2 13]) .ret) .skip))) (.reg [im 6 3, io 7 (.bin .add (.t 6) (ik 1)), im 3 7]))))
def c39_0 : ACode := .seq (.reg [jm 2 0]) (.seq (.seq (.reg [jm 3 1]) c39_1) (.seq (.reg [jm 2 9]) .ret))
theorem cf39 : cFn Try.prog eqT 39 = some (c39_0, [(.tmp 2)], 14) := by kernel_rfl
def c40_0 : ACode := .seq (.reg [io 2 (.mv (.c (.sc (.int .u8 0))))]) (.seq (.reg [im 3 0, io 4 (.bin .sub (ik 9) (.t 3)), io 5 (.bin .shl (.c (.sc (.int .u8 255))) (.t 4)), im 2 5]) .ret)
theorem cf40 : cFn Try.prog eqT 40 = some (c40_0, [(.tmp 2)], 6) := by kernel_rfl
theorem AV_i {a b : Int} (h : a = b) : AV.i a = AV.i b := by rw [h]
abbrev U64v (n : Nat) : AV := .sc (.int .u64 (n : Int))
theorem szN_le {n s : Nat} (h1 : 1 ≤ s) (h8 : s ≤ 8) : szN n ≤ s ↔ n < 2 ^ (7 * s) := by
 have h := szN_cases n
 obtain rfl | rfl | rfl | rfl | rfl | rfl | rfl | rfl : s = 1 ∨ s = 2 ∨ s = 3 ∨ s = 4 ∨ s = 5 ∨ s = 6 ∨ s = 7 ∨ s = 8 := by omega
 all_goals simp only [Nat.reduceMul, Nat.reducePow]; omega
theorem first_val {s : Nat} (h1 : 1 ≤ s) (h9 : s ≤ 9) : IntKind.u8.wrap (255 * 2 ^ min (9 - (s : Int)).toNat IntKind.u8.bits) = ((256 - 2 ^ (9 - s) : Nat) : Int) := by
 obtain rfl | rfl | rfl | rfl | rfl | rfl | rfl | rfl | rfl : s = 1 ∨ s = 2 ∨ s = 3 ∨ s = 4 ∨ s = 5 ∨ s = 6 ∨ s = 7 ∨ s = 8 ∨ s = 9 := by omega
 all_goals decide
theorem shr_val {n s : Nat} (h : s ≤ 64) : (n : Int).fdiv (2 ^ min s IntKind.u64.bits) = ((n / 2 ^ s : Nat) : Int) := by
 rw [Nat.min_eq_left (by exact h), show ((2 : Int) ^ s) = ((2 ^ s : Nat) : Int) by push_cast; rfl, Int.fdiv_eq_ediv_of_nonneg _ (Int.natCast_nonneg _)]
 rfl
set_option maxHeartbeats 1000000 in
theorem first_sound (s : Nat) (h1 : 1 ≤ s) (h9 : s ≤ 9) (H : AHeap) : Sound Try.prog 40 [.i (s : Int)] H (Pure H (.sc (.int .u8 ((256 - 2 ^ (9 - s) : Nat) : Int)))) := by
 have hv := first_val h1 h9
 have hi : ¬ (9 - (s : Int) < 0) := by omega
 refine fn_soundQ hE cf40 (Nat.le_of_ble_eq_true rfl) fun Q hQr hQn => ?_
 ((have hd := trivial; repeat' (first | ((first | apply GdK_st | apply GdK_sf | apply CondK_s) <;> intro hd <;> (try simp only [hd])) | simp (disch := first | assumption | omega | (simp only [nx] <;> omega) | fail) only [hd, hQr, hQn, c40_0, ↓YA, YB, YC, YE, YF, YZ, ↓reduceIte, Nat.reduceEqDiff, Nat.reduceAdd, Nat.reduceMul, Nat.reduceLeDiff, Int.reduceToNat, Int.reduceLE, Int.reduceLT, Int.reduceGT, Int.reduceGE, Int.reduceAdd, Int.reduceSub, Int.reduceNeg, Int.reduceBEq, Int.reduceBNe, if_neg hi, Option.map_some, hv])) <;> (try (have hd_ : True := hd; clear hd_ hd)))
 refine fin_pA (by rfl)
set_option maxHeartbeats 1000000 in
theorem size_sound (n : Nat) (hn : n < 18446744073709551616) (H : AHeap) : Sound Try.prog 39 [U64v n] H (Pure H (.i (szN n : Int))) := by
 have hc := szN_cases n
 refine fn_soundQ hE cf39 (Nat.le_of_ble_eq_true rfl) fun Q hQr hQn => ?_
 ((have hd := trivial; repeat' (first | ((first | apply GdK_st | apply GdK_sf | apply CondK_s) <;> intro hd <;> (try simp only [hd])) | simp (disch := first | assumption | omega | (simp only [nx] <;> omega) | fail) only [hd, hQr, hQn, c39_0, ↓YA, YB, YC, YE, YF, YZ, ↓reduceIte, Nat.reduceEqDiff, Nat.reduceAdd, Nat.reduceMul, Nat.reduceLeDiff, Int.reduceToNat, Int.reduceLE, Int.reduceLT, Int.reduceGT, Int.reduceGE, Int.reduceAdd, Int.reduceSub, Int.reduceNeg, Int.reduceBEq, Int.reduceBNe])) <;> (try (have hd_ : True := hd; clear hd_ hd)))
 refine AW_lop [0] (σ := Nat) (fun s => 1 ≤ s ∧ s ≤ 9 ∧ s ≤ szN n) (fun s => 9 - s) (fun s => [(3, .i (s : Int))]) (fun s => []) 1 (GStep.refl _ _) (by simp only [keep_nil, keep_cons, Fr.put, Fr.get, ↓reduceIte, Nat.reduceEqDiff]; rfl) ?_ (by simp only [FrL_nil, FrL_cons, Fr.put, Fr.get, ↓reduceIte, Nat.reduceEqDiff, and_self] <;> simp) (by simp only [ObjL_nil]) ?_
 ·exact ⟨by omega, by omega, by omega⟩
 ·(rintro s G ⟨h1, h9, hs⟩ hG hn'; try simp only [nx] at hn')
  by_cases h8 : s < 9
  ·have d1 : decide ((s : Int) < 9) = true := decide_eq_true (by omega)
   have hi : ¬ (7 * (s : Int) < 0) := by omega
   have hv : (n : Int).fdiv (2 ^ min (7 * (s : Int)).toNat IntKind.u64.bits) = ((n / 2 ^ (7 * s) : Nat) : Int) := by
    rw [show (7 * (s : Int)).toNat = 7 * s by omega]; exact shr_val (by omega)
   have hle := szN_le (n := n) h1 (by omega)
   ((have hd := trivial; repeat' (first | ((first | apply GdK_st | apply GdK_sf | apply CondK_s) <;> intro hd <;> (try simp only [hd])) | simp (disch := first | assumption | omega | (simp only [nx] <;> omega) | fail) only [hd, hQr, hQn, c39_0, ↓YA, YB, YC, YE, YF, YZ, ↓reduceIte, Nat.reduceEqDiff, Nat.reduceAdd, Nat.reduceMul, Nat.reduceLeDiff, Int.reduceToNat, Int.reduceLE, Int.reduceLT, Int.reduceGT, Int.reduceGE, Int.reduceAdd, Int.reduceSub, Int.reduceNeg, Int.reduceBEq, Int.reduceBNe, d1, if_neg hi, Option.map_some, hv])) <;> (try (have hd_ : True := hd; clear hd_ hd)))
   ·have h0 : n / 2 ^ (7 * s) = 0 := by have := beq_iff_eq.1 hd; omega
    have h2 : n < 2 ^ (7 * s) := by rcases Nat.div_eq_zero_iff.1 h0 with h | h; exact absurd h (Nat.ne_of_gt (Nat.pow_pos (by omega))); exact h
    have h3 := hle.2 h2
    refine fin_iA (by rw [show szN n = s by omega])
   ·have h2 : ¬ n < 2 ^ (7 * s) := fun h => by rw [Nat.div_eq_of_lt h] at hd; simp at hd
    have h3 : ¬ szN n ≤ s := fun h => h2 (hle.1 h)
    refine ⟨s + 1, ⟨by omega, by omega, by omega⟩, by omega, AV_i (by push_cast; rfl), by exact HXT⟩
  ·have d1 : decide ((s : Int) < 9) = false := decide_eq_false (by omega)
   ((have hd := trivial; repeat' (first | ((first | apply GdK_st | apply GdK_sf | apply CondK_s) <;> intro hd <;> (try simp only [hd])) | simp (disch := first | assumption | omega | (simp only [nx] <;> omega) | fail) only [hd, hQr, hQn, c39_0, ↓YA, YB, YC, YE, YF, YZ, ↓reduceIte, Nat.reduceEqDiff, Nat.reduceAdd, Nat.reduceMul, Nat.reduceLeDiff, Int.reduceToNat, Int.reduceLE, Int.reduceLT, Int.reduceGT, Int.reduceGE, Int.reduceAdd, Int.reduceSub, Int.reduceNeg, Int.reduceBEq, Int.reduceBNe, d1])) <;> (try (have hd_ : True := hd; clear hd_ hd)))
   refine fin_iA (by rw [show szN n = 9 by omega]; rfl)
theorem or_val : ∀ s : Fin 9, ∀ x : Fin 256, 1 ≤ s.val → x.val < 2 ^ (8 - s.val) → IntKind.u8.wrap ((BitVec.ofInt IntKind.u8.bits (x.val : Int) ||| BitVec.ofInt IntKind.u8.bits ((256 - 2 ^ (9 - s.val) : Nat) : Int)).toNat : Int) = ((x.val + (256 - 2 ^ (9 - s.val)) : Nat) : Int) := by decide +kernel
theorem headN_eq (n : Nat) : headN n = n / 256 ^ (szN n - 1) + (256 - 2 ^ (9 - szN n)) := by
 rw [headN, codeN, Nat.add_mul_div_right _ _ (Nat.pow_pos (by omega))]
theorem top_lt {n : Nat} (h : szN n < 9) : n / 256 ^ (szN n - 1) < 2 ^ (8 - szN n) := by
 rcases szN_cases n with ⟨e, h⟩ | ⟨e, h, h'⟩ | ⟨e, h, h'⟩ | ⟨e, h, h'⟩ | ⟨e, h, h'⟩ | ⟨e, h, h'⟩ | ⟨e, h, h'⟩ | ⟨e, h, h'⟩ | ⟨e, h⟩
 all_goals (simp only [e, Nat.reduceSub, Nat.reducePow]; omega)
theorem putB_eq {n : Nat} (hn : n < 18446744073709551616) : putB n = UInt8.ofNat (headN n) :: be (szN n - 1) n := by
 rw [putB_head hn, be_congr (s := szN n - 1) (m := codeN n) (n := n) (by rw [codeN, Nat.add_mul_mod_self_right])]
theorem be_cons {n : Nat} : be (szN n) n = UInt8.ofNat (n / 256 ^ (szN n - 1) % 256) :: be (szN n - 1) n := by
 conv => lhs; rw [szN_pos n]
 rw [be]
theorem or_head {n : Nat} (hn : n < 18446744073709551616) (h : szN n < 9) : binSc .or (.int .u8 ((UInt8.ofNat (n / 256 ^ (szN n - 1) % 256)).toNat : Int)) (.int .u8 ((256 - 2 ^ (9 - szN n) : Nat) : Int)) = some (.int .u8 ((UInt8.ofNat (headN n)).toNat : Int)) := by
 have ht := top_lt h
 have h2 : 2 ^ (8 - szN n) ≤ 2 ^ 8 := Nat.pow_le_pow_right (by omega) (by omega)
 have h256 : n / 256 ^ (szN n - 1) < 256 := by simp only [Nat.reducePow] at h2; omega
 have hh := (headN_bd hn).2.1
 have hp : 1 ≤ szN n := by have := szN_cases n; omega
 have := or_val ⟨szN n, h⟩ ⟨n / 256 ^ (szN n - 1), h256⟩ hp ht
 rw [UInt8.toNat_ofNat', UInt8.toNat_ofNat', Nat.mod_mod, Nat.mod_eq_of_lt (by exact h256), Nat.mod_eq_of_lt (by exact hh), headN_eq]
 show some (Value.int .u8 _) = _
 exact congrArg (fun z => some (Value.int .u8 z)) this
abbrev e8 (b : UInt8) : AV := .sc (.int .u8 (b.toNat : Int))
def arrS (n s : Nat) : List AV := List.replicate (szN n - s) (.sc (.int .u8 0)) ++ (be s n).map e8 ++ List.replicate (9 - szN n) (.sc (.int .u8 0))
theorem arrS_zero (n : Nat) : [AV.sc (.int .u8 0), .sc (.int .u8 0), .sc (.int .u8 0), .sc (.int .u8 0), .sc (.int .u8 0), .sc (.int .u8 0), .sc (.int .u8 0), .sc (.int .u8 0), .sc (.int .u8 0)] = arrS n 0 := by
 have h := szN_cases n
 have : List.replicate (szN n) (AV.sc (.int .u8 0)) ++ List.replicate (9 - szN n) (AV.sc (.int .u8 0)) = List.replicate 9 (AV.sc (.int .u8 0)) := by
  rw [List.replicate_append_replicate, show szN n + (9 - szN n) = 9 by omega]
 simp only [arrS, be, List.map_nil, List.append_nil, Nat.sub_zero, this]
 rfl
theorem arrS_length {n s : Nat} (h : s ≤ szN n) : (arrS n s).length = 9 := by
 have := szN_cases n
 simp only [arrS, List.length_append, List.length_replicate, List.length_map, be_length]; omega
theorem arrS_step {n s : Nat} (h : s < szN n) : (arrS n s).set (szN n - 1 - s) (e8 (UInt8.ofNat (n / 256 ^ s % 256))) = arrS n (s + 1) := by
 rw [arrS, show szN n - s = (szN n - 1 - s) + 1 by omega, List.replicate_succ', List.append_assoc, List.append_assoc, List.set_append_right _ _ (by simp)]
 simp only [List.length_replicate, Nat.sub_self, List.cons_append, List.nil_append, List.set_cons_zero]
 rw [arrS, show szN n - (s + 1) = szN n - 1 - s by omega, be, List.map_cons, List.append_assoc, List.cons_append]
theorem chunk_bytes : ∀ (l : List UInt8) (tail : List AV), chunk 1 l.length (l.map e8 ++ tail) = l.map fun b => [e8 b]
 | [], _ => rfl
 | b :: l, tail => by
  rw [List.length_cons, chunk, List.map_cons, List.cons_append]
  simp only [List.take_succ_cons, List.take_zero, List.drop_succ_cons, List.drop_zero, List.map_cons, chunk_bytes l tail]
theorem bytesA_map : ∀ l : List UInt8, bytesA (l.map fun b => [e8 b]) = some (l.map fun b => (b.toNat : Int))
 | [] => rfl
 | b :: l => by
  rw [List.map_cons, bytesA, bytesA_map l]
  rfl
theorem foldl_push : ∀ (l : List UInt8) (a : Array UInt8), (l.map fun b => (b.toNat : Int)).foldl (fun (r : ByteArray) n => r.push (UInt8.ofNat n.toNat)) ⟨a⟩ = ⟨a ++ l.toArray⟩
 | [], a => by simp
 | b :: l, a => by
  rw [List.map_cons, List.foldl_cons, show (ByteArray.push ⟨a⟩ (UInt8.ofNat ((b.toNat : Int)).toNat)) = ⟨a.push b⟩ by simp [ByteArray.push], foldl_push l]
  simp
theorem strOf_map (l : List UInt8) : strOf (l.map fun b => (b.toNat : Int)) = ⟨l.toArray⟩ := by
 have h := foldl_push l #[]
 rw [strOf]; refine Eq.trans ?_ (h.trans (by simp)); rfl
theorem wrap_u8 (m : Nat) : IntKind.u8.wrap (m : Int) = ((UInt8.ofNat (m % 256)).toNat : Int) := by
 rw [UInt8.toNat_ofNat', Nat.mod_eq_of_lt (Nat.mod_lt _ (by omega))]
 simp [IntKind.wrap, IntKind.bits, IntKind.signed]
set_option maxHeartbeats 1000000 in
theorem put_sound (n : Nat) (hn : n < 18446744073709551616) (H : AHeap) : Sound Try.prog 33 [U64v n] H (Pure H (.sc (.string ⟨(putB n).toArray⟩))) := by
 have hc := szN_cases n
 have h0 := arrS_zero n
 refine fn_soundQ hE cf33 (Nat.le_of_ble_eq_true rfl) fun Q hQr hQn => ?_
 ((have hd := trivial; repeat' (first | ((first | apply GdK_st | apply GdK_sf | apply CondK_s) <;> intro hd <;> (try simp only [hd])) | simp (disch := first | assumption | omega | (simp only [nx] <;> omega) | fail) only [hd, hQr, hQn, c33_0, ↓YA, YB, YC, YE, YF, YZ, ↓reduceIte, Nat.reduceEqDiff, Nat.reduceAdd, Nat.reduceMul, Nat.reduceLeDiff, Int.reduceToNat, Int.reduceLE, Int.reduceLT, Int.reduceGT, Int.reduceGE, Int.reduceAdd, Int.reduceSub, Int.reduceNeg, Int.reduceBEq, Int.reduceBNe])) <;> (try (have hd_ : True := hd; clear hd_ hd)))
 (refine CallK.use (size_sound n hn _) ?_; rintro _ _ ⟨rfl, k1, rfl⟩)
 ((have hd := trivial; repeat' (first | ((first | apply GdK_st | apply GdK_sf | apply CondK_s) <;> intro hd <;> (try simp only [hd])) | simp (disch := first | assumption | omega | (simp only [nx] <;> omega) | fail) only [hd, hQr, hQn, c33_0, ↓YA, YB, YC, YE, YF, YZ, ↓reduceIte, Nat.reduceEqDiff, Nat.reduceAdd, Nat.reduceMul, Nat.reduceLeDiff, Int.reduceToNat, Int.reduceLE, Int.reduceLT, Int.reduceGT, Int.reduceGE, Int.reduceAdd, Int.reduceSub, Int.reduceNeg, Int.reduceBEq, Int.reduceBNe, za5, h0])) <;> (try (have hd_ : True := hd; clear hd_ hd)))
 refine AW_lop [3, 4] (σ := Nat) (fun s => s ≤ szN n) (fun s => szN n - s) (fun s => [(0, U64v (n / 256 ^ s)), (5, .i ((szN n : Int) - 1 - s))]) (fun s => [(H.next + k1, .cells (arrS n s) 82)]) 0 (GStep.refl _ _) (by simp only [keep_nil, keep_cons, Fr.put, Fr.get, ↓reduceIte, Nat.reduceEqDiff]; rfl) ?_ (by simp only [FrL_nil, FrL_cons, Fr.put, Fr.get, ↓reduceIte, Nat.reduceEqDiff, and_self] <;> simp) ?_ ?_
 ·omega
 ·rw [ObjL_cons, ObjL_nil]; exact ⟨AHeap.get_alloc_self (H := H.bump k1), trivial⟩
 ·(rintro s G hs hG hn'; try simp only [nx] at hn')
  have hgo : G.get (H.next + k1) = some (.cells (arrS n s) 82) := hG.o (_, _) (List.mem_singleton.2 rfl)
  have hlt := AHeap.lt hgo
  have hlen := arrS_length hs
  by_cases h8 : s < szN n
  ·have d1 : decide ((szN n : Int) - 1 - s ≥ 0) = true := decide_eq_true (by omega)
   have d2 : ((szN n : Int) - 1 - s).toNat = szN n - 1 - s := by omega
   have hin : 0 ≤ (szN n : Int) - 1 - s ∧ (szN n : Int) - 1 - s < ((9 : Nat) : Int) := by omega
   have hw : IntKind.u8.wrap ((n / 256 ^ s : Nat) : Int) = ((UInt8.ofNat (n / 256 ^ s % 256)).toNat : Int) := wrap_u8 _
   have hv : ((n / 256 ^ s : Nat) : Int).fdiv (2 ^ min 8 IntKind.u64.bits) = ((n / 256 ^ (s + 1) : Nat) : Int) := by
    rw [shr_val (by omega), Nat.div_div_eq_div_mul, ← Nat.pow_succ]
   have h88 : szN n - 1 - s ≤ 8 := by omega
   have hset : List.take (szN n - 1 - s) (arrS n s) ++ [e8 (UInt8.ofNat (n / 256 ^ s % 256))] ++ List.drop (szN n - 1 - s + 1) (arrS n s) = arrS n (s + 1) := by
    rw [← arrS_step h8, List.set_eq_take_append_cons_drop, if_pos (by omega)]; simp
   ((have hd := trivial; repeat' (first | ((first | apply GdK_st | apply GdK_sf | apply CondK_s) <;> intro hd <;> (try simp only [hd])) | simp (disch := first | assumption | omega | (simp only [nx] <;> omega) | fail) only [hd, hQr, hQn, c33_0, ↓YA, YB, YC, YE, YF, YZ, ↓reduceIte, Nat.reduceEqDiff, Nat.reduceAdd, Nat.reduceMul, Nat.reduceLeDiff, Int.reduceToNat, Int.reduceLE, Int.reduceLT, Int.reduceGT, Int.reduceGE, Int.reduceAdd, Int.reduceSub, Int.reduceNeg, Int.reduceBEq, Int.reduceBNe, hgo, d1, hlen, if_pos hin, d2, hw, hv, if_pos h88, hset])) <;> (try (have hd_ : True := hd; clear hd_ hd)))
   exact ⟨s + 1, by omega, by omega, ⟨rfl, AV_i (by push_cast; omega)⟩, hG.put⟩
  ·have d1 : decide ((szN n : Int) - 1 - s ≥ 0) = false := decide_eq_false (by omega)
   have h09 : (0 : Int) < ((9 : Nat) : Int) := by omega
   have he : s = szN n := by omega
   have hr : arrS n s = e8 (UInt8.ofNat (n / 256 ^ (szN n - 1) % 256)) :: ((be (szN n - 1) n).map e8 ++ List.replicate (9 - szN n) (.sc (.int .u8 0))) := by
    rw [arrS, he, Nat.sub_self, List.replicate_zero, List.nil_append, be_cons, List.map_cons, List.cons_append]
   obtain ⟨R, hR⟩ : ∃ R, R = (be (szN n - 1) n).map e8 ++ List.replicate (9 - szN n) (AV.sc (.int .u8 0)) := ⟨_, rfl⟩
   rw [hr, ← hR] at hgo
   rw [hr, ← hR] at hlen
   rw [← hR] at hr
   have h1 : 1 ≤ szN n := by omega
   have h9 : szN n ≤ 9 := by omega
   have h08 : (0 : Nat) ≤ 8 := by omega
   have hb1 : (0 : Int) ≤ (szN n : Int) := by omega
   have hb2 : 0 ≤ szN n ∧ szN n ≤ 9 ∧ 9 ≤ maxLen := ⟨by omega, h9, by unfold maxLen; omega⟩
   have hl9 : szN n ≤ R.length + 1 := by rw [List.length_cons] at hlen; omega
   have hpl : (putB n).length = szN n := by rw [putB, be_length]
   have hch : chunk 1 (szN n) (AV.sc (.int .u8 ((UInt8.ofNat (headN n)).toNat : Int)) :: R) = (putB n).map fun b => [e8 b] := by
    have h := chunk_bytes (putB n) (List.replicate (9 - szN n) (AV.sc (.int .u8 0)))
    rw [hpl] at h
    rw [← h, putB_eq hn, hR]; rfl
   have hx : ∀ (k : Nat) (o : AObj), AHeap.Ext H ((G.bump k).set (H.next + k1) o) := fun k o => ⟨by show H.next ≤ _; simp only [AHeap.next_set, AHeap.next_bump]; omega, fun i c hi => by
    have hl := AHeap.lt hi
    rw [AHeap.get_set_ne (by omega), AHeap.get_bump, hG.g i (by show i < H.next + k1 + 1; omega) (by simp; omega), AHeap.get_alloc_lt (by show i < H.next + k1; omega)]; exact hi⟩
   by_cases h10 : szN n < 9
   ·have d3 : decide ((szN n : Int) < 9) = true := decide_eq_true (by omega)
    have hor := or_head hn h10
    ((have hd := trivial; repeat' (first | ((first | apply GdK_st | apply GdK_sf | apply CondK_s) <;> intro hd <;> (try simp only [hd])) | simp (disch := first | assumption | omega | (simp only [nx] <;> omega) | fail) only [hd, hQr, hQn, c33_0, ↓YA, YB, YC, YE, YF, YZ, ↓reduceIte, Nat.reduceEqDiff, Nat.reduceAdd, Nat.reduceMul, Nat.reduceLeDiff, Int.reduceToNat, Int.reduceLE, Int.reduceLT, Int.reduceGT, Int.reduceGE, Int.reduceAdd, Int.reduceSub, Int.reduceNeg, Int.reduceBEq, Int.reduceBNe, hgo, d1, hlen, if_pos h09, d3])) <;> (try (have hd_ : True := hd; clear hd_ hd)))
    (refine CallK.use (first_sound (szN n) h1 h9 _) ?_; rintro _ _ ⟨rfl, k2, rfl⟩)
    ((have hd := trivial; repeat' (first | ((first | apply GdK_st | apply GdK_sf | apply CondK_s) <;> intro hd <;> (try simp only [hd])) | simp (disch := first | assumption | omega | (simp only [nx] <;> omega) | fail) only [hd, hQr, hQn, c33_0, ↓YA, YB, YC, YE, YF, YZ, ↓reduceIte, Nat.reduceEqDiff, Nat.reduceAdd, Nat.reduceMul, Nat.reduceLeDiff, Int.reduceToNat, Int.reduceLE, Int.reduceLT, Int.reduceGT, Int.reduceGE, Int.reduceAdd, Int.reduceSub, Int.reduceNeg, Int.reduceBEq, Int.reduceBNe, hgo, hlen, if_pos h09, List.getElem_cons_zero, hor, Option.map_some, List.take_zero, List.drop_succ_cons, List.drop_zero, List.nil_append, List.cons_append, if_pos h08, bndA, AX.ev, if_pos hb1, Int.toNat_natCast, if_pos hb2, Nat.sub_zero, if_pos hl9, hch, bytesA_map, strOf_map])) <;> (try (have hd_ : True := hd; clear hd_ hd)))
    exact fin_pA rfl (hx _ _)
   ·have d3 : decide ((szN n : Int) < 9) = false := decide_eq_false (by omega)
    have hlast : ((256 - 2 ^ (9 - szN n) : Nat) : Int) = ((UInt8.ofNat (headN n)).toNat : Int) := by
     have h99 : szN n = 9 := by omega
     have ht : n / 256 ^ (szN n - 1) = 0 := Nat.div_eq_of_lt (by rw [h99]; exact hn)
     have hh := (headN_bd hn).2.1
     rw [UInt8.toNat_ofNat', Nat.mod_eq_of_lt (by exact hh), headN_eq, ht, Nat.zero_add]
    ((have hd := trivial; repeat' (first | ((first | apply GdK_st | apply GdK_sf | apply CondK_s) <;> intro hd <;> (try simp only [hd])) | simp (disch := first | assumption | omega | (simp only [nx] <;> omega) | fail) only [hd, hQr, hQn, c33_0, ↓YA, YB, YC, YE, YF, YZ, ↓reduceIte, Nat.reduceEqDiff, Nat.reduceAdd, Nat.reduceMul, Nat.reduceLeDiff, Int.reduceToNat, Int.reduceLE, Int.reduceLT, Int.reduceGT, Int.reduceGE, Int.reduceAdd, Int.reduceSub, Int.reduceNeg, Int.reduceBEq, Int.reduceBNe, hgo, d1, hlen, if_pos h09, d3])) <;> (try (have hd_ : True := hd; clear hd_ hd)))
    (refine CallK.use (first_sound (szN n) h1 h9 _) ?_; rintro _ _ ⟨rfl, k2, rfl⟩)
    ((have hd := trivial; repeat' (first | ((first | apply GdK_st | apply GdK_sf | apply CondK_s) <;> intro hd <;> (try simp only [hd])) | simp (disch := first | assumption | omega | (simp only [nx] <;> omega) | fail) only [hd, hQr, hQn, c33_0, ↓YA, YB, YC, YE, YF, YZ, ↓reduceIte, Nat.reduceEqDiff, Nat.reduceAdd, Nat.reduceMul, Nat.reduceLeDiff, Int.reduceToNat, Int.reduceLE, Int.reduceLT, Int.reduceGT, Int.reduceGE, Int.reduceAdd, Int.reduceSub, Int.reduceNeg, Int.reduceBEq, Int.reduceBNe, hlast, hgo, hlen, if_pos h09, List.getElem_cons_zero, Option.map_some, List.take_zero, List.drop_succ_cons, List.drop_zero, List.nil_append, List.cons_append, if_pos h08, bndA, AX.ev, if_pos hb1, Int.toNat_natCast, if_pos hb2, Nat.sub_zero, if_pos hl9, hch, bytesA_map, strOf_map])) <;> (try (have hd_ : True := hd; clear hd_ hd)))
    exact fin_pA rfl (hx _ _)
abbrev eS (l : List UInt8) : AV := .sc (.string ⟨l.toArray⟩)
def rU (l : List Nat) : List (List AV) := l.map fun n => [U64v n]
theorem bapp (a b : List UInt8) : (⟨a.toArray⟩ : ByteArray) ++ ⟨b.toArray⟩ = ⟨(a ++ b).toArray⟩ := by
 rw [ByteArray.ext_iff]; simp
@[simp] theorem rowB_nil : rowB [] = [] := rfl
theorem putB_len (n : Nat) : (putB n).length ≤ 9 := by rw [putB, be_length]; have := szN_cases n; omega
theorem rowB_len : ∀ l : List Nat, (rowB l).length ≤ 9 * l.length
 | [] => by simp
 | a :: l => by
  have h1 := putB_len a; have h2 := rowB_len l
  rw [rowB] at h2
  rw [rowB, List.flatMap_cons, List.length_append, List.length_cons]; omega
theorem rowB_take {l : List Nat} {k : Nat} (h : k < l.length) : rowB (l.take k) ++ putB l[k] = rowB (l.take (k + 1)) := by
 rw [rowB, rowB, List.take_succ_eq_append_getElem h, List.flatMap_append]; simp
set_option maxHeartbeats 1000000 in
theorem row_sound (t : Tok) (l : List Nat) (hl : l.length ≤ 1000000) (hn : ∀ x ∈ l, x < 18446744073709551616) (H : AHeap) : Sound Try.prog 26 [.sl t (rU l)] H (Pure H (eS (rowB l))) := by
 refine fn_soundQ hE cf26 (Nat.le_of_ble_eq_true rfl) fun Q hQr hQn => ?_
 ((have hd := trivial; repeat' (first | ((first | apply GdK_st | apply GdK_sf | apply CondK_s) <;> intro hd <;> (try simp only [hd])) | simp (disch := first | assumption | omega | (simp only [nx] <;> omega) | fail) only [hd, hQr, hQn, c26_0, ↓YA, YB, YC, YE, YF, YZ, ↓reduceIte, Nat.reduceEqDiff, Nat.reduceAdd, Nat.reduceMul, Nat.reduceLeDiff, Int.reduceToNat, Int.reduceLE, Int.reduceLT, Int.reduceGT, Int.reduceGE, Int.reduceAdd, Int.reduceSub, Int.reduceNeg, Int.reduceBEq, Int.reduceBNe, rU, List.length_map])) <;> (try (have hd_ : True := hd; clear hd_ hd)))
 refine AW_for [6, 7] (σ := Unit) (fun (k : Nat) s => True) (fun k s => [(3, eS (rowB (l.take k)))]) (fun k s => []) () (GStep.refl _ _) (by simp only [keep_nil, keep_cons, Fr.put, Fr.get, ↓reduceIte, Nat.reduceEqDiff]; rfl) (by intro k s; rfl) (by intro k s; rfl) (by rfl) (by unfold maxLen; omega) ?_ (by simp only [FrL_nil, FrL_cons, Fr.put, Fr.get, ↓reduceIte, Nat.reduceEqDiff, and_self] <;> simp) (by simp only [ObjL_nil]) ?_ ?_
 ·trivial
 ·(rintro k s G hk ht hG hn'; try simp only [nx] at hn')
  have hm := hn _ (List.getElem_mem hk)
  have hP := put_sound l[k] hm G
  have hr := rowB_take hk
  ((have hd := trivial; repeat' (first | ((first | apply GdK_st | apply GdK_sf | apply CondK_s) <;> intro hd <;> (try simp only [hd])) | simp (disch := first | assumption | omega | (simp only [nx] <;> omega) | fail) only [hd, hQr, hQn, c26_0, ↓YA, YB, YC, YE, YF, YZ, ↓reduceIte, Nat.reduceEqDiff, Nat.reduceAdd, Nat.reduceMul, Nat.reduceLeDiff, Int.reduceToNat, Int.reduceLE, Int.reduceLT, Int.reduceGT, Int.reduceGE, Int.reduceAdd, Int.reduceSub, Int.reduceNeg, Int.reduceBEq, Int.reduceBNe, List.length_map])) <;> (try (have hd_ : True := hd; clear hd_ hd)))
  (refine CallK.use (hP) ?_; rintro _ _ ⟨rfl, k1, rfl⟩)
  have hb : (rowB (l.take k)).length + (putB l[k]).length ≤ maxLen := by
   have h1 := putB_len l[k]; have h2 := rowB_len (l.take k)
   rw [List.length_take] at h2
   unfold maxLen; omega
  ((have hd := trivial; repeat' (first | ((first | apply GdK_st | apply GdK_sf | apply CondK_s) <;> intro hd <;> (try simp only [hd])) | simp (disch := first | assumption | omega | (simp only [nx] <;> omega) | fail) only [hd, hQr, hQn, c26_0, ↓YA, YB, YC, YE, YF, YZ, ↓reduceIte, Nat.reduceEqDiff, Nat.reduceAdd, Nat.reduceMul, Nat.reduceLeDiff, Int.reduceToNat, Int.reduceLE, Int.reduceLT, Int.reduceGT, Int.reduceGE, Int.reduceAdd, Int.reduceSub, Int.reduceNeg, Int.reduceBEq, Int.reduceBNe, bapp, hr, if_pos hb, Option.map_some])) <;> (try (have hd_ : True := hd; clear hd_ hd)))
  exact ⟨(), by exact HXT⟩
 ·(rintro s G ht hG hn'; try simp only [nx] at hn')
  ((have hd := trivial; repeat' (first | ((first | apply GdK_st | apply GdK_sf | apply CondK_s) <;> intro hd <;> (try simp only [hd])) | simp (disch := first | assumption | omega | (simp only [nx] <;> omega) | fail) only [hd, hQr, hQn, c26_0, ↓YA, YB, YC, YE, YF, YZ, ↓reduceIte, Nat.reduceEqDiff, Nat.reduceAdd, Nat.reduceMul, Nat.reduceLeDiff, Int.reduceToNat, Int.reduceLE, Int.reduceLT, Int.reduceGT, Int.reduceGE, Int.reduceAdd, Int.reduceSub, Int.reduceNeg, Int.reduceBEq, Int.reduceBNe])) <;> (try (have hd_ : True := hd; clear hd_ hd)))
  rw [List.take_length]
  exact fin_pA rfl hG.ext
abbrev rI (l : List Int) : List (List AV) := l.map fun n => [AV.i n]
def nmB (l : List Int) : List UInt8 := rowB (l.map Int.toNat)
theorem allLen_rU : ∀ l : List Nat, allLen 1 (rU l) = true
 | [] => rfl
 | a :: l => by simp [rU, allLen]
@[simp] theorem rU_nil : rU [] = [] := rfl
theorem toNat_take {l : List Int} {k : Nat} (h : k < l.length) : rU ((l.take k).map Int.toNat) ++ [[U64v l[k].toNat]] = rU ((l.take (k + 1)).map Int.toNat) := by
 rw [List.take_succ_eq_append_getElem h, List.map_append, rU, rU, List.map_append]; rfl
set_option maxHeartbeats 1000000 in
theorem name_sound (t : Tok) (l : List Int) (hl : l.length ≤ 1000000) (hn : ∀ x ∈ l, 0 ≤ x ∧ x < 9223372036854775808) (H : AHeap) : Sound Try.prog 17 [.sl t (rI l)] H (Pure H (eS (nmB l))) := by
 refine fn_soundQ hE cf17 (Nat.le_of_ble_eq_true rfl) fun Q hQr hQn => ?_
 ((have hd := trivial; repeat' (first | ((first | apply GdK_st | apply GdK_sf | apply CondK_s) <;> intro hd <;> (try simp only [hd])) | simp (disch := first | assumption | omega | (simp only [nx] <;> omega) | fail) only [hd, hQr, hQn, c17_0, ↓YA, YB, YC, YE, YF, YZ, ↓reduceIte, Nat.reduceEqDiff, Nat.reduceAdd, Nat.reduceMul, Nat.reduceLeDiff, Int.reduceToNat, Int.reduceLE, Int.reduceLT, Int.reduceGT, Int.reduceGE, Int.reduceAdd, Int.reduceSub, Int.reduceNeg, Int.reduceBEq, Int.reduceBNe, List.length_map])) <;> (try (have hd_ : True := hd; clear hd_ hd)))
 refine AW_for [6, 7] (σ := Unit) (fun (k : Nat) s => True) (fun k s => [(3, .sl (.own H.next) (rU ((l.take k).map Int.toNat)))]) (fun k s => [(H.next, .tok k 66 1)]) () (GStep.tok 3 66 1 rfl) (by simp only [keep_nil, keep_cons, Fr.put, Fr.get, ↓reduceIte, Nat.reduceEqDiff]; rfl) (by intro k s; rfl) (by intro k s; rfl) (by rfl) (by unfold maxLen; omega) ?_ (by simp only [FrL_nil, FrL_cons, Fr.put, Fr.get, ↓reduceIte, Nat.reduceEqDiff, and_self] <;> simp) ?_ ?_ ?_
 ·trivial
 ·rw [ObjL_cons]
  exact ⟨AHeap.get_alloc_self (H := H), by simp [ObjL]⟩
 ·(rintro k s G hk ht hG hn'; try simp only [nx] at hn')
  have ho := hG.o (_, _) (List.mem_singleton.2 rfl)
  have hlo := AHeap.lt ho
  have hm := hn _ (List.getElem_mem hk)
  have hw : IntKind.u64.wrap l[k] = (l[k].toNat : Int) := by
   rw [Int.toNat_of_nonneg hm.1]
   simp only [IntKind.wrap, IntKind.bits, IntKind.signed]
   simp; omega
  have hlen : ((l.take k).map Int.toNat).length = k := by simp; omega
  have la1 := allLen_rU ((l.take k).map Int.toNat)
  have la2 : allLen 1 [[U64v l[k].toNat]] = true := rfl
  have lm1 : k + 1 ≤ maxLen := by unfold maxLen; omega
  have lm2 : (k + 1) * 8 ≤ 140737488355328 := by omega
  have hsn := toNat_take hk
  have hrl : (rU ((l.take k).map Int.toNat)).length = k := by rw [rU, List.length_map, hlen]
  ((have hd := trivial; repeat' (first | ((first | apply GdK_st | apply GdK_sf | apply CondK_s) <;> intro hd <;> (try simp only [hd])) | simp (disch := first | assumption | omega | (simp only [nx] <;> omega) | fail) only [hd, hQr, hQn, c17_0, ↓YA, YB, YC, YE, YF, YZ, ↓reduceIte, Nat.reduceEqDiff, Nat.reduceAdd, Nat.reduceMul, Nat.reduceLeDiff, Int.reduceToNat, Int.reduceLE, Int.reduceLT, Int.reduceGT, Int.reduceGE, Int.reduceAdd, Int.reduceSub, Int.reduceNeg, Int.reduceBEq, Int.reduceBNe, List.length_map, ho, hw, la1, la2, lm1, lm2, hrl, rowsIn, rowsOf, List.length_singleton])) <;> (try (have hd_ : True := hd; clear hd_ hd)))
  exact ⟨(), congrArg (AV.sl _) hsn, hG.put⟩
 ·(rintro s G ht hG hn'; try simp only [nx] at hn')
  have hr := fun T => row_sound T (l.map Int.toNat) (by simpa using hl) (by intro x hx; obtain ⟨y, hy, rfl⟩ := List.mem_map.1 hx; have := hn y hy; omega) G
  ((have hd := trivial; repeat' (first | ((first | apply GdK_st | apply GdK_sf | apply CondK_s) <;> intro hd <;> (try simp only [hd])) | simp (disch := first | assumption | omega | (simp only [nx] <;> omega) | fail) only [hd, hQr, hQn, c17_0, ↓YA, YB, YC, YE, YF, YZ, ↓reduceIte, Nat.reduceEqDiff, Nat.reduceAdd, Nat.reduceMul, Nat.reduceLeDiff, Int.reduceToNat, Int.reduceLE, Int.reduceLT, Int.reduceGT, Int.reduceGE, Int.reduceAdd, Int.reduceSub, Int.reduceNeg, Int.reduceBEq, Int.reduceBNe, List.take_length])) <;> (try (have hd_ : True := hd; clear hd_ hd)))
  (refine CallK.use (hr _) ?_; rintro _ _ ⟨rfl, k1, rfl⟩)
  ((have hd := trivial; repeat' (first | ((first | apply GdK_st | apply GdK_sf | apply CondK_s) <;> intro hd <;> (try simp only [hd])) | simp (disch := first | assumption | omega | (simp only [nx] <;> omega) | fail) only [hd, hQr, hQn, c17_0, ↓YA, YB, YC, YE, YF, YZ, ↓reduceIte, Nat.reduceEqDiff, Nat.reduceAdd, Nat.reduceMul, Nat.reduceLeDiff, Int.reduceToNat, Int.reduceLE, Int.reduceLT, Int.reduceGT, Int.reduceGE, Int.reduceAdd, Int.reduceSub, Int.reduceNeg, Int.reduceBEq, Int.reduceBNe])) <;> (try (have hd_ : True := hd; clear hd_ hd)))
  exact fin_pA rfl (hG.extO (AHeap.Ext.refl H).alloc (by simp)).bump
set_option maxHeartbeats 1000000 in
theorem neg_sound (k : Int) (H : AHeap) : Sound Try.prog 15 [.i k] H (Pure H (.b (decide (k < 0)))) := by
 refine fn_soundQ hE cf15 (Nat.le_of_ble_eq_true rfl) fun Q hQr hQn => ?_
 ((have hd := trivial; repeat' (first | ((first | apply GdK_st | apply GdK_sf | apply CondK_s) <;> intro hd <;> (try simp only [hd])) | simp (disch := first | assumption | omega | (simp only [nx] <;> omega) | fail) only [hd, hQr, hQn, c15_0, ↓YA, YB, YC, YE, YF, YZ, ↓reduceIte, Nat.reduceEqDiff, Nat.reduceAdd, Nat.reduceMul, Nat.reduceLeDiff, Int.reduceToNat, Int.reduceLE, Int.reduceLT, Int.reduceGT, Int.reduceGE, Int.reduceAdd, Int.reduceSub, Int.reduceNeg, Int.reduceBEq, Int.reduceBNe])) <;> (try (have hd_ : True := hd; clear hd_ hd)))
 refine fin_bA (by rfl)
set_option maxHeartbeats 1000000 in
theorem new_bad (w m : Int) (h : w < 0 ∨ 16 < w ∨ m < 0 ∨ 4000 < m) (H : AHeap) : Sound Try.prog 9 [.i w, .i m] H (Pure H (.tup [.sc (.pointer none), .i 2])) := by
 refine fn_soundQ hE cf9 (Nat.le_of_ble_eq_true rfl) fun Q hQr hQn => ?_
 ((have hd := trivial; repeat' (first | ((first | apply GdK_st | apply GdK_sf | apply CondK_s) <;> intro hd <;> (try simp only [hd])) | simp (disch := first | assumption | omega | (simp only [nx] <;> omega) | fail) only [hd, hQr, hQn, c9_0, ↓YA, YB, YC, YE, YF, YZ, ↓reduceIte, Nat.reduceEqDiff, Nat.reduceAdd, Nat.reduceMul, Nat.reduceLeDiff, Int.reduceToNat, Int.reduceLE, Int.reduceLT, Int.reduceGT, Int.reduceGE, Int.reduceAdd, Int.reduceSub, Int.reduceNeg, Int.reduceBEq, Int.reduceBNe])) <;> (try (have hd_ : True := hd; clear hd_ hd)))
 all_goals first | exact fin_pA rfl | (exfalso; simp only [decide_eq_false_iff_not] at *; omega)
abbrev tab (w m : Int) (mid : Nat) : AObj := .cells [.i w, .i m, .mp mid] 48
set_option maxHeartbeats 1000000 in
theorem new_good (w m : Int) (h : 0 ≤ w ∧ w ≤ 16 ∧ 0 ≤ m ∧ m ≤ 4000) (H : AHeap) : Sound Try.prog 9 [.i w, .i m] H fun r H' => r = .tup [.ptr (H.next + 1) 0, .i 0] ∧ H' = (H.alloc (.map (.one .str) [] false)).alloc (tab w m H.next) := by
 have d1 : decide (w < 0) = false := decide_eq_false (by omega)
 have d2 : decide (w > 16) = false := decide_eq_false (by omega)
 have d3 : decide (m < 0) = false := decide_eq_false (by omega)
 have d4 : decide (m > 4000) = false := decide_eq_false (by omega)
 refine fn_soundQ hE cf9 (Nat.le_of_ble_eq_true rfl) fun Q hQr hQn => ?_
 ((have hd := trivial; repeat' (first | ((first | apply GdK_st | apply GdK_sf | apply CondK_s) <;> intro hd <;> (try simp only [hd])) | simp (disch := first | assumption | omega | (simp only [nx] <;> omega) | fail) only [hd, hQr, hQn, c9_0, ↓YA, YB, YC, YE, YF, YZ, ↓reduceIte, Nat.reduceEqDiff, Nat.reduceAdd, Nat.reduceMul, Nat.reduceLeDiff, Int.reduceToNat, Int.reduceLE, Int.reduceLT, Int.reduceGT, Int.reduceGE, Int.reduceAdd, Int.reduceSub, Int.reduceNeg, Int.reduceBEq, Int.reduceBNe, d1, d2, d3, d4])) <;> (try (have hd_ : True := hd; clear hd_ hd)))
 exact fin_keep ⟨rfl, rfl⟩
def idxN (l : List Int) : Int := if l.any (fun k => decide (k < 0)) = true then (l.findIdx (fun k => decide (k < 0)) : Nat) else -1
theorem idxN_at {l : List Int} {k : Nat} (hk : k < l.length) (hn : l[k] < 0) (h : ∀ j (hj : j < l.length), j < k → ¬ l[j] < 0) : idxN l = (k : Int) := by
 have h1 : l.any (fun k => decide (k < 0)) = true := List.any_eq_true.2 ⟨l[k], List.getElem_mem hk, decide_eq_true hn⟩
 rw [idxN, if_pos h1, (List.findIdx_eq hk).2 ⟨decide_eq_true hn, fun j hj => decide_eq_false (h j (by omega) hj)⟩]
theorem idxN_none {l : List Int} (h : ∀ j (hj : j < l.length), ¬ l[j] < 0) : idxN l = -1 := by
 have h1 : ¬ l.any (fun k => decide (k < 0)) = true := by
  rw [List.any_eq_true]; rintro ⟨x, hx, hd⟩
  obtain ⟨j, hj, rfl⟩ := List.getElem_of_mem hx
  exact h j hj (of_decide_eq_true hd)
 rw [idxN, if_neg h1]
theorem idxN_pos (l : List Int) : decide (idxN l ≥ 0) = l.any (fun k => decide (k < 0)) := by
 unfold idxN
 split
 ·rename_i h; rw [h]; exact decide_eq_true (by omega)
 ·rename_i h; rw [Bool.not_eq_true] at h; rw [h]; exact decide_eq_false (by omega)
set_option maxHeartbeats 1000000 in
theorem index_sound (t : Tok) (l : List Int) (hl : l.length ≤ 1000000) (H : AHeap) : Sound Try.prog 25 [.sl t (rI l), .fn 15 [] []] H (Pure H (.i (idxN l))) := by
 refine fn_soundQ hE cf25 (Nat.le_of_ble_eq_true rfl) fun Q hQr hQn => ?_
 ((have hd := trivial; repeat' (first | ((first | apply GdK_st | apply GdK_sf | apply CondK_s) <;> intro hd <;> (try simp only [hd])) | simp (disch := first | assumption | omega | (simp only [nx] <;> omega) | fail) only [hd, hQr, hQn, c25_0, ↓YA, YB, YC, YE, YF, YZ, ↓reduceIte, Nat.reduceEqDiff, Nat.reduceAdd, Nat.reduceMul, Nat.reduceLeDiff, Int.reduceToNat, Int.reduceLE, Int.reduceLT, Int.reduceGT, Int.reduceGE, Int.reduceAdd, Int.reduceSub, Int.reduceNeg, Int.reduceBEq, Int.reduceBNe, List.length_map])) <;> (try (have hd_ : True := hd; clear hd_ hd)))
 refine AW_for [0, 1, 7] (σ := Unit) (fun (k : Nat) s => ∀ j (hj : j < l.length), j < k → ¬ l[j] < 0) (fun k s => []) (fun k s => []) () (GStep.refl _ _) (by simp only [keep_nil, keep_cons, Fr.put, Fr.get, ↓reduceIte, Nat.reduceEqDiff]; rfl) (by intro k s; rfl) (by intro k s; rfl) (by rfl) (by unfold maxLen; omega) ?_ (by simp only [FrL_nil]) (by simp only [ObjL_nil]) ?_ ?_
 ·intro j hj h; omega
 ·(rintro k s G hk hi hG hn'; try simp only [nx] at hn')
  have hN := neg_sound l[k] G
  by_cases hneg : l[k] < 0
  ·have d1 : decide (l[k] < 0) = true := decide_eq_true hneg
   rw [d1] at hN
   ((have hd := trivial; repeat' (first | ((first | apply GdK_st | apply GdK_sf | apply CondK_s) <;> intro hd <;> (try simp only [hd])) | simp (disch := first | assumption | omega | (simp only [nx] <;> omega) | fail) only [hd, hQr, hQn, c25_0, ↓YA, YB, YC, YE, YF, YZ, ↓reduceIte, Nat.reduceEqDiff, Nat.reduceAdd, Nat.reduceMul, Nat.reduceLeDiff, Int.reduceToNat, Int.reduceLE, Int.reduceLT, Int.reduceGT, Int.reduceGE, Int.reduceAdd, Int.reduceSub, Int.reduceNeg, Int.reduceBEq, Int.reduceBNe, List.length_map])) <;> (try (have hd_ : True := hd; clear hd_ hd)))
   (refine CallK.use (hN) ?_; rintro _ _ ⟨rfl, k1, rfl⟩)
   ((have hd := trivial; repeat' (first | ((first | apply GdK_st | apply GdK_sf | apply CondK_s) <;> intro hd <;> (try simp only [hd])) | simp (disch := first | assumption | omega | (simp only [nx] <;> omega) | fail) only [hd, hQr, hQn, c25_0, ↓YA, YB, YC, YE, YF, YZ, ↓reduceIte, Nat.reduceEqDiff, Nat.reduceAdd, Nat.reduceMul, Nat.reduceLeDiff, Int.reduceToNat, Int.reduceLE, Int.reduceLT, Int.reduceGT, Int.reduceGE, Int.reduceAdd, Int.reduceSub, Int.reduceNeg, Int.reduceBEq, Int.reduceBNe])) <;> (try (have hd_ : True := hd; clear hd_ hd)))
   refine fin_iA (by exact (idxN_at hk hneg hi).symm)
  ·have d1 : decide (l[k] < 0) = false := decide_eq_false hneg
   rw [d1] at hN
   ((have hd := trivial; repeat' (first | ((first | apply GdK_st | apply GdK_sf | apply CondK_s) <;> intro hd <;> (try simp only [hd])) | simp (disch := first | assumption | omega | (simp only [nx] <;> omega) | fail) only [hd, hQr, hQn, c25_0, ↓YA, YB, YC, YE, YF, YZ, ↓reduceIte, Nat.reduceEqDiff, Nat.reduceAdd, Nat.reduceMul, Nat.reduceLeDiff, Int.reduceToNat, Int.reduceLE, Int.reduceLT, Int.reduceGT, Int.reduceGE, Int.reduceAdd, Int.reduceSub, Int.reduceNeg, Int.reduceBEq, Int.reduceBNe, List.length_map])) <;> (try (have hd_ : True := hd; clear hd_ hd)))
   (refine CallK.use (hN) ?_; rintro _ _ ⟨rfl, k1, rfl⟩)
   ((have hd := trivial; repeat' (first | ((first | apply GdK_st | apply GdK_sf | apply CondK_s) <;> intro hd <;> (try simp only [hd])) | simp (disch := first | assumption | omega | (simp only [nx] <;> omega) | fail) only [hd, hQr, hQn, c25_0, ↓YA, YB, YC, YE, YF, YZ, ↓reduceIte, Nat.reduceEqDiff, Nat.reduceAdd, Nat.reduceMul, Nat.reduceLeDiff, Int.reduceToNat, Int.reduceLE, Int.reduceLT, Int.reduceGT, Int.reduceGE, Int.reduceAdd, Int.reduceSub, Int.reduceNeg, Int.reduceBEq, Int.reduceBNe])) <;> (try (have hd_ : True := hd; clear hd_ hd)))
   refine ⟨(), fun j hj h => ?_, by exact HXT⟩
   by_cases he : j = k
   ·subst he; exact hneg
   ·exact hi j hj (by omega)
 ·(rintro s G hi hG hn'; try simp only [nx] at hn')
  ((have hd := trivial; repeat' (first | ((first | apply GdK_st | apply GdK_sf | apply CondK_s) <;> intro hd <;> (try simp only [hd])) | simp (disch := first | assumption | omega | (simp only [nx] <;> omega) | fail) only [hd, hQr, hQn, c25_0, ↓YA, YB, YC, YE, YF, YZ, ↓reduceIte, Nat.reduceEqDiff, Nat.reduceAdd, Nat.reduceMul, Nat.reduceLeDiff, Int.reduceToNat, Int.reduceLE, Int.reduceLT, Int.reduceGT, Int.reduceGE, Int.reduceAdd, Int.reduceSub, Int.reduceNeg, Int.reduceBEq, Int.reduceBNe])) <;> (try (have hd_ : True := hd; clear hd_ hd)))
  refine fin_iA (by exact (idxN_none fun j hj => hi j hj hj).symm)
theorem contains_sound (t : Tok) (l : List Int) (hl : l.length ≤ 1000000) (H : AHeap) : Sound Try.prog 16 [.sl t (rI l), .fn 15 [] []] H (Pure H (.b (l.any fun k => decide (k < 0)))) := by
 have hI := index_sound t l hl
 have hp := idxN_pos l
 refine fn_soundQ hE cf16 (Nat.le_of_ble_eq_true rfl) fun Q hQr hQn => ?_
 ((have hd := trivial; repeat' (first | ((first | apply GdK_st | apply GdK_sf | apply CondK_s) <;> intro hd <;> (try simp only [hd])) | simp (disch := first | assumption | omega | (simp only [nx] <;> omega) | fail) only [hd, hQr, hQn, c16_0, ↓YA, YB, YC, YE, YF, YZ, ↓reduceIte, Nat.reduceEqDiff, Nat.reduceAdd, Nat.reduceMul, Nat.reduceLeDiff, Int.reduceToNat, Int.reduceLE, Int.reduceLT, Int.reduceGT, Int.reduceGE, Int.reduceAdd, Int.reduceSub, Int.reduceNeg, Int.reduceBEq, Int.reduceBNe])) <;> (try (have hd_ : True := hd; clear hd_ hd)))
 (refine CallK.use (hI _) ?_; rintro _ _ ⟨rfl, k1, rfl⟩)
 ((have hd := trivial; repeat' (first | ((first | apply GdK_st | apply GdK_sf | apply CondK_s) <;> intro hd <;> (try simp only [hd])) | simp (disch := first | assumption | omega | (simp only [nx] <;> omega) | fail) only [hd, hQr, hQn, c16_0, ↓YA, YB, YC, YE, YF, YZ, ↓reduceIte, Nat.reduceEqDiff, Nat.reduceAdd, Nat.reduceMul, Nat.reduceLeDiff, Int.reduceToNat, Int.reduceLE, Int.reduceLT, Int.reduceGT, Int.reduceGE, Int.reduceAdd, Int.reduceSub, Int.reduceNeg, Int.reduceBEq, Int.reduceBNe, hp])) <;> (try (have hd_ : True := hd; clear hd_ hd)))
 refine fin_bA (by rfl)
theorem bfe (b : Bool) : b = false ∨ b = true := by cases b <;> simp
def In64 (n : Int) : Prop := -9223372036854775808 ≤ n ∧ n ≤ 9223372036854775807
instance (n : Int) : Decidable (In64 n) := inferInstanceAs (Decidable (_ ∧ _))
def fitB (n : Int) : Bool := decide (In64 n)
def sumV (n : Int) : AV := .tup [.i (if fitB n then n else 0), .b (fitB n)]
theorem fitB_t {n : Int} (h : In64 n) : fitB n = true := decide_eq_true h
theorem fitB_f {n : Int} (h : ¬ In64 n) : fitB n = false := decide_eq_false h
theorem eadd_sound (a b : Int) (H : AHeap) (ha : In64 a) (hb : In64 b) : Sound Try.prog 27 [.i a, .i b] H (Pure H (sumV (a + b))) := by
 obtain ⟨a1, a2⟩ := ha
 obtain ⟨b1, b2⟩ := hb
 refine fn_soundQ hE cf27 (Nat.le_of_ble_eq_true rfl) fun Q hQr hQn => ?_
 by_cases hbp : 0 < b
 ·have d1 : decide (b > 0) = true := by simp; omega
  have d2 : decide (b < 0) = false := by simp; omega
  by_cases hf : a + b ≤ 9223372036854775807
  ·have d3 : decide (a > 9223372036854775807 - b) = false := by simp; omega
   have hw : IntKind.i64.wrap (9223372036854775807 - b) = 9223372036854775807 - b := wrap_of (by omega) (by omega)
   have hv : sumV (a + b) = .tup [.i (a + b), .b true] := by unfold sumV; rw [fitB_t ⟨by omega, hf⟩]; rfl
   rw [hv] at hQr hQn
   ((have hd := trivial; repeat' (first | ((first | apply GdK_st | apply GdK_sf | apply CondK_s) <;> intro hd <;> (try simp only [hd])) | simp (disch := first | assumption | omega | (simp only [nx] <;> omega) | fail) only [hd, hQr, hQn, c27_0, ↓YA, YB, YC, YE, YF, YZ, ↓reduceIte, Nat.reduceEqDiff, Nat.reduceAdd, Nat.reduceMul, Nat.reduceLeDiff, Int.reduceToNat, Int.reduceLE, Int.reduceLT, Int.reduceGT, Int.reduceGE, Int.reduceAdd, Int.reduceSub, Int.reduceNeg, Int.reduceBEq, Int.reduceBNe, d1, d2, d3, hw])) <;> (try (have hd_ : True := hd; clear hd_ hd)))
   refine fin_pA (by rfl)
  ·have d3 : decide (a > 9223372036854775807 - b) = true := by simp; omega
   have hw : IntKind.i64.wrap (9223372036854775807 - b) = 9223372036854775807 - b := wrap_of (by omega) (by omega)
   have hv : sumV (a + b) = .tup [.i 0, .b false] := by unfold sumV; rw [fitB_f (fun h => hf h.2)]; rfl
   rw [hv] at hQr hQn
   ((have hd := trivial; repeat' (first | ((first | apply GdK_st | apply GdK_sf | apply CondK_s) <;> intro hd <;> (try simp only [hd])) | simp (disch := first | assumption | omega | (simp only [nx] <;> omega) | fail) only [hd, hQr, hQn, c27_0, ↓YA, YB, YC, YE, YF, YZ, ↓reduceIte, Nat.reduceEqDiff, Nat.reduceAdd, Nat.reduceMul, Nat.reduceLeDiff, Int.reduceToNat, Int.reduceLE, Int.reduceLT, Int.reduceGT, Int.reduceGE, Int.reduceAdd, Int.reduceSub, Int.reduceNeg, Int.reduceBEq, Int.reduceBNe, d1, d2, d3, hw])) <;> (try (have hd_ : True := hd; clear hd_ hd)))
   refine fin_pA (by rfl)
 ·have d1 : decide (b > 0) = false := by simp; omega
  by_cases hbn : b < 0
  ·have d2 : decide (b < 0) = true := by simp; omega
   have hw : IntKind.i64.wrap (-9223372036854775808 - b) = -9223372036854775808 - b := wrap_of (by omega) (by omega)
   by_cases hf : -9223372036854775808 ≤ a + b
   ·have d3 : decide (a < -9223372036854775808 - b) = false := by simp; omega
    have hv : sumV (a + b) = .tup [.i (a + b), .b true] := by unfold sumV; rw [fitB_t ⟨hf, by omega⟩]; rfl
    rw [hv] at hQr hQn
    ((have hd := trivial; repeat' (first | ((first | apply GdK_st | apply GdK_sf | apply CondK_s) <;> intro hd <;> (try simp only [hd])) | simp (disch := first | assumption | omega | (simp only [nx] <;> omega) | fail) only [hd, hQr, hQn, c27_0, ↓YA, YB, YC, YE, YF, YZ, ↓reduceIte, Nat.reduceEqDiff, Nat.reduceAdd, Nat.reduceMul, Nat.reduceLeDiff, Int.reduceToNat, Int.reduceLE, Int.reduceLT, Int.reduceGT, Int.reduceGE, Int.reduceAdd, Int.reduceSub, Int.reduceNeg, Int.reduceBEq, Int.reduceBNe, d1, d2, d3, hw])) <;> (try (have hd_ : True := hd; clear hd_ hd)))
    refine fin_pA (by rfl)
   ·have d3 : decide (a < -9223372036854775808 - b) = true := by simp; omega
    have hv : sumV (a + b) = .tup [.i 0, .b false] := by unfold sumV; rw [fitB_f (fun h => hf h.1)]; rfl
    rw [hv] at hQr hQn
    ((have hd := trivial; repeat' (first | ((first | apply GdK_st | apply GdK_sf | apply CondK_s) <;> intro hd <;> (try simp only [hd])) | simp (disch := first | assumption | omega | (simp only [nx] <;> omega) | fail) only [hd, hQr, hQn, c27_0, ↓YA, YB, YC, YE, YF, YZ, ↓reduceIte, Nat.reduceEqDiff, Nat.reduceAdd, Nat.reduceMul, Nat.reduceLeDiff, Int.reduceToNat, Int.reduceLE, Int.reduceLT, Int.reduceGT, Int.reduceGE, Int.reduceAdd, Int.reduceSub, Int.reduceNeg, Int.reduceBEq, Int.reduceBNe, d1, d2, d3, hw])) <;> (try (have hd_ : True := hd; clear hd_ hd)))
    refine fin_pA (by rfl)
  ·have d2 : decide (b < 0) = false := by simp; omega
   have hv : sumV (a + b) = .tup [.i (a + b), .b true] := by unfold sumV; rw [fitB_t ⟨by omega, by omega⟩]; rfl
   rw [hv] at hQr hQn
   ((have hd := trivial; repeat' (first | ((first | apply GdK_st | apply GdK_sf | apply CondK_s) <;> intro hd <;> (try simp only [hd])) | simp (disch := first | assumption | omega | (simp only [nx] <;> omega) | fail) only [hd, hQr, hQn, c27_0, ↓YA, YB, YC, YE, YF, YZ, ↓reduceIte, Nat.reduceEqDiff, Nat.reduceAdd, Nat.reduceMul, Nat.reduceLeDiff, Int.reduceToNat, Int.reduceLE, Int.reduceLT, Int.reduceGT, Int.reduceGE, Int.reduceAdd, Int.reduceSub, Int.reduceNeg, Int.reduceBEq, Int.reduceBNe, d1, d2])) <;> (try (have hd_ : True := hd; clear hd_ hd)))
   refine fin_pA (by rfl)
structure AgIn (a : Ag) : Prop where
 n : In64 a.n
 s0 : In64 a.s0
 s1 : In64 a.s1
 s2 : In64 a.s2
theorem padd_sound (s l h s' l' h' : Int) (H : AHeap) (hs : In64 s) (hs' : In64 s') : Sound Try.prog 28 [.agg [.i s, .i l, .i h], .agg [.i s', .i l', .i h']] H (Pure H (.tup [.agg [.i (if fitB (s + s') then s + s' else 0), .i (if l' < l then l' else l), .i (if h' > h then h' else h)], .b (fitB (s + s'))])) := by
 refine fn_soundQ hE cf28 (Nat.le_of_ble_eq_true rfl) fun Q hQr hQn => ?_
 ((have hd := trivial; repeat' (first | ((first | apply GdK_st | apply GdK_sf | apply CondK_s) <;> intro hd <;> (try simp only [hd])) | simp (disch := first | assumption | omega | (simp only [nx] <;> omega) | fail) only [hd, hQr, hQn, c28_0, ↓YA, YB, YC, YE, YF, YZ, ↓reduceIte, Nat.reduceEqDiff, Nat.reduceAdd, Nat.reduceMul, Nat.reduceLeDiff, Int.reduceToNat, Int.reduceLE, Int.reduceLT, Int.reduceGT, Int.reduceGE, Int.reduceAdd, Int.reduceSub, Int.reduceNeg, Int.reduceBEq, Int.reduceBNe])) <;> (try (have hd_ : True := hd; clear hd_ hd)))
 (refine CallK.use (eadd_sound s s' _ hs hs') ?_; rintro _ _ ⟨rfl, k1, rfl⟩)
 unfold sumV
 ((have hd := trivial; repeat' (first | ((first | apply GdK_st | apply GdK_sf | apply CondK_s) <;> intro hd <;> (try simp only [hd])) | simp (disch := first | assumption | omega | (simp only [nx] <;> omega) | fail) only [hd, hQr, hQn, c28_0, ↓YA, YB, YC, YE, YF, YZ, ↓reduceIte, Nat.reduceEqDiff, Nat.reduceAdd, Nat.reduceMul, Nat.reduceLeDiff, Int.reduceToNat, Int.reduceLE, Int.reduceLT, Int.reduceGT, Int.reduceGE, Int.reduceAdd, Int.reduceSub, Int.reduceNeg, Int.reduceBEq, Int.reduceBNe])) <;> (try (have hd_ : True := hd; clear hd_ hd)))
 refine fin_pA (by rfl)
def joinK (a b : Ag) (k : Nat) : Ag := ⟨a.n + b.n, if 0 < k then a.s0 + b.s0 else 0, if 0 < k then (if b.l0 < a.l0 then b.l0 else a.l0) else 0, if 0 < k then (if b.h0 > a.h0 then b.h0 else a.h0) else 0,
 if 1 < k then a.s1 + b.s1 else 0, if 1 < k then (if b.l1 < a.l1 then b.l1 else a.l1) else 0, if 1 < k then (if b.h1 > a.h1 then b.h1 else a.h1) else 0,
 if 2 < k then a.s2 + b.s2 else 0, if 2 < k then (if b.l2 < a.l2 then b.l2 else a.l2) else 0, if 2 < k then (if b.h2 > a.h2 then b.h2 else a.h2) else 0⟩
def joinA (a b : Ag) : Option Ag := if a.n = 0 then some b else if b.n = 0 then some a else if fitB (a.n + b.n) = false then none else if fitB (a.s0 + b.s0) = false then none else if fitB (a.s1 + b.s1) = false then none else if fitB (a.s2 + b.s2) = false then none else some (joinK a b 3)
def joinV (o : Option Ag) : AV := .tup [.agg (eAg (o.getD ag0)), .b o.isSome]
set_option maxHeartbeats 4000000 in
theorem ajoin_sound (a b : Ag) (H : AHeap) (ha : AgIn a) (hb : AgIn b) : Sound Try.prog 18 [.agg (eAg a), .agg (eAg b)] H (Pure H (joinV (joinA a b))) := by
 refine fn_soundQ hE cf18 (Nat.le_of_ble_eq_true rfl) fun Q hQr hQn => ?_
 by_cases a0 : a.n = 0
 ·have hv : joinA a b = some b := by unfold joinA; rw [if_pos a0]
  rw [hv] at hQr hQn
  ((have hd := trivial; repeat' (first | ((first | apply GdK_st | apply GdK_sf | apply CondK_s) <;> intro hd <;> (try simp only [hd])) | simp (disch := first | assumption | omega | (simp only [nx] <;> omega) | fail) only [hd, hQr, hQn, c18_0, ↓YA, YB, YC, YE, YF, YZ, ↓reduceIte, Nat.reduceEqDiff, Nat.reduceAdd, Nat.reduceMul, Nat.reduceLeDiff, Int.reduceToNat, Int.reduceLE, Int.reduceLT, Int.reduceGT, Int.reduceGE, Int.reduceAdd, Int.reduceSub, Int.reduceNeg, Int.reduceBEq, Int.reduceBNe, a0])) <;> (try (have hd_ : True := hd; clear hd_ hd)))
  refine fin_pA (by rfl)
 by_cases b0 : b.n = 0
 ·have hv : joinA a b = some a := by unfold joinA; rw [if_neg a0, if_pos b0]
  have d1 : (a.n == 0) = false := by simpa using a0
  rw [hv] at hQr hQn
  ((have hd := trivial; repeat' (first | ((first | apply GdK_st | apply GdK_sf | apply CondK_s) <;> intro hd <;> (try simp only [hd])) | simp (disch := first | assumption | omega | (simp only [nx] <;> omega) | fail) only [hd, hQr, hQn, c18_0, ↓YA, YB, YC, YE, YF, YZ, ↓reduceIte, Nat.reduceEqDiff, Nat.reduceAdd, Nat.reduceMul, Nat.reduceLeDiff, Int.reduceToNat, Int.reduceLE, Int.reduceLT, Int.reduceGT, Int.reduceGE, Int.reduceAdd, Int.reduceSub, Int.reduceNeg, Int.reduceBEq, Int.reduceBNe, d1, b0])) <;> (try (have hd_ : True := hd; clear hd_ hd)))
  refine fin_pA (by rfl)
 have hJ : joinA a b = if fitB (a.n + b.n) = false then none else if fitB (a.s0 + b.s0) = false then none else if fitB (a.s1 + b.s1) = false then none else if fitB (a.s2 + b.s2) = false then none else some (joinK a b 3) := by
  unfold joinA; rw [if_neg a0, if_neg b0]
 have d1 : (a.n == 0) = false := by simpa using a0
 have d2 : (b.n == 0) = false := by simpa using b0
 ((have hd := trivial; repeat' (first | ((first | apply GdK_st | apply GdK_sf | apply CondK_s) <;> intro hd <;> (try simp only [hd])) | simp (disch := first | assumption | omega | (simp only [nx] <;> omega) | fail) only [hd, hQr, hQn, c18_0, ↓YA, YB, YC, YE, YF, YZ, ↓reduceIte, Nat.reduceEqDiff, Nat.reduceAdd, Nat.reduceMul, Nat.reduceLeDiff, Int.reduceToNat, Int.reduceLE, Int.reduceLT, Int.reduceGT, Int.reduceGE, Int.reduceAdd, Int.reduceSub, Int.reduceNeg, Int.reduceBEq, Int.reduceBNe, d1, d2])) <;> (try (have hd_ : True := hd; clear hd_ hd)))
 (refine CallK.use (eadd_sound a.n b.n _ ha.n hb.n) ?_; rintro _ _ ⟨rfl, k1, rfl⟩)
 unfold sumV
 have hf := bfe (fitB (a.n + b.n))
 rcases hf with hf | hf
 ·rw [hf] at hJ
  rw [hJ] at hQr hQn
  ((have hd := trivial; repeat' (first | ((first | apply GdK_st | apply GdK_sf | apply CondK_s) <;> intro hd <;> (try simp only [hd])) | simp (disch := first | assumption | omega | (simp only [nx] <;> omega) | fail) only [hd, hQr, hQn, c18_0, ↓YA, YB, YC, YE, YF, YZ, ↓reduceIte, Nat.reduceEqDiff, Nat.reduceAdd, Nat.reduceMul, Nat.reduceLeDiff, Int.reduceToNat, Int.reduceLE, Int.reduceLT, Int.reduceGT, Int.reduceGE, Int.reduceAdd, Int.reduceSub, Int.reduceNeg, Int.reduceBEq, Int.reduceBNe, hf])) <;> (try (have hd_ : True := hd; clear hd_ hd)))
  refine fin_pA (by rfl)
 rw [hf] at hJ
 simp only [Bool.true_eq_false, if_false] at hJ
 ((have hd := trivial; repeat' (first | ((first | apply GdK_st | apply GdK_sf | apply CondK_s) <;> intro hd <;> (try simp only [hd])) | simp (disch := first | assumption | omega | (simp only [nx] <;> omega) | fail) only [hd, hQr, hQn, c18_0, ↓YA, YB, YC, YE, YF, YZ, ↓reduceIte, Nat.reduceEqDiff, Nat.reduceAdd, Nat.reduceMul, Nat.reduceLeDiff, Int.reduceToNat, Int.reduceLE, Int.reduceLT, Int.reduceGT, Int.reduceGE, Int.reduceAdd, Int.reduceSub, Int.reduceNeg, Int.reduceBEq, Int.reduceBNe, hf, if_true])) <;> (try (have hd_ : True := hd; clear hd_ hd)))
 refine AW_let fun G0 hG0 => ?_
 have g1 : G0.get H.next = some (.cells (eAg a) 36) := by
  rw [hG0, AHeap.get_set_ne (by omega)]; simp only [AHeap.get_bump]
  rw [AHeap.get_alloc_ne (by simp only [nx]; omega), AHeap.get_alloc_ne (by simp only [nx]; omega), AHeap.get_alloc_ne (by simp only [nx]; omega)]
  exact AHeap.get_alloc_self
 have g2 : G0.get (H.next + 1) = some (.cells (eAg b) 36) := by
  rw [hG0, AHeap.get_set_ne (by omega)]; simp only [AHeap.get_bump]
  rw [AHeap.get_alloc_ne (by simp only [nx]; omega), AHeap.get_alloc_ne (by simp only [nx]; omega)]
  exact AHeap.get_alloc_at rfl
 have g3 : G0.get (H.next + 2) = some (.cells (eAg ag0) 36) := by
  rw [hG0, AHeap.get_set_ne (by omega)]; simp only [AHeap.get_bump]
  rw [AHeap.get_alloc_ne (by simp only [nx]; omega)]
  exact AHeap.get_alloc_at rfl
 have g4 : G0.get (H.next + 3) = some (.cells (eAg (joinK a b 0)) 36) := by
  rw [hG0]
  exact AHeap.get_set_self (by simp only [nx]; omega)
 have hx0 : AHeap.Ext H G0 := by rw [hG0]; exact AXT
 have hn0 := hx0.next
 have l4 := AHeap.lt g4
 clear hG0
 generalize hJ' : joinA a b = J at *
 refine AW_for (N := 3) [2, 3, 4, 6] (σ := Unit) (fun (k : Nat) s => J = (match k with
  | 0 => if fitB (a.s0 + b.s0) = false then none else if fitB (a.s1 + b.s1) = false then none else if fitB (a.s2 + b.s2) = false then none else some (joinK a b 3)
  | 1 => if fitB (a.s1 + b.s1) = false then none else if fitB (a.s2 + b.s2) = false then none else some (joinK a b 3)
  | 2 => if fitB (a.s2 + b.s2) = false then none else some (joinK a b 3)
  | _ => some (joinK a b 3))) (fun k s => []) (fun k s => [(H.next + 3, .cells (eAg (joinK a b k)) 36)]) () (GStep.refl _ _) (by simp only [keep_nil, keep_cons, Fr.put, Fr.get, ↓reduceIte, Nat.reduceEqDiff]; rfl) (by intro k s; rfl) (by intro k s; rfl) (by rfl) (by unfold maxLen; omega) ?_ (by simp only [FrL_nil]) ?_ ?_ ?_
 ·exact hJ
 ·rw [ObjL_cons]; exact ⟨g4, by simp [ObjL]⟩
 ·(rintro k s G hk ht hG hn1; try simp only [nx] at hn1)
  have e1 := (hG.g H.next (by omega) (by simp)).trans g1
  have e2 := (hG.g (H.next + 1) (by omega) (by simp)).trans g2
  have e3 := (hG.g (H.next + 2) (by omega) (by simp)).trans g3
  have e4 : G.get (H.next + 3) = some (.cells (eAg (joinK a b k)) 36) := hG.o (_, _) (List.mem_singleton.2 rfl)
  have l5 := AHeap.lt e4
  have c0 : ((0 : Nat) : Int) = 0 := rfl
  have c1 : ((1 : Nat) : Int) = 1 := rfl
  have c2 : ((2 : Nat) : Int) = 2 := rfl
  have hxG : AHeap.Ext H G := hG.extO hx0 (by simp)
  obtain rfl | rfl | rfl : k = 0 ∨ k = 1 ∨ k = 2 := by omega
  ·((have hd := trivial; repeat' (first | ((first | apply GdK_st | apply GdK_sf | apply CondK_s) <;> intro hd <;> (try simp only [hd])) | simp (disch := first | assumption | omega | (simp only [nx] <;> omega) | fail) only [hd, hQr, hQn, c18_0, ↓YA, YB, YC, YE, YF, YZ, ↓reduceIte, Nat.reduceEqDiff, Nat.reduceAdd, Nat.reduceMul, Nat.reduceLeDiff, Int.reduceToNat, Int.reduceLE, Int.reduceLT, Int.reduceGT, Int.reduceGE, Int.reduceAdd, Int.reduceSub, Int.reduceNeg, Int.reduceBEq, Int.reduceBNe, Int.cast_ofNat_Int, Int.reduceMul, e1, e2, e3, e4, eAg])) <;> (try (have hd_ : True := hd; clear hd_ hd)))
   (refine CallK.use (padd_sound a.s0 a.l0 a.h0 b.s0 b.l0 b.h0 _ ha.s0 hb.s0) ?_; rintro _ _ ⟨rfl, q1, rfl⟩)
   have hf := bfe (fitB (a.s0 + b.s0))
   rcases hf with hf | hf
   ·have hJn : J = none := by rw [ht, hf]; rfl
    ((have hd := trivial; repeat' (first | ((first | apply GdK_st | apply GdK_sf | apply CondK_s) <;> intro hd <;> (try simp only [hd])) | simp (disch := first | assumption | omega | (simp only [nx] <;> omega) | fail) only [hd, hQr, hQn, c18_0, ↓YA, YB, YC, YE, YF, YZ, ↓reduceIte, Nat.reduceEqDiff, Nat.reduceAdd, Nat.reduceMul, Nat.reduceLeDiff, Int.reduceToNat, Int.reduceLE, Int.reduceLT, Int.reduceGT, Int.reduceGE, Int.reduceAdd, Int.reduceSub, Int.reduceNeg, Int.reduceBEq, Int.reduceBNe, hf, Int.cast_ofNat_Int, Int.reduceMul, e1, e2, e3, e4, eAg])) <;> (try (have hd_ : True := hd; clear hd_ hd)))
    exact fin_pure ((hxG.bump.set (by omega)).set (by omega)) (by rw [hJn]; rfl)
   ·((have hd := trivial; repeat' (first | ((first | apply GdK_st | apply GdK_sf | apply CondK_s) <;> intro hd <;> (try simp only [hd])) | simp (disch := first | assumption | omega | (simp only [nx] <;> omega) | fail) only [hd, hQr, hQn, c18_0, ↓YA, YB, YC, YE, YF, YZ, ↓reduceIte, Nat.reduceEqDiff, Nat.reduceAdd, Nat.reduceMul, Nat.reduceLeDiff, Int.reduceToNat, Int.reduceLE, Int.reduceLT, Int.reduceGT, Int.reduceGE, Int.reduceAdd, Int.reduceSub, Int.reduceNeg, Int.reduceBEq, Int.reduceBNe, hf, Int.cast_ofNat_Int, Int.reduceMul, e1, e2, e3, e4, eAg, if_true])) <;> (try (have hd_ : True := hd; clear hd_ hd)))
    exact ⟨(), by rw [ht, hf]; rfl, hG.bump.put⟩
  ·((have hd := trivial; repeat' (first | ((first | apply GdK_st | apply GdK_sf | apply CondK_s) <;> intro hd <;> (try simp only [hd])) | simp (disch := first | assumption | omega | (simp only [nx] <;> omega) | fail) only [hd, hQr, hQn, c18_0, ↓YA, YB, YC, YE, YF, YZ, ↓reduceIte, Nat.reduceEqDiff, Nat.reduceAdd, Nat.reduceMul, Nat.reduceLeDiff, Int.reduceToNat, Int.reduceLE, Int.reduceLT, Int.reduceGT, Int.reduceGE, Int.reduceAdd, Int.reduceSub, Int.reduceNeg, Int.reduceBEq, Int.reduceBNe, Int.cast_ofNat_Int, Int.reduceMul, e1, e2, e3, e4, eAg])) <;> (try (have hd_ : True := hd; clear hd_ hd)))
   (refine CallK.use (padd_sound a.s1 a.l1 a.h1 b.s1 b.l1 b.h1 _ ha.s1 hb.s1) ?_; rintro _ _ ⟨rfl, q1, rfl⟩)
   have hf := bfe (fitB (a.s1 + b.s1))
   rcases hf with hf | hf
   ·have hJn : J = none := by rw [ht, hf]; rfl
    ((have hd := trivial; repeat' (first | ((first | apply GdK_st | apply GdK_sf | apply CondK_s) <;> intro hd <;> (try simp only [hd])) | simp (disch := first | assumption | omega | (simp only [nx] <;> omega) | fail) only [hd, hQr, hQn, c18_0, ↓YA, YB, YC, YE, YF, YZ, ↓reduceIte, Nat.reduceEqDiff, Nat.reduceAdd, Nat.reduceMul, Nat.reduceLeDiff, Int.reduceToNat, Int.reduceLE, Int.reduceLT, Int.reduceGT, Int.reduceGE, Int.reduceAdd, Int.reduceSub, Int.reduceNeg, Int.reduceBEq, Int.reduceBNe, hf, Int.cast_ofNat_Int, Int.reduceMul, e1, e2, e3, e4, eAg])) <;> (try (have hd_ : True := hd; clear hd_ hd)))
    exact fin_pure ((hxG.bump.set (by omega)).set (by omega)) (by rw [hJn]; rfl)
   ·((have hd := trivial; repeat' (first | ((first | apply GdK_st | apply GdK_sf | apply CondK_s) <;> intro hd <;> (try simp only [hd])) | simp (disch := first | assumption | omega | (simp only [nx] <;> omega) | fail) only [hd, hQr, hQn, c18_0, ↓YA, YB, YC, YE, YF, YZ, ↓reduceIte, Nat.reduceEqDiff, Nat.reduceAdd, Nat.reduceMul, Nat.reduceLeDiff, Int.reduceToNat, Int.reduceLE, Int.reduceLT, Int.reduceGT, Int.reduceGE, Int.reduceAdd, Int.reduceSub, Int.reduceNeg, Int.reduceBEq, Int.reduceBNe, hf, Int.cast_ofNat_Int, Int.reduceMul, e1, e2, e3, e4, eAg, if_true])) <;> (try (have hd_ : True := hd; clear hd_ hd)))
    exact ⟨(), by rw [ht, hf]; rfl, hG.bump.put⟩
  ·((have hd := trivial; repeat' (first | ((first | apply GdK_st | apply GdK_sf | apply CondK_s) <;> intro hd <;> (try simp only [hd])) | simp (disch := first | assumption | omega | (simp only [nx] <;> omega) | fail) only [hd, hQr, hQn, c18_0, ↓YA, YB, YC, YE, YF, YZ, ↓reduceIte, Nat.reduceEqDiff, Nat.reduceAdd, Nat.reduceMul, Nat.reduceLeDiff, Int.reduceToNat, Int.reduceLE, Int.reduceLT, Int.reduceGT, Int.reduceGE, Int.reduceAdd, Int.reduceSub, Int.reduceNeg, Int.reduceBEq, Int.reduceBNe, Int.cast_ofNat_Int, Int.reduceMul, e1, e2, e3, e4, eAg])) <;> (try (have hd_ : True := hd; clear hd_ hd)))
   (refine CallK.use (padd_sound a.s2 a.l2 a.h2 b.s2 b.l2 b.h2 _ ha.s2 hb.s2) ?_; rintro _ _ ⟨rfl, q1, rfl⟩)
   have hf := bfe (fitB (a.s2 + b.s2))
   rcases hf with hf | hf
   ·have hJn : J = none := by rw [ht, hf]; rfl
    ((have hd := trivial; repeat' (first | ((first | apply GdK_st | apply GdK_sf | apply CondK_s) <;> intro hd <;> (try simp only [hd])) | simp (disch := first | assumption | omega | (simp only [nx] <;> omega) | fail) only [hd, hQr, hQn, c18_0, ↓YA, YB, YC, YE, YF, YZ, ↓reduceIte, Nat.reduceEqDiff, Nat.reduceAdd, Nat.reduceMul, Nat.reduceLeDiff, Int.reduceToNat, Int.reduceLE, Int.reduceLT, Int.reduceGT, Int.reduceGE, Int.reduceAdd, Int.reduceSub, Int.reduceNeg, Int.reduceBEq, Int.reduceBNe, hf, Int.cast_ofNat_Int, Int.reduceMul, e1, e2, e3, e4, eAg])) <;> (try (have hd_ : True := hd; clear hd_ hd)))
    exact fin_pure ((hxG.bump.set (by omega)).set (by omega)) (by rw [hJn]; rfl)
   ·((have hd := trivial; repeat' (first | ((first | apply GdK_st | apply GdK_sf | apply CondK_s) <;> intro hd <;> (try simp only [hd])) | simp (disch := first | assumption | omega | (simp only [nx] <;> omega) | fail) only [hd, hQr, hQn, c18_0, ↓YA, YB, YC, YE, YF, YZ, ↓reduceIte, Nat.reduceEqDiff, Nat.reduceAdd, Nat.reduceMul, Nat.reduceLeDiff, Int.reduceToNat, Int.reduceLE, Int.reduceLT, Int.reduceGT, Int.reduceGE, Int.reduceAdd, Int.reduceSub, Int.reduceNeg, Int.reduceBEq, Int.reduceBNe, hf, Int.cast_ofNat_Int, Int.reduceMul, e1, e2, e3, e4, eAg, if_true])) <;> (try (have hd_ : True := hd; clear hd_ hd)))
    exact ⟨(), by rw [ht, hf]; rfl, hG.bump.put⟩
 ·(rintro s G ht hG hn1; try simp only [nx] at hn1)
  have e3 := (hG.g (H.next + 2) (by omega) (by simp)).trans g3
  have e4 : G.get (H.next + 3) = some (.cells (eAg (joinK a b 3)) 36) := hG.o (_, _) (List.mem_singleton.2 rfl)
  have l3 := AHeap.lt e3
  have hxG : AHeap.Ext H G := hG.extO hx0 (by simp)
  have hJs : J = some (joinK a b 3) := ht
  ((have hd := trivial; repeat' (first | ((first | apply GdK_st | apply GdK_sf | apply CondK_s) <;> intro hd <;> (try simp only [hd])) | simp (disch := first | assumption | omega | (simp only [nx] <;> omega) | fail) only [hd, hQr, hQn, c18_0, ↓YA, YB, YC, YE, YF, YZ, ↓reduceIte, Nat.reduceEqDiff, Nat.reduceAdd, Nat.reduceMul, Nat.reduceLeDiff, Int.reduceToNat, Int.reduceLE, Int.reduceLT, Int.reduceGT, Int.reduceGE, Int.reduceAdd, Int.reduceSub, Int.reduceNeg, Int.reduceBEq, Int.reduceBNe, e3, e4])) <;> (try (have hd_ : True := hd; clear hd_ hd)))
  exact fin_pure (hxG.set (by omega)) (by rw [hJs]; rfl)
theorem allLen_rI (l : List Int) : allLen 1 (rI l) = true := allLen_map (f := fun n => [AV.i n]) (fun _ => rfl) l
theorem allLen_nil {sz : Nat} : allLen sz [] = true := rfl
theorem clone_sound (tok : Tok) (l : List Int) (H : AHeap) (hl : l.length ≤ 1000000) : Sound Try.prog 19 [.sl tok (rI l)] H (Pure H (.sl .no (rI l))) := by
 cases l with
 | nil =>
  have h0 : 0 ≤ maxLen := Nat.zero_le _
  refine fn_soundQ hE cf19 (Nat.le_of_ble_eq_true rfl) fun Q hQr hQn => ?_
  ((have hd := trivial; repeat' (first | ((first | apply GdK_st | apply GdK_sf | apply CondK_s) <;> intro hd <;> (try simp only [hd])) | simp (disch := first | assumption | omega | (simp only [nx] <;> omega) | fail) only [hd, hQr, hQn, c19_0, ↓YA, YB, YC, YE, YF, YZ, ↓reduceIte, Nat.reduceEqDiff, Nat.reduceAdd, Nat.reduceMul, Nat.reduceLeDiff, Int.reduceToNat, Int.reduceLE, Int.reduceLT, Int.reduceGT, Int.reduceGE, Int.reduceAdd, Int.reduceSub, Int.reduceNeg, Int.reduceBEq, Int.reduceBNe, List.length_nil, rowsOf, rowsIn, List.map_nil, allLen_nil, if_pos h0])) <;> (try (have hd_ : True := hd; clear hd_ hd)))
  exact fin_pure (.refl _) rfl
 | cons a l =>
  have hal := allLen_rI (a :: l)
  have h1 : l.length + 1 ≤ maxLen ∧ (l.length + 1) * 8 ≤ 140737488355328 ∧ allLen 1 [] = true := ⟨by simp at hl; unfold maxLen; omega, by simp at hl; omega, rfl⟩
  have hc : rI (a :: l) = [.i a] :: rI l := rfl
  generalize hr : rI (a :: l) = r at *
  subst hc
  refine fn_soundQ hE cf19 (Nat.le_of_ble_eq_true rfl) fun Q hQr hQn => ?_
  ((have hd := trivial; repeat' (first | ((first | apply GdK_st | apply GdK_sf | apply CondK_s) <;> intro hd <;> (try simp only [hd])) | simp (disch := first | assumption | omega | (simp only [nx] <;> omega) | fail) only [hd, hQr, hQn, c19_0, ↓YA, YB, YC, YE, YF, YZ, ↓reduceIte, Nat.reduceEqDiff, Nat.reduceAdd, Nat.reduceMul, Nat.reduceLeDiff, Int.reduceToNat, Int.reduceLE, Int.reduceLT, Int.reduceGT, Int.reduceGE, Int.reduceAdd, Int.reduceSub, Int.reduceNeg, Int.reduceBEq, Int.reduceBNe, rowsOf, rowsIn, hal, if_pos h1, List.nil_append, List.length_nil])) <;> (try (have hd_ : True := hd; clear hd_ hd)))
  all_goals exact fin_pure (AHeap.Ext.refl _).alloc rfl
abbrev Fct := List Int × Ag
def eFct (f : Fct) : List AV := .sl .no (rI f.1) :: eAg f.2
abbrev rF (fs : List Fct) : List (List AV) := fs.map eFct
theorem lt_at : ∀ {s : Nat} {a b : List Int} (ha : s < a.length) (hb : s < b.length), a.take s = b.take s → a[s] ≠ b[s] → decide (a < b) = decide (a[s] < b[s])
 | 0, x :: a, y :: b, _, _, _, hne => by
  have hne : x ≠ y := hne
  simp [List.cons_lt_cons_iff, hne]
 | s + 1, x :: a, y :: b, ha, hb, ht, hne => by
  simp only [List.take_succ_cons, List.cons.injEq] at ht
  obtain ⟨rfl, ht⟩ := ht
  have ih := lt_at (s := s) (a := a) (b := b) (by simpa using ha) (by simpa using hb) ht (by simpa using hne)
  simpa [List.cons_lt_cons_iff] using ih
theorem lt_end : ∀ {s : Nat} {a b : List Int}, s ≤ a.length → s ≤ b.length → a.take s = b.take s → (s = a.length ∨ s = b.length) → decide (a < b) = decide ((a.length : Int) < (b.length : Int))
 | 0, a, b, _, _, _, he => by
  cases a <;> cases b <;> simp_all <;> omega
 | s + 1, x :: a, y :: b, ha, hb, ht, he => by
  simp only [List.take_succ_cons, List.cons.injEq] at ht
  obtain ⟨rfl, ht⟩ := ht
  have ih := lt_end (s := s) (a := a) (b := b) (by simpa using ha) (by simpa using hb) ht (by simpa using he)
  simpa [List.cons_lt_cons_iff] using ih
set_option maxHeartbeats 2000000 in
theorem less_sound (f g : Fct) (H : AHeap) (hl : f.1.length ≤ 1000000) (hm : g.1.length ≤ 1000000) : Sound Try.prog 20 [.agg (eFct f), .agg (eFct g)] H (Pure H (.b (decide (f.1 < g.1)))) := by
 obtain ⟨ks, a⟩ := f
 obtain ⟨ms, b⟩ := g
 simp only at hl hm ⊢
 have e0 : (eFct (ks, a))[0]? = some (.sl .no (rI ks)) := rfl
 have e1 : (eFct (ms, b))[0]? = some (.sl .no (rI ms)) := rfl
 have el : (eFct (ks, a)).length = 11 := rfl
 have el1 : (eFct (ms, b)).length = 11 := rfl
 refine fn_soundQ hE cf20 (Nat.le_of_ble_eq_true rfl) fun Q hQr hQn => ?_
 ((have hd := trivial; repeat' (first | ((first | apply GdK_st | apply GdK_sf | apply CondK_s) <;> intro hd <;> (try simp only [hd])) | simp (disch := first | assumption | omega | (simp only [nx] <;> omega) | fail) only [hd, hQr, hQn, c20_0, ↓YA, YB, YC, YE, YF, YZ, ↓reduceIte, Nat.reduceEqDiff, Nat.reduceAdd, Nat.reduceMul, Nat.reduceLeDiff, Int.reduceToNat, Int.reduceLE, Int.reduceLT, Int.reduceGT, Int.reduceGE, Int.reduceAdd, Int.reduceSub, Int.reduceNeg, Int.reduceBEq, Int.reduceBNe, e0])) <;> (try (have hd_ : True := hd; clear hd_ hd)))
 have g2 : ((H.alloc (.cells (eFct (ks, a)) 38)).alloc (.cells (eFct (ms, b)) 38)).get H.next = some (.cells (eFct (ks, a)) 38) := by
  rw [AHeap.get_alloc_ne (by simp only [nx]; omega)]; exact AHeap.get_alloc_self
 have g3 : ((H.alloc (.cells (eFct (ks, a)) 38)).alloc (.cells (eFct (ms, b)) 38)).get (H.next + 1) = some (.cells (eFct (ms, b)) 38) := AHeap.get_alloc_self (H := H.alloc _)
 have hx0 : AHeap.Ext H ((H.alloc (.cells (eFct (ks, a)) 38)).alloc (.cells (eFct (ms, b)) 38)) := by exact AXT
 generalize (H.alloc (.cells (eFct (ks, a)) 38)).alloc (.cells (eFct (ms, b)) 38) = G0 at *
 have l2 := AHeap.lt g2
 have l3 := AHeap.lt g3
 refine AW_lop [2, 3] (σ := Nat) (fun s => s ≤ ks.length ∧ s ≤ ms.length ∧ ks.take s = ms.take s) (fun s => ks.length - s) (fun s => [(5, .i (s : Int))]) (fun s => []) (0 : Nat) (GStep.refl _ _) (by simp only [keep_nil, keep_cons, Fr.put, Fr.get, ↓reduceIte, Nat.reduceEqDiff]; rfl) ?_ (by simp only [FrL_nil, FrL_cons, Fr.put, Fr.get, ↓reduceIte, Nat.reduceEqDiff, and_self] <;> simp) (by simp only [ObjL_nil]) ?_
 ·exact ⟨Nat.zero_le _, Nat.zero_le _, rfl⟩
 ·(rintro s G ⟨hs1, hs2, ht⟩ hG hn1; try simp only [nx] at hn1)
  have h2 : G.get H.next = _ := (hG.get _ l2).trans g2
  have h3 : G.get (H.next + 1) = _ := (hG.get _ l3).trans g3
  have h0 : (0 : Int) ≤ (s : Int) := by omega
  by_cases c : s < ks.length
  ·have d1 : decide ((s : Int) < (ks.length : Int)) = true := by simp; omega
   by_cases c2 : s < ms.length
   ·have d2 : decide ((s : Int) < (ms.length : Int)) = true := by simp; omega
    by_cases he : ks[s] = ms[s]
    ·have d3 : (ks[s] != ms[s]) = false := by simp [he]
     ((have hd := trivial; repeat' (first | ((first | apply GdK_st | apply GdK_sf | apply CondK_s) <;> intro hd <;> (try simp only [hd])) | simp (disch := first | assumption | omega | (simp only [nx] <;> omega) | fail) only [hd, hQr, hQn, c20_0, ↓YA, YB, YC, YE, YF, YZ, ↓reduceIte, Nat.reduceEqDiff, Nat.reduceAdd, Nat.reduceMul, Nat.reduceLeDiff, Int.reduceToNat, Int.reduceLE, Int.reduceLT, Int.reduceGT, Int.reduceGE, Int.reduceAdd, Int.reduceSub, Int.reduceNeg, Int.reduceBEq, Int.reduceBNe, h2, h3, e0, e1, d1, d2, d3, List.length_map, h0, c, c2])) <;> (try (have hd_ : True := hd; clear hd_ hd)))
     refine ⟨s + 1, ⟨by omega, by omega, by rw [List.take_succ_eq_append_getElem c, List.take_succ_eq_append_getElem c2, ht, he]⟩, by omega, by simp, by exact HXT⟩
    ·have d3 : (ks[s] != ms[s]) = true := by simp [he]
     have hv := lt_at c c2 ht he
     ((have hd := trivial; repeat' (first | ((first | apply GdK_st | apply GdK_sf | apply CondK_s) <;> intro hd <;> (try simp only [hd])) | simp (disch := first | assumption | omega | (simp only [nx] <;> omega) | fail) only [hd, hQr, hQn, c20_0, ↓YA, YB, YC, YE, YF, YZ, ↓reduceIte, Nat.reduceEqDiff, Nat.reduceAdd, Nat.reduceMul, Nat.reduceLeDiff, Int.reduceToNat, Int.reduceLE, Int.reduceLT, Int.reduceGT, Int.reduceGE, Int.reduceAdd, Int.reduceSub, Int.reduceNeg, Int.reduceBEq, Int.reduceBNe, h2, h3, e0, e1, d1, d2, d3, List.length_map, h0, c, c2])) <;> (try (have hd_ : True := hd; clear hd_ hd)))
     exact fin_bA hv.symm (hx0.trans hG.ext)
   ·have d2 : decide ((s : Int) < (ms.length : Int)) = false := by simp; omega
    have hv := lt_end hs1 hs2 ht (.inr (by omega))
    ((have hd := trivial; repeat' (first | ((first | apply GdK_st | apply GdK_sf | apply CondK_s) <;> intro hd <;> (try simp only [hd])) | simp (disch := first | assumption | omega | (simp only [nx] <;> omega) | fail) only [hd, hQr, hQn, c20_0, ↓YA, YB, YC, YE, YF, YZ, ↓reduceIte, Nat.reduceEqDiff, Nat.reduceAdd, Nat.reduceMul, Nat.reduceLeDiff, Int.reduceToNat, Int.reduceLE, Int.reduceLT, Int.reduceGT, Int.reduceGE, Int.reduceAdd, Int.reduceSub, Int.reduceNeg, Int.reduceBEq, Int.reduceBNe, h2, h3, e0, e1, d1, d2, List.length_map, h0, c])) <;> (try (have hd_ : True := hd; clear hd_ hd)))
    exact fin_bA hv.symm (hx0.trans hG.ext)
  ·have d1 : decide ((s : Int) < (ks.length : Int)) = false := by simp; omega
   have hv := lt_end hs1 hs2 ht (.inl (by omega))
   ((have hd := trivial; repeat' (first | ((first | apply GdK_st | apply GdK_sf | apply CondK_s) <;> intro hd <;> (try simp only [hd])) | simp (disch := first | assumption | omega | (simp only [nx] <;> omega) | fail) only [hd, hQr, hQn, c20_0, ↓YA, YB, YC, YE, YF, YZ, ↓reduceIte, Nat.reduceEqDiff, Nat.reduceAdd, Nat.reduceMul, Nat.reduceLeDiff, Int.reduceToNat, Int.reduceLE, Int.reduceLT, Int.reduceGT, Int.reduceGE, Int.reduceAdd, Int.reduceSub, Int.reduceNeg, Int.reduceBEq, Int.reduceBNe, h2, h3, e0, e1, d1, List.length_map])) <;> (try (have hd_ : True := hd; clear hd_ hd)))
   exact fin_bA hv.symm (hx0.trans hG.ext)
end Go.Proofs.Ytafbdhoaoileiaa
