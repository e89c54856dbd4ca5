/- How many bits of a word are 1, by the way of adding up in pairs. -/
import Derived.Below
namespace Go.Proofs.Ytedjaahidncokaa.Pop

def pop (x : Nat) : Nat := (List.range 64).countP (fun i => x.testBit i)
def pop8 (x : Nat) : Nat := (List.range 8).countP (fun i => x.testBit i)

theorem and_join (q M r m : Nat) (hr : r < 256) (hm : m < 256) : (q * 256 + r) &&& (M * 256 + m) = (q &&& M) * 256 + (r &&& m) := by
  have hrm : r &&& m < 2 ^ 8 := Nat.and_lt_two_pow _ (by omega)
  apply Nat.eq_of_testBit_eq
  intro i
  have e : (256 : Nat) = 2 ^ 8 := rfl
  rw [e, Nat.mul_comm q, Nat.mul_comm M, Nat.mul_comm (q &&& M), Nat.testBit_and, Nat.testBit_two_pow_mul_add q (by omega), Nat.testBit_two_pow_mul_add M (by omega), Nat.testBit_two_pow_mul_add _ hrm]
  by_cases hi : i < 8 <;> simp [hi]

/-- the three steps on a word of n bytes, the masks 0x55.., 0x33.., 0x0f.. -/
def s1 (x M : Nat) : Nat := (x / 2 &&& M) + (x &&& M)
def s2 (x M : Nat) : Nat := (x / 4 &&& M) + (x &&& M)
def s3 (x M : Nat) : Nat := (x / 16 + x) &&& M

theorem sh_and (k : Nat) (q M r m : Nat) (hr : r < 256) (hm : m < 256) (hk : k ≤ 8) (hmk : m < 2 ^ (8 - k)) : (q * 256 + r) / 2 ^ k &&& (M * 256 + m) = (q / 2 ^ k &&& M) * 256 + (r / 2 ^ k &&& m) := by
  have h2 : 2 ^ k * 2 ^ (8 - k) = 256 := by rw [← Nat.pow_add, show k + (8 - k) = 8 by omega]
  have hpos : 0 < 2 ^ k := Nat.two_pow_pos k
  have h1 : (q * 256 + r) / 2 ^ k = q * 2 ^ (8 - k) + r / 2 ^ k := by
    rw [show q * 256 + r = r + 2 ^ k * (q * 2 ^ (8 - k)) by rw [← h2]; ac_rfl, Nat.add_mul_div_left _ _ hpos, Nat.add_comm]
  have hrk : r / 2 ^ k < 2 ^ (8 - k) := by rw [Nat.div_lt_iff_lt_mul hpos, Nat.mul_comm, h2]; exact hr
  have h3 : q * 2 ^ (8 - k) = q / 2 ^ k * 256 + q % 2 ^ k * 2 ^ (8 - k) := by
    have := Nat.div_add_mod q (2 ^ k)
    rw [← h2]
    calc q * 2 ^ (8 - k) = (2 ^ k * (q / 2 ^ k) + q % 2 ^ k) * 2 ^ (8 - k) := by rw [this]
      _ = _ := by rw [Nat.add_mul]; ac_rfl
  have hq : q % 2 ^ k < 2 ^ k := Nat.mod_lt _ hpos
  have hlow : q % 2 ^ k * 2 ^ (8 - k) + r / 2 ^ k < 256 := by
    have : q % 2 ^ k * 2 ^ (8 - k) + 2 ^ (8 - k) ≤ 256 := by
      rw [← h2, ← Nat.succ_mul]
      exact Nat.mul_le_mul_right _ hq
    omega
  rw [h1, h3, Nat.add_assoc, and_join _ _ _ _ hlow hm]
  congr 1
  apply Nat.eq_of_testBit_eq
  intro i
  rw [Nat.testBit_and, Nat.testBit_and, Nat.mul_comm (q % 2 ^ k), Nat.testBit_two_pow_mul_add _ hrk]
  by_cases hi : i < 8 - k
  · simp [hi]
  · have : m.testBit i = false := Nat.testBit_lt_two_pow (Nat.lt_of_lt_of_le hmk (Nat.pow_le_pow_right (by omega) (by omega)))
    simp [this]

theorem s1_join (q M r : Nat) (hr : r < 256) : s1 (q * 256 + r) (M * 256 + 85) = s1 q M * 256 + s1 r 85 := by
  have h := sh_and 1 q M r 85 hr (by omega) (by omega) (by omega)
  unfold s1
  simp only [Nat.pow_one] at h
  rw [h, and_join _ _ _ _ hr (by omega)]; omega
theorem s2_join (q M r : Nat) (hr : r < 256) : s2 (q * 256 + r) (M * 256 + 51) = s2 q M * 256 + s2 r 51 := by
  have h := sh_and 2 q M r 51 hr (by omega) (by omega) (by omega)
  unfold s2
  rw [show (2 : Nat) ^ 2 = 4 from rfl] at h
  rw [h, and_join _ _ _ _ hr (by omega)]; omega
/-- the third step: no half byte is above 4, so nothing is carried from one byte into the next -/
theorem s3_join (q M r : Nat) (hq : q % 16 ≤ 4) (hr : r % 16 ≤ 4) (hr2 : r / 16 ≤ 4) : s3 (q * 256 + r) (M * 256 + 15) = s3 q M * 256 + s3 r 15 := by
  unfold s3
  have h1 : (q * 256 + r) / 16 + (q * 256 + r) = (q / 16 + q) * 256 + (q % 16 * 16 + (r / 16 + r)) := by omega
  rw [h1, and_join _ _ _ _ (by omega) (by omega)]
  congr 1
  apply Nat.eq_of_testBit_eq
  intro i
  have e2 : q % 16 * 16 + (r / 16 + r) = 2 ^ 4 * (q % 16 + r / 16) + (r / 16 + r % 16) := by omega
  have e3 : r / 16 + r = 2 ^ 4 * (r / 16) + (r / 16 + r % 16) := by omega
  rw [e2, e3, Nat.testBit_and, Nat.testBit_and, Nat.testBit_two_pow_mul_add _ (by omega), Nat.testBit_two_pow_mul_add _ (by omega)]
  by_cases hi : i < 4
  · simp [hi]
  · have h15 : (15 : Nat) < 2 ^ 4 := by omega
    have : Nat.testBit 15 i = false := Nat.testBit_lt_two_pow (Nat.lt_of_lt_of_le h15 (Nat.pow_le_pow_right (by omega) (by omega)))
    simp [this]

theorem byte_all : ∀ r : Fin 256, s1 r.val 85 < 256 ∧ s2 (s1 r.val 85) 51 % 16 ≤ 4 ∧ s2 (s1 r.val 85) 51 / 16 ≤ 4 ∧ s3 (s2 (s1 r.val 85) 51) 15 = pop8 r.val ∧ pop8 r.val ≤ 8 := by decide +kernel

def mk (b : Nat) : Nat → Nat
  | 0 => 0
  | n + 1 => mk b n * 256 + b
def cs : Nat → Nat → Nat
  | 0, _ => 0
  | n + 1, x => cs n (x / 256) * 256 + pop8 (x % 256)
def total : Nat → Nat → Nat
  | 0, _ => 0
  | n + 1, x => total n (x / 256) + pop8 (x % 256)

theorem steps (n : Nat) : ∀ x, x < 256 ^ n → s3 (s2 (s1 x (mk 85 n)) (mk 51 n)) (mk 15 n) = cs n x ∧ s2 (s1 x (mk 85 n)) (mk 51 n) % 16 ≤ 4 := by
  induction n with
  | zero => intro x _; simp [mk, cs, s3, s2]
  | succ n ih =>
    intro x hx
    have hq : x / 256 < 256 ^ n := by rw [Nat.div_lt_iff_lt_mul (by omega)]; rw [Nat.pow_succ] at hx; exact hx
    have hr : x % 256 < 256 := Nat.mod_lt _ (by omega)
    obtain ⟨h1, h2⟩ := ih (x / 256) hq
    obtain ⟨b1, b2, b3, b4, _⟩ := byte_all ⟨x % 256, hr⟩
    simp only at b1 b2 b3 b4
    have e1 := s1_join (x / 256) (mk 85 n) (x % 256) hr
    rw [show x / 256 * 256 + x % 256 = x by omega] at e1
    have e2 := s2_join (s1 (x / 256) (mk 85 n)) (mk 51 n) (s1 (x % 256) 85) b1
    have e3 := s3_join (s2 (s1 (x / 256) (mk 85 n)) (mk 51 n)) (mk 15 n) (s2 (s1 (x % 256) 85) 51) h2 b2 b3
    simp only [mk]
    rw [e1, e2, e3, h1, b4]
    refine ⟨rfl, ?_⟩
    omega

theorem countP_range_add (p : Nat → Bool) (a b : Nat) : (List.range (a + b)).countP p = (List.range a).countP p + (List.range b).countP (fun i => p (a + i)) := by
  rw [List.range_add, List.countP_append, List.countP_map]; rfl
theorem countP_congr_range (p q : Nat → Bool) (n : Nat) (h : ∀ i, i < n → p i = q i) : (List.range n).countP p = (List.range n).countP q := by
  apply List.countP_congr
  intro x hx
  rw [h x (List.mem_range.1 hx)]
theorem total_eq (n : Nat) : ∀ x, total n x = (List.range (8 * n)).countP (fun i => x.testBit i) := by
  induction n with
  | zero => intro x; simp [total]
  | succ n ih =>
    intro x
    rw [show 8 * (n + 1) = 8 + 8 * n by omega, countP_range_add, total, ih, Nat.add_comm]
    congr 1
    · unfold pop8
      apply countP_congr_range
      intro i hi
      rw [show (256 : Nat) = 2 ^ 8 from rfl, Nat.testBit_mod_two_pow]; simp [hi]
    · apply countP_congr_range
      intro i _
      rw [show (256 : Nat) = 2 ^ 8 from rfl, Nat.testBit_div_two_pow, Nat.add_comm]
theorem total_pop (x : Nat) : total 8 x = pop x := total_eq 8 x

theorem pop8_le (x : Nat) : pop8 x ≤ 8 := by unfold pop8; exact Nat.le_trans (List.countP_le_length) (by simp)
theorem d1 (c X : Nat) (h : c ≤ 8) : (c + 256 * X) / 256 = X := by omega
theorem d2 (c0 c1 X2 X3 Y c2 : Nat) (h0 : c0 ≤ 8) (h1 : c1 ≤ 8) (h2 : c2 ≤ 8) (hY : Y = (c0 + 256 * (c1 + 256 * X2)) + (c1 + 256 * (c2 + 256 * X3))) : Y / 65536 = X2 + X3 := by omega
theorem d3 (c0 c1 c2 c3 c4 c5 c6 X4 X5 X6 X7 Z : Nat) (h0 : c0 ≤ 8) (h1 : c1 ≤ 8) (h2 : c2 ≤ 8) (h3 : c3 ≤ 8) (h4 : c4 ≤ 8) (h5 : c5 ≤ 8) (h6 : c6 ≤ 8)
    (hZ : Z = (c0 + 256 * c1 + 65536 * c2 + 16777216 * c3 + (c1 + 256 * c2 + 65536 * c3 + 16777216 * c4) + (c2 + 256 * c3 + 65536 * c4 + 16777216 * c5) + (c3 + 256 * c4 + 65536 * c5 + 16777216 * c6)) + 4294967296 * (X4 + X5 + X6 + X7)) : Z / 4294967296 = X4 + X5 + X6 + X7 := by omega
/-- the last three steps -/
theorem last (x : Nat) : (cs 8 x) + (cs 8 x) / 256 + ((cs 8 x) + (cs 8 x) / 256) / 65536 + ((cs 8 x) + (cs 8 x) / 256 + ((cs 8 x) + (cs 8 x) / 256) / 65536) / 4294967296 < 4611686018427387904 ∧
    ((cs 8 x) + (cs 8 x) / 256 + ((cs 8 x) + (cs 8 x) / 256) / 65536 + ((cs 8 x) + (cs 8 x) / 256 + ((cs 8 x) + (cs 8 x) / 256) / 65536) / 4294967296) % 128 = total 8 x ∧
    cs 8 x < 1000000000000000000 := by
  simp only [cs, total]
  have h0 := pop8_le (x % 256)
  have h1 := pop8_le (x / 256 % 256)
  have h2 := pop8_le (x / 256 / 256 % 256)
  have h3 := pop8_le (x / 256 / 256 / 256 % 256)
  have h4 := pop8_le (x / 256 / 256 / 256 / 256 % 256)
  have h5 := pop8_le (x / 256 / 256 / 256 / 256 / 256 % 256)
  have h6 := pop8_le (x / 256 / 256 / 256 / 256 / 256 / 256 % 256)
  have h7 := pop8_le (x / 256 / 256 / 256 / 256 / 256 / 256 / 256 % 256)
  generalize pop8 (x % 256) = c0 at *
  generalize pop8 (x / 256 % 256) = c1 at *
  generalize pop8 (x / 256 / 256 % 256) = c2 at *
  generalize pop8 (x / 256 / 256 / 256 % 256) = c3 at *
  generalize pop8 (x / 256 / 256 / 256 / 256 % 256) = c4 at *
  generalize pop8 (x / 256 / 256 / 256 / 256 / 256 % 256) = c5 at *
  generalize pop8 (x / 256 / 256 / 256 / 256 / 256 / 256 % 256) = c6 at *
  generalize pop8 (x / 256 / 256 / 256 / 256 / 256 / 256 / 256 % 256) = c7 at *
  obtain ⟨X7, e7⟩ : ∃ X, X = c7 := ⟨_, rfl⟩
  obtain ⟨X6, e6⟩ : ∃ X, X = c6 + 256 * X7 := ⟨_, rfl⟩
  obtain ⟨X5, e5⟩ : ∃ X, X = c5 + 256 * X6 := ⟨_, rfl⟩
  obtain ⟨X4, e4⟩ : ∃ X, X = c4 + 256 * X5 := ⟨_, rfl⟩
  obtain ⟨X3, e3⟩ : ∃ X, X = c3 + 256 * X4 := ⟨_, rfl⟩
  obtain ⟨X2, e2⟩ : ∃ X, X = c2 + 256 * X3 := ⟨_, rfl⟩
  obtain ⟨X1, e1⟩ : ∃ X, X = c1 + 256 * X2 := ⟨_, rfl⟩
  obtain ⟨X0, e0⟩ : ∃ X, X = c0 + 256 * X1 := ⟨_, rfl⟩
  have ex : (((((((0 * 256 + c7) * 256 + c6) * 256 + c5) * 256 + c4) * 256 + c3) * 256 + c2) * 256 + c1) * 256 + c0 = X0 := by
    rw [e0, e1, e2, e3, e4, e5, e6, e7]; clear h0 h1 h2 h3 h4 h5 h6 h7 e0 e1 e2 e3 e4 e5 e6 e7; omega
  rw [ex]
  have f1 : X0 / 256 = X1 := by rw [e0]; exact d1 _ _ h0
  rw [f1]
  have f2 : (X0 + X1) / 65536 = X2 + X3 := d2 c0 c1 X2 X3 _ c2 h0 h1 h2 (by rw [e0, e1, e2])
  rw [f2]
  have f3 : (X0 + X1 + (X2 + X3)) / 4294967296 = X4 + X5 + X6 + X7 := by
    refine d3 c0 c1 c2 c3 c4 c5 c6 X4 X5 X6 X7 _ h0 h1 h2 h3 h4 h5 h6 ?_
    clear f1 f2 ex e7 h0 h1 h2 h3 h4 h5 h6 h7
    omega
  rw [f3]
  clear f1 f2 f3 ex
  have g7 : X7 ≤ 8 := by omega
  have g6 : X6 ≤ 2056 := by omega
  have g5 : X5 ≤ 526344 := by omega
  have g4 : X4 ≤ 134744072 := by omega
  have g3 : X3 ≤ 34494482440 := by omega
  have g2 : X2 ≤ 8830587504648 := by omega
  have g1 : X1 ≤ 2260630401189896 := by omega
  have g0 : X0 ≤ 578721382704613384 := by omega
  refine ⟨?_, ?_, ?_⟩
  · clear e0 e1 e2 e3 e4 e5 e6 e7; omega
  · clear g0 g1 g2 g3 g4 g5 g6 g7; omega
  · clear e0 e1 e2 e3 e4 e5 e6 e7; omega
end Go.Proofs.Ytedjaahidncokaa.Pop
