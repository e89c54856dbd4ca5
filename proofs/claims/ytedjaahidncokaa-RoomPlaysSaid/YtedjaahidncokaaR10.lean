/- Layer 10 (room): what each method does to a room that a call made. -/
import Derived.Test.YtedjaahidncokaaRows
import Derived.Test.YtedjaahidncokaaV
import Derived.Test.YtedjaahidncokaaPop
namespace Go.Proofs.Ytedjaahidncokaa
open Go.RowKit

def bit (ws : List Nat) (i : Nat) : Bool := (ws.getD (i / 64) 0).testBit (i % 64)
def flip (ws : List Nat) (i : Nat) : List Nat := ws.set (i / 64) (ws.getD (i / 64) 0 ^^^ 2 ^ (i % 64))
theorem flip_len (ws : List Nat) (i : Nat) : (flip ws i).length = ws.length := by simp [flip]
theorem bit_flip (ws : List Nat) (i j : Nat) (hi : i / 64 < ws.length) : bit (flip ws i) j = (bit ws j ^^ decide (i = j)) := by
  unfold bit flip
  by_cases hd : i / 64 = j / 64
  · rw [← hd, List.getD_eq_getElem?_getD, List.getElem?_set_self hi]
    simp only [Option.getD_some]
    rw [Nat.testBit_xor, Nat.testBit_two_pow]
    have : decide (i % 64 = j % 64) = decide (i = j) := by
      by_cases h : i = j
      · subst h; simp
      · have : ¬ i % 64 = j % 64 := by omega
        simp [h, this]
    rw [this]
  · have hne : ¬ i = j := by intro h; subst h; exact hd rfl
    rw [List.getD_eq_getElem?_getD, List.getElem?_set_ne hd]
    simp [hne]
theorem flip_lt (ws : List Nat) (i : Nat) (h : ∀ x ∈ ws, x < 18446744073709551616) : ∀ x ∈ flip ws i, x < 18446744073709551616 := by
  intro x hx
  unfold flip at hx
  rcases List.mem_or_eq_of_mem_set hx with hx | rfl
  · exact h x hx
  · have h1 : ws.getD (i / 64) 0 < 2 ^ 64 := by
      rw [List.getD_eq_getElem?_getD]
      rcases hg : ws[i / 64]? with _ | y
      · simp
      · simp only [Option.getD_some]
        exact h y (List.mem_of_getElem? hg)
    have h2 : 2 ^ (i % 64) < 2 ^ 64 := Nat.pow_lt_pow_right (by omega) (by omega)
    exact Nat.xor_lt_two_pow h1 h2

def RoomAt (w : World) (g gw n : Nat) (ws : List Nat) : Prop :=
  Blk w g 46 [.slice (some ⟨gw, 0, none⟩) ws.length ws.length, .int .i64 n] ∧ Blk w gw 51 (nums ws) ∧ ws.length = (n + 63) / 64 ∧ 1 ≤ n ∧ n ≤ 2047 ∧ ∀ x ∈ ws, x < 18446744073709551616

section
variable {w w' : World} {g gw n : Nat} {ws : List Nat}
theorem RoomAt.ne (h : RoomAt w g gw n ws) : g ≠ gw := Blk.ne h.1 h.2.1 (by decide)
theorem RoomAt.kp {S : Nat → Prop} (h : RoomAt w g gw n ws) (k : Kp S w w') (h1 : ¬ S g) (h2 : ¬ S gw) : RoomAt w' g gw n ws := ⟨h.1.kp k h1, h.2.1.kp k h2, h.2.2⟩
theorem RoomAt.c0 (h : RoomAt w g gw n ws) : w.cell? ⟨g, 0, none⟩ = some (.slice (some ⟨gw, 0, none⟩) ws.length ws.length) := by rw [h.1.cell]; rfl
theorem RoomAt.c1 (h : RoomAt w g gw n ws) : w.cell? ⟨g, 1, none⟩ = some (.int .i64 n) := by rw [h.1.cell]; rfl
theorem RoomAt.cw (h : RoomAt w g gw n ws) {i : Nat} (hi : i < ws.length) : w.cell? ⟨gw, i, none⟩ = some (.int .u64 (ws[i] : Int)) := by rw [h.2.1.cell, nums_get hi]
theorem RoomAt.lenI (h : RoomAt w g gw n ws) {i : Nat} (hi : i < n) : i / 64 < ws.length := by have := h.2.2.1; omega
end
def usedB (ws : List Nat) (n : Nat) (i : Int) : Bool := decide (0 ≤ i) && decide (i < n) && bit ws i.toNat

set_option maxHeartbeats 400000 in
theorem there_yes (g : Nat) (n i : Int) (w : World) (h1 : w.cell? ⟨g, 1, none⟩ = some (.int .i64 n)) (h2 : 0 ≤ i) (h3 : i < n) :
    Calls Try.prog 23 #[.pointer (some ⟨g, 0, none⟩), .int .i64 i] w fun e w' => e = .returned (.bool true) ∧ w = w' := by
  go_enter Try.func23, Try.ntmps23
  go_wp2
  go_ret
  simp
set_option maxHeartbeats 400000 in
theorem there_no (g : Nat) (n i : Int) (w : World) (h1 : w.cell? ⟨g, 1, none⟩ = some (.int .i64 n)) (h2 : i < 0 ∨ n ≤ i) :
    Calls Try.prog 23 #[.pointer (some ⟨g, 0, none⟩), .int .i64 i] w fun e w' => e = .returned (.bool false) ∧ w = w' := by
  by_cases h3 : i < 0
  · clear h2
    go_enter Try.func23, Try.ntmps23
    go_wp2
    go_ret
    simp
  · have h4 : n ≤ i := by omega
    clear h2
    go_enter Try.func23, Try.ntmps23
    go_wp2
    go_ret
    simpa using h4
set_option maxHeartbeats 400000 in
theorem there_nil (i : Int) (w : World) :
    Calls Try.prog 23 #[.pointer none, .int .i64 i] w fun e w' => e = .returned (.bool false) ∧ w = w' := by
  go_enter Try.func23, Try.ntmps23
  go_wp2
  go_ret
  simp

theorem and_one_bit (x k : Nat) (hx : x < 18446744073709551616) : (bits BinOp.and IntKind.u64 ((x : Int) / 2 ^ k) 1 == 1) = x.testBit k := by
  have e : (x : Int) / 2 ^ k = ((x / 2 ^ k : Nat) : Int) := by simp
  have hlt : x / 2 ^ k < 18446744073709551616 := Nat.lt_of_le_of_lt (Nat.div_le_self _ _) hx
  have h := u64_and_nat (x / 2 ^ k) 1 hlt (by omega)
  rw [e]
  have e1 : ((1 : Nat) : Int) = 1 := rfl
  rw [e1] at h
  rw [h, Nat.and_one_is_mod, Nat.testBit_eq_decide_div_mod_eq]
  by_cases h1 : x / 2 ^ k % 2 = 1
  · simp [h1]
  · have h0 : x / 2 ^ k % 2 = 0 := by omega
    simp [h0]

set_option maxHeartbeats 400000 in
theorem used_in (g gw n : Nat) (ws : List Nat) (i : Nat) (w : World) (h : RoomAt w g gw n ws) (hi : i < n) :
    Calls Try.prog 17 #[.pointer (some ⟨g, 0, none⟩), .int .i64 i] w fun e w' => e = .returned (.bool (bit ws i)) ∧ w = w' := by
  have h0 := h.c0
  have h1 := h.c1
  have hl := h.lenI hi
  have hx := h.cw hl
  have hn : (n : Int) ≤ 2047 := by have := h.2.2.2.2.1; omega
  have hb : Hid ((bits BinOp.and IntKind.u64 ((ws[i / 64] : Int) / 2 ^ (i % 64)) 1 == 1) = bit ws i) := by
    rw [and_one_bit _ _ (h.2.2.2.2.2 _ (List.getElem_mem hl))]
    unfold bit Hid
    rw [List.getD_eq_getElem?_getD, List.getElem?_eq_getElem hl]; rfl
  clear h
  go_enter Try.func17, Try.ntmps17
  go_wp2_with (go_at_call 23; refine (there_yes g n i _ (by assumption) (by omega) (by omega)).mono ?_; rintro e w' ⟨rfl, rfl⟩)
  go_ret
  exact ⟨by rw [← hb.out]; rfl, rfl⟩
set_option maxHeartbeats 400000 in
theorem used_out (g gw n : Nat) (ws : List Nat) (i : Int) (w : World) (h : RoomAt w g gw n ws) (hi : i < 0 ∨ n ≤ i) :
    Calls Try.prog 17 #[.pointer (some ⟨g, 0, none⟩), .int .i64 i] w fun e w' => e = .returned (.bool false) ∧ w = w' := by
  have h1 := h.c1
  clear h
  go_enter Try.func17, Try.ntmps17
  go_wp2_with (go_at_call 23; refine (there_no g n i _ (by assumption) hi).mono ?_; rintro e w' ⟨rfl, rfl⟩)
  go_ret
  exact ⟨rfl, rfl⟩
theorem used_any (g gw n : Nat) (ws : List Nat) (i : Int) (w : World) (h : RoomAt w g gw n ws) :
    Calls Try.prog 17 #[.pointer (some ⟨g, 0, none⟩), .int .i64 i] w fun e w' => e = .returned (.bool (usedB ws n i)) ∧ w = w' := by
  by_cases hi : 0 ≤ i ∧ i < n
  · obtain ⟨k, rfl⟩ := Int.eq_ofNat_of_zero_le hi.1
    have hk : k < n := by omega
    have hu : usedB ws n (k : Int) = bit ws k := by simp [usedB, hk]
    rw [hu]
    exact used_in g gw n ws k w h hk
  · have hu : usedB ws n i = false := by
      unfold usedB
      by_cases h0 : 0 ≤ i
      · have : ¬ i < n := by omega
        simp [this]
      · simp [h0]
    rw [hu]
    exact used_out g gw n ws i w h (by omega)

theorem xor_bit (ws : List Nat) (i : Nat) (hl : i / 64 < ws.length) (hx : ws[i / 64] < 18446744073709551616) :
    bits BinOp.xor IntKind.u64 (ws[i / 64] : Int) (IntKind.u64.wrap (2 ^ (i % 64))) = ((ws.getD (i / 64) 0 ^^^ 2 ^ (i % 64) : Nat) : Int) := by
  have h2 : 2 ^ (i % 64) < 2 ^ 64 := Nat.pow_lt_pow_right (by omega) (by omega)
  have e : IntKind.u64.wrap (2 ^ (i % 64)) = ((2 ^ (i % 64) : Nat) : Int) := by
    have : ((2 : Int) ^ (i % 64)) = ((2 ^ (i % 64) : Nat) : Int) := by simp
    rw [this]
    generalize 2 ^ (i % 64) = y at h2
    simp only [IntKind.wrap, IntKind.bits, IntKind.signed]
    simp
    omega
  rw [e, u64_xor_nat _ _ hx h2, List.getD_eq_getElem?_getD, List.getElem?_eq_getElem hl]
  rfl
set_option maxHeartbeats 400000 in
theorem turn_any (g gw n : Nat) (ws : List Nat) (i : Nat) (w : World) (h : RoomAt w g gw n ws) (hi : i < n) :
    Calls Try.prog 22 #[.pointer (some ⟨g, 0, none⟩), .int .i64 i] w fun e w' => e = .returned (.tuple #[]) ∧ RoomAt w' g gw n (flip ws i) ∧ Kp (· = gw) w w' := by
  have h0 := h.c0
  have h1 := h.c1
  have hl := h.lenI hi
  have hx := h.cw hl
  have hn : (i : Int) ≤ 2047 := by have := h.2.2.2.2.1; omega
  have hf := h.2.1.frozen (i / 64)
  have H := Lib.hid h
  clear h
  go_enter Try.func22, Try.ntmps22
  go_region
  all_goals
    go_end0
    have hr := H.out
    have e : bits BinOp.xor IntKind.u64 (ws[i / 64] : Int) (IntKind.u64.wrap (2 ^ (i % 64))) = ((ws.getD (i / 64) 0 ^^^ 2 ^ (i % 64) : Nat) : Int) := xor_bit ws i hl (hr.2.2.2.2.2 _ (List.getElem_mem hl))
    rw [e]
    refine ⟨rfl, ⟨?_, ?_, by rw [flip_len]; exact hr.2.2.1, hr.2.2.2.1, hr.2.2.2.2.1, flip_lt ws i hr.2.2.2.2.2⟩, ((Kp.refl (· = gw) w).setCell (p := ⟨gw, i / 64, none⟩) (.inl rfl) _).drew⟩
    · rw [flip_len]
      exact hr.1.far (p := ⟨gw, i / 64, none⟩) hr.ne _
    · have := hr.2.1.set (i / 64) (.int .u64 ((ws.getD (i / 64) 0 ^^^ 2 ^ (i % 64) : Nat) : Int))
      rw [nums_set] at this
      exact this

theorem bits_shr_and (x k M : Nat) (hx : x < 18446744073709551616) (hM : M < 18446744073709551616) : bits BinOp.and IntKind.u64 ((x : Int) / (2 ^ k : Nat)) (M : Int) = ((x / 2 ^ k &&& M : Nat) : Int) := by
  have e : (x : Int) / ((2 ^ k : Nat) : Int) = ((x / 2 ^ k : Nat) : Int) := by simp
  rw [e]
  exact u64_and_nat _ _ (Nat.lt_of_le_of_lt (Nat.div_le_self _ _) hx) hM

theorem wrap_u64_nat (n : Nat) (h : n < 18446744073709551616) : IntKind.u64.wrap (n : Int) = n := by
  simp only [IntKind.wrap, IntKind.bits, IntKind.signed]
  simp
  omega
def M0 : Nat := 6148914691236517205
def M1 : Nat := 3689348814741910323
def M2 : Nat := 1085102592571150095
theorem mk0 : Pop.mk 85 8 = M0 := by decide
theorem mk1 : Pop.mk 51 8 = M1 := by decide
theorem mk2 : Pop.mk 15 8 = M2 := by decide
theorem and_le (x m : Nat) : x &&& m ≤ m := Nat.and_le_right
theorem one1 (x : Nat) (hx : x < 18446744073709551616) : IntKind.u64.wrap (bits BinOp.and IntKind.u64 ((x : Int) / 2) 6148914691236517205 + bits BinOp.and IntKind.u64 (x : Int) 6148914691236517205) = ((Pop.s1 x M0 : Nat) : Int) := by
  have e1 := u64_and_nat (x / 2) M0 (by omega) (by unfold M0; omega)
  have e2 := u64_and_nat x M0 hx (by unfold M0; omega)
  have e3 : ((M0 : Nat) : Int) = 6148914691236517205 := rfl
  have e4 : ((x / 2 : Nat) : Int) = (x : Int) / 2 := by omega
  rw [e3] at e1 e2
  rw [e4] at e1
  rw [e1, e2, ← Int.natCast_add]
  have h1 := and_le (x / 2) M0
  have h2 := and_le x M0
  exact wrap_u64_nat _ (by unfold M0 at *; omega)
theorem one2 (x : Nat) (hx : x < 18446744073709551616) : IntKind.u64.wrap (bits BinOp.and IntKind.u64 ((x : Int) / 4) 3689348814741910323 + bits BinOp.and IntKind.u64 (x : Int) 3689348814741910323) = ((Pop.s2 x M1 : Nat) : Int) := by
  have e1 := u64_and_nat (x / 4) M1 (by omega) (by unfold M1; omega)
  have e2 := u64_and_nat x M1 hx (by unfold M1; omega)
  have e3 : ((M1 : Nat) : Int) = 3689348814741910323 := rfl
  have e4 : ((x / 4 : Nat) : Int) = (x : Int) / 4 := by omega
  rw [e3] at e1 e2
  rw [e4] at e1
  rw [e1, e2, ← Int.natCast_add]
  have h1 := and_le (x / 4) M1
  have h2 := and_le x M1
  exact wrap_u64_nat _ (by unfold M1 at *; omega)
theorem one3 (x : Nat) (hx : x < 9000000000000000000) : bits BinOp.and IntKind.u64 (IntKind.u64.wrap ((x : Int) / 16 + (x : Int))) 1085102592571150095 = ((Pop.s3 x M2 : Nat) : Int) := by
  have e4 : (x : Int) / 16 + (x : Int) = ((x / 16 + x : Nat) : Int) := by omega
  rw [e4, wrap_u64_nat _ (by omega)]
  have e2 := u64_and_nat (x / 16 + x) M2 (by omega) (by unfold M2; omega)
  have e3 : ((M2 : Nat) : Int) = 1085102592571150095 := rfl
  rw [e3] at e2
  exact e2
theorem one4 (x k m : Nat) (hk : ((k : Nat) : Int) = (m : Int)) (hx : x + x / k < 18446744073709551616) : IntKind.u64.wrap ((x : Int) + (x : Int) / (m : Int)) = ((x + x / k : Nat) : Int) := by
  have e : (x : Int) + (x : Int) / (m : Int) = ((x + x / k : Nat) : Int) := by rw [← hk]; simp
  rw [e, wrap_u64_nat _ hx]
theorem one5 (x : Nat) (hx : x < 4611686018427387904) : bits BinOp.and IntKind.i64 (IntKind.i64.wrap (x : Int)) 127 = ((x % 128 : Nat) : Int) := by
  have e : IntKind.i64.wrap (x : Int) = (x : Int) := by rw [IntKind.wrap_i64]; omega
  have e1 : (BitVec.ofInt 64 (x : Int)).toNat = x := by rw [BitVec.ofInt_natCast, BitVec.toNat_ofNat]; exact Nat.mod_eq_of_lt (by omega)
  have e2 : (BitVec.ofInt 64 (127 : Int)).toNat = 127 := by decide
  rw [e]
  show IntKind.i64.wrap ((BitVec.ofInt 64 (x : Int) &&& BitVec.ofInt 64 (127 : Int)).toNat : Int) = _
  rw [BitVec.toNat_and, e1, e2, nat_mask7, IntKind.wrap_i64]
  omega
theorem one6 (x : Nat) (hx : x < 4611686018427387904) : bits BinOp.and IntKind.i64 (x : Int) 127 = ((x % 128 : Nat) : Int) := by
  have h := one5 x hx
  have e : IntKind.i64.wrap (x : Int) = (x : Int) := by rw [IntKind.wrap_i64]; omega
  rwa [e] at h
theorem in64 (x : Nat) (hx : x < 4611686018427387904) : -9223372036854775808 ≤ (x : Int) ∧ (x : Int) ≤ 9223372036854775807 := ⟨by omega, by omega⟩

set_option maxHeartbeats 400000 in
theorem ones_any (x : Nat) (w : World) (hx : x < 18446744073709551616) :
    Calls Try.prog 24 #[.int .u64 x] w fun e w' => e = .returned (.int .i64 (Pop.pop x)) ∧ w = w' := by
  go_enter Try.func24, Try.ntmps24
  go_wp2
  go_ret
  have hs := (Pop.steps 8 x hx).1
  rw [mk0, mk1, mk2] at hs
  obtain ⟨l1, l2, l3⟩ := Pop.last x
  refine ⟨?_, rfl⟩
  simp only [one1 x hx]
  have b1 : Pop.s1 x M0 < 18446744073709551616 := by
    have h1 := and_le (x / 2) M0
    have h2 := and_le x M0
    unfold Pop.s1 M0 at *; omega
  simp only [one2 _ b1]
  have b2 : Pop.s2 (Pop.s1 x M0) M1 < 9000000000000000000 := by
    have h1 := and_le ((Pop.s1 x M0) / 4) M1
    have h2 := and_le (Pop.s1 x M0) M1
    unfold Pop.s2 M1 at *; omega
  simp only [one3 _ b2, hs]
  have ht := Pop.total_pop x
  generalize Pop.cs 8 x = y at *
  have f1 : IntKind.u64.wrap ((y : Int) + (y : Int) / 256) = ((y + y / 256 : Nat) : Int) := one4 y 256 256 rfl (by omega)
  simp only [f1]
  generalize y + y / 256 = y1 at *
  have f2 : IntKind.u64.wrap ((y1 : Int) + (y1 : Int) / 65536) = ((y1 + y1 / 65536 : Nat) : Int) := one4 y1 65536 65536 rfl (by omega)
  simp only [f2]
  generalize y1 + y1 / 65536 = y2 at *
  have f3 : IntKind.u64.wrap ((y2 : Int) + (y2 : Int) / 4294967296) = ((y2 + y2 / 4294967296 : Nat) : Int) := one4 y2 4294967296 4294967296 rfl (by omega)
  simp only [f3]
  generalize y2 + y2 / 4294967296 = y3 at *
  have f4 : wrap64 (y3 : Int) = (y3 : Int) := IntWalk.wrap64_in _ (in64 y3 l1)
  have f5 : bits BinOp.and IntKind.i64 (y3 : Int) 127 = ((y3 % 128 : Nat) : Int) := one6 y3 l1
  simp only [f4, f5, l2, ht]
  rfl
end Go.Proofs.Ytedjaahidncokaa
