/- Layer 10: New, Take. -/
import Derived.Test.YtedjaahidncokaaR10c
import Derived.Deep.OwnRows
namespace Go.Proofs.Ytedjaahidncokaa
open Go.RowKit

theorem made_cells (z : Value) (n : Nat) : madeCells #[z] n = (List.replicate n z).toArray := by
  unfold madeCells
  apply Array.ext'
  simp
  apply List.ext_getElem
  · simp
  · intro i h1 h2
    have : i % 1 = 0 := by omega
    simp [this]
theorem u64_info : (Try.prog.info? 51).map (fun i => (i.zero, i.size, i.bytes)) = some (some (.int .u64 0), 1, 8) := by kernel_rfl

theorem bit_zero (k i : Nat) : bit (List.replicate k 0) i = false := by
  unfold bit
  rw [List.getD_eq_getElem?_getD, List.getElem?_replicate]
  split <;> simp

def NewPost (w : World) (n : Nat) (e : Ending) (w' : World) : Prop :=
  ∃ g gw : Nat, e = .returned (.tuple #[.pointer (some ⟨g, 0, none⟩), .int .i64 0]) ∧ w.heap.size ≤ g ∧ w.heap.size ≤ gw ∧ RoomAt w' g gw n (List.replicate ((n + 63) / 64) 0) ∧ Below w.heap.size w w'

set_option maxHeartbeats 400000 in
theorem new_no (n : Int) (w : World) (h : n < 1 ∨ 2047 < n) :
    Calls Try.prog 8 #[.int .i64 n] w fun e w' => e = .returned (.tuple #[.pointer none, .int .i64 2]) ∧ w = w' := by
  by_cases h1 : n < 1
  · clear h
    go_enter Try.func8, Try.ntmps8
    go_wp2
    go_ret2
    exact ⟨rfl, rfl⟩
  · have h2 : 2047 < n := by omega
    clear h
    go_enter Try.func8, Try.ntmps8
    go_wp2
    go_ret2
    exact ⟨rfl, rfl⟩

set_option maxHeartbeats 400000 in
theorem new_yes (n : Nat) (w : World) (h1 : 1 ≤ n) (h2 : n ≤ 2047) : Calls Try.prog 8 #[.int .i64 n] w (NewPost w n) := by
  have hmk : ∀ W : World, (Instr.makeSlice 44 (.int .i64 (((n : Int) + 63) / 64)) (.int .i64 (((n : Int) + 63) / 64))).run Try.prog W =
      .ok (.slice (some ⟨W.heap.size, 0, none⟩) ((n + 63) / 64) ((n + 63) / 64)) (W.alloc (.cells (madeCells #[.int .u64 0] ((n + 63) / 64)) 51)) := by
    intro W
    have ec : ((n : Int) + 63) / 64 = (((n + 63) / 64 : Nat) : Int) := by omega
    rw [ec]
    exact run_make_row' 44 51 (.int .u64 0) 8 Try.underlying44 u64_info rfl .i64 .i64 ((n + 63) / 64) (by omega) (by omega) W
  have hn1 : ¬ (n : Int) < 1 := by omega
  go_enter Try.func8, Try.ntmps8
  go_wp2
  go_ret2
  refine ⟨w.heap.size + 1, w.heap.size, rfl, by omega, by omega, ⟨?_, ?_, by simp, h1, h2, ?_⟩, ((Below.refl _ _).alloc (Nat.le_refl _) _).alloc (by simp) _⟩
  · have := Blk.new (w.alloc (Obj.cells (madeCells #[Value.int IntKind.u64 0] ((n + 63) / 64)) 51)) 46 [.slice (some ⟨w.heap.size, 0, none⟩) ((n + 63) / 64) ((n + 63) / 64), .int .i64 n]
    simpa using this
  · have := (Blk.new w 51 (nums (List.replicate ((n + 63) / 64) 0))).alloc (.cells #[.slice (some ⟨w.heap.size, 0, none⟩) ((n + 63) / 64) ((n + 63) / 64), .int .i64 n] 46)
    have e : (nums (List.replicate ((n + 63) / 64) 0)).toArray = madeCells #[Value.int IntKind.u64 0] ((n + 63) / 64) := by rw [made_cells]; simp [nums]
    rw [e] at this
    exact this
  · intro x hx
    obtain ⟨_, rfl⟩ := List.mem_replicate.1 hx
    omega

theorem wrg_zero (inU : Int → Bool) (n : Nat) (must : Bool) (l : List Int) : ∀ pre, (∀ x ∈ l, 0 ≤ x ∧ x < n ∧ inU x = must ∧ hasI pre x = false) → l.Nodup → wrg inU n must pre l = 0 := by
  induction l with
  | nil => intro pre _ _; rfl
  | cons x r ih =>
    intro pre h hn
    obtain ⟨a, b, c, d⟩ := h x (List.mem_cons_self)
    rw [List.nodup_cons] at hn
    simp only [wrg]
    rw [if_neg (by omega), c, d]
    simp only [bne_self_eq_false, Bool.or_self, Bool.false_eq_true, if_false]
    refine ih _ (fun y hy => ?_) hn.2
    obtain ⟨a', b', c', d'⟩ := h y (List.mem_cons_of_mem _ hy)
    refine ⟨a', b', c', ?_⟩
    unfold hasI at d' ⊢
    rw [List.any_append, d']
    simp
    rintro rfl
    exact hn.1 hy
theorem freeTo_ok (p : Nat → Bool) (n : Nat) : (∀ x ∈ freeTo p n, 0 ≤ x ∧ x < n ∧ p x.toNat = false) ∧ (freeTo p n).Nodup := by
  unfold freeTo
  refine ⟨fun x hx => ?_, ?_⟩
  · obtain ⟨j, hj, rfl⟩ := List.mem_map.1 hx
    rw [List.mem_filter, List.mem_range] at hj
    exact ⟨by omega, by omega, by simpa using hj.2⟩
  · refine List.Pairwise.map _ (fun a b hab => ?_) (List.nodup_range.sublist List.filter_sublist)
    intro h; exact hab (by omega)
theorem low_ok (ws : List Nat) (n M : Nat) : wrg (usedB ws n) n false [] ((freeTo (bit ws) n).take M) = 0 := by
  obtain ⟨h1, h2⟩ := freeTo_ok (bit ws) n
  refine wrg_zero _ _ _ _ _ (fun x hx => ?_) (h2.sublist (List.take_sublist _ _))
  obtain ⟨a, b, c⟩ := h1 x (List.mem_of_mem_take hx)
  refine ⟨a, b, ?_, rfl⟩
  simp [usedB, a, b, c]

def TakePost (w : World) (g gw n : Nat) (ws : List Nat) (m : Int) (e : Ending) (w' : World) : Prop :=
  ∃ (v : Value) (l : List Int) (code : Int), e = .returned (.tuple #[v, .int .i64 code]) ∧ w'.ownsRow w.heap.size 3 1 v l.length (ints l) ∧ Kp (· = gw) w w' ∧ RoomAt w' g gw n (flips ws l) ∧
    (l, code) = (if m < 0 then ([], 2) else if (freeTo (bit ws) n).length < m then ([], 7) else ((freeTo (bit ws) n).take m.toNat, 0))

set_option maxHeartbeats 400000 in
theorem take_any (g gw n : Nat) (ws : List Nat) (m : Int) (w : World) (h : RoomAt w g gw n ws) (ht : Tidy ws n) :
    Calls Try.prog 15 #[.pointer (some ⟨g, 0, none⟩), .int .i64 m] w (TakePost w g gw n ws m) := by
  have hlow := Lib.hid (lowest_any g gw n ws m w h ht)
  have hgw := h.2.1.lt
  have hn := h.2.2.2.2.1
  have H := Lib.hid h
  clear h
  go_enter Try.func15, Try.ntmps15
  go_wp2_with fail
  refine hlow.out.mono ?_
  rintro e w1 ⟨v, l, code, rfl, hown, hb, hcase⟩
  have hroom : RoomAt w1 g gw n ws := H.out.kp (S := fun _ => False) (Kp.of_below hb) (fun h => h) (fun h => h)
  by_cases h0 : code = 0
  · subst h0
    have hl : l = (freeTo (bit ws) n).take m.toNat := by
      split at hcase
      · simp at hcase
      · split at hcase
        · simp at hcase
        · exact (Prod.mk.inj hcase).1
    have hlen : l.length ≤ 2047 := by
      rw [hl, List.length_take]
      have := freeTo_len_le (bit ws) n
      omega
    obtain ⟨A, cp, rfl, _, _⟩ := own_form hown
    have hu := use_any g gw n ws A cp l w1 _ hroom (Rd.of_own hown) (fun b hb2 => ⟨hb2.2, by omega⟩) (by unfold maxLen; omega)
    have hz : wrg (usedB ws n) n false [] l = 0 := by rw [hl]; exact low_ok ws n _
    rw [hz] at hu
    have HU := Lib.hid hu
    have HC := Lib.hid hcase
    have HO := Lib.hid hown
    have HB := Lib.hid hb
    clear hl hu hz hcase hown hb hroom
    go_wp2_with (go_at_call 10; refine HU.out.mono ?_; rintro e w2 ⟨rfl, hr2, hk2⟩; have HR2 := Lib.hid hr2; have HK2 := Lib.hid hk2; clear hr2 hk2)
    go_ret2
    refine ⟨_, l, 0, rfl, ?_, (Kp.of_below HB.out).trans HK2.out (fun _ _ h => h), HR2.out, HC.out⟩
    have hown := HO.out
    refine hown.kept (row := some gw) ⟨HK2.out.os, HK2.out.tape, HK2.out.output, HK2.out.size, fun k hk hne => HK2.out.block k hk (fun e => hne (by rw [e]))⟩ (.inr ?_)
    intro e
    have := (hown.lt gw e).1
    omega
  · have hb0 : (code != 0) = true := by simpa using h0
    have hl : l = [] := by
      split at hcase
      · exact (Prod.mk.inj hcase).1
      · split at hcase
        · exact (Prod.mk.inj hcase).1
        · exact absurd (Prod.mk.inj hcase).2 h0
    subst hl
    have HC := Lib.hid hcase
    have HB := Lib.hid hb
    have HR := Lib.hid hroom
    clear hcase hb hroom h0 hown
    go_wp2_with fail
    go_ret2
    exact ⟨_, [], code, rfl, World.ownsRow_nil _ _ _ _, Kp.of_below HB.out, HR.out, HC.out⟩
end Go.Proofs.Ytedjaahidncokaa
