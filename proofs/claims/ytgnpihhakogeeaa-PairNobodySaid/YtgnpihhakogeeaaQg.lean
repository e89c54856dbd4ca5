/- slices.Grow of an empty slice, for the abstract machine. -/
import Derived.Test.YtgnpihhakogeeaaQe
import Derived.Lib.AppendZerosOnto
namespace Go.Proofs.Ytgnpihhakogeeaa
set_option linter.unusedSimpArgs false
set_option linter.unusedVariables false
open Go.RowKit

theorem zcells_size (z : Array Value) (n : Nat) : (Builtin.zeroCells z n).size = n * z.size := by simp [Builtin.zeroCells]
theorem gcap (w : World) (need old : Nat) (e : TypeId) (h : need < 9223372036854775808) : need ≤ grownCap w need old e ∧ grownCap w need old e ≤ maxLen := by
  have he : grownCap w need old e = need + (w.tape w.drawn (.appendCap need old e)) % (2 ^ 63 - need) := rfl
  rw [he]
  unfold maxLen
  have : (w.tape w.drawn (.appendCap need old e)) % (2 ^ 63 - need) < 2 ^ 63 - need := Nat.mod_lt _ (by omega)
  constructor
  · exact Nat.le_add_right _ _
  · omega
theorem cel_inf : (Try.prog.info? 43).map (fun i => (i.zero, i.size, i.bytes)) = some (some (.agg #[.int .i64 0, .int .i64 0, .int .i64 0, .int .i64 0, .int .i64 0, .int .i64 0, .int .i64 0, .int .i64 0, .int .i64 0, .int .i64 0, .int .i64 0, .int .i64 0]), 12, 96) := by kernel_rfl
def GrowQ (w : World) (e : Ending) (w' : World) : Prop := ∃ cap carr, e = .returned (.slice (some ⟨w.heap.size, 0, none⟩) 0 cap) ∧ w' = w.drew.alloc (.cells carr 43) ∧ carr.size = cap * 12 ∧ cap ≤ maxLen
set_option maxHeartbeats 400000 in
set_option maxRecDepth 100000 in
theorem grow_some (A : Option Addr) (n : Nat) (w : World) (h0 : 0 < n) (hn : n ≤ 1000000) : Calls Try.prog 112 #[.slice A 0 0, .int .i64 n] w (GrowQ w) := by
  obtain ⟨i0, hi, hz0, hz1, hz2⟩ := info_parts cel_inf
  have hr := Lib.run_append_grow_zeros (P := Try.prog) w 83 3 83 43 i0 _ .i64 .i64 Try.underlying83 Try.underlying3 hi hz0 A 0 0 [] (by cases A <;> simp [Builtin.firstCells, loadCells, loadCellsFrom]) n (by omega) (by rw [hz1]; omega) (by omega) (by omega) (by rw [hz2]; omega) (by rw [hz2]; unfold Builtin.nextslicecap; rw [if_pos (by omega)]; omega)
  have hc := gcap w (0 + n) 0 43 (by omega)
  generalize grownCap w (0 + n) 0 43 = cap at hr hc
  have hp : 0 < n := by omega
  have hpi : (0 : Int) < n := by omega
  simp only [Nat.zero_add] at hr hc
  have HR := Lib.hid hr
  have hcc : n ≤ cap := hc.1
  have ho : Hid (GrowQ w (.returned (.slice (some ⟨w.heap.size, 0, none⟩) 0 cap)) (w.drew.alloc (.cells (#[] ++ Builtin.zeroCells (Value.agg #[.int .i64 0, .int .i64 0, .int .i64 0, .int .i64 0, .int .i64 0, .int .i64 0, .int .i64 0, .int .i64 0, .int .i64 0, .int .i64 0, .int .i64 0, .int .i64 0]).cells n ++ Builtin.zeroCells (Value.agg #[.int .i64 0, .int .i64 0, .int .i64 0, .int .i64 0, .int .i64 0, .int .i64 0, .int .i64 0, .int .i64 0, .int .i64 0, .int .i64 0, .int .i64 0, .int .i64 0]).cells (cap - n)) 43))) := by
    refine ⟨cap, _, rfl, rfl, ?_, hc.2⟩
    rw [Array.size_append, Array.size_append, zcells_size, zcells_size]
    simp [Value.cells]
    omega
  generalize w.drew.alloc _ = w1 at HR ho
  clear hr hc
  cases A with
  | none =>
    go_enter Try.func112, Try.ntmps112
    go_wp2_with (at_builtin; refine wpList_append_run rfl (.tmp 20) (.tmp 21) _ _ rfl rfl rfl HR.out ?_)
    go_ret
    exact ho.out
  | some A =>
    go_enter Try.func112, Try.ntmps112
    go_wp2_with (at_builtin; refine wpList_append_run rfl (.tmp 20) (.tmp 21) _ _ rfl rfl rfl HR.out ?_)
    go_ret
    exact ho.out
set_option maxHeartbeats 400000 in
set_option maxRecDepth 100000 in
theorem grow_none (A : Option Addr) (w : World) : Calls Try.prog 112 #[.slice A 0 0, .int .i64 0] w (fun e w' => e = .returned (.slice A 0 0) ∧ w' = w) := by
  cases A with
  | none =>
    go_enter Try.func112, Try.ntmps112
    go_wp2
    go_ret
    exact ⟨rfl, rfl⟩
  | some A =>
    go_enter Try.func112, Try.ntmps112
    go_wp2
    go_ret
    exact ⟨rfl, rfl⟩
theorem grow_callOk : callOk Try.prog 112 := ⟨_, Try.func112, by kernel_rfl, by kernel_rfl⟩
theorem grow_sound (n : Nat) (H : AHeap) (h0 : 0 < n) (hn : n ≤ 1000000) : Sound Try.prog 112 [.sl .full [], .i n] H fun r H' => r = .sl (.own H.next) [] ∧ H' = H.alloc (.tok 0 43 12) := by
  refine ⟨grow_callOk, fun g w vs hW hV => ?_⟩
  obtain ⟨v0, v1, rfl⟩ : ∃ v0 v1, vs = [v0, v1] := by
    match vs, hV.1 with
    | [v0, v1], _ => exact ⟨v0, v1, rfl⟩
  have h1 := hV.2 0 _ _ rfl rfl
  have h2 := hV.2 1 _ _ rfl rfl
  cases h2
  cases h1 with
  | sl _ _ A c sz b o f hc hm hA hsz hcell hv ht =>
    have ht' : c = 0 := ht
    subst ht'
    refine (grow_some A n w h0 hn).mono fun e w' ⟨cap, carr, he, hw', hs, hcm⟩ => ?_
    subst hw'
    have hgr : w.grownBy (w.drew.alloc (.cells carr 43)) none := ⟨rfl, rfl, rfl, by simp, fun k hk _ => heap_alloc_old w.drew _ hk⟩
    obtain ⟨k1, k2⟩ := new_tok (n := 0) hW hgr (Nat.le_refl _) (heap_alloc_new w.drew _) hs (Nat.zero_le _) hcm
    refine ⟨_, _, _, _, he, ⟨rfl, rfl⟩, ?_, k1, k2⟩
    exact VR.sl (.own H.next) [] _ cap 0 0 0 (fun _ _ => undef) (Nat.zero_le _) hcm (fun h => absurd rfl h) (fun r h => by cases h) (fun i r j x h => by simp at h) (fun i r j x h => by simp at h) ⟨0, cap, w.heap.size, by simp [Gh.tok], Nat.le_refl _, fun _ => ⟨rfl, fun _ => rfl⟩⟩
theorem grow_sound0 (H : AHeap) : Sound Try.prog 112 [.sl .full [], .i 0] H fun r H' => r = .sl .full [] ∧ H' = H := by
  refine ⟨grow_callOk, fun g w vs hW hV => ?_⟩
  obtain ⟨v0, v1, rfl⟩ : ∃ v0 v1, vs = [v0, v1] := by
    match vs, hV.1 with
    | [v0, v1], _ => exact ⟨v0, v1, rfl⟩
  have h1 := hV.2 0 _ _ rfl rfl
  have h2 := hV.2 1 _ _ rfl rfl
  cases h2
  cases h1 with
  | sl _ _ A c sz b o f hc hm hA hsz hcell hv ht =>
    have ht' : c = 0 := ht
    subst ht'
    refine (grow_none A w).mono fun e w' ⟨he, hw'⟩ => ?_
    subst hw'
    exact ⟨_, _, _, g, he, ⟨rfl, rfl⟩, VR.sl .full [] A 0 sz b o f hc hm hA hsz hcell hv rfl, hW, .refl _ _ _⟩
end Go.Proofs.Ytgnpihhakogeeaa
