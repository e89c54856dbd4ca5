/- Texts of the walk, joined: Qe Qg Qr Qt Qu. -/
import Derived.Test.YtgnpihhakogeeaaMq
import Derived.Test.YtgnpihhakogeeaaMe
import Derived.Lib.AppendZerosOnto
namespace Go.Proofs.Ytgnpihhakogeeaa
set_option linter.unusedSimpArgs false
set_option linter.unusedVariables false
open Go.RowKit
theorem ints_of : ∀ {n : Nat} {xs : List Value}, xs.length = n → (∀ (i : Nat) (k : SK) (x : Value), (List.replicate n (SK.int .i64))[i]? = some k → xs[i]? = some x → k.is x = true) → ∃ l : List Int, xs = l.map (Value.int .i64) ∧ l.length = n
 | 0, xs, h, _ => ⟨[], by simpa using h, rfl⟩
 | n + 1, [], h, _ => by simp at h
 | n + 1, x :: xs, h, hk => by
  obtain ⟨l, h1, h2⟩ := ints_of (n := n) (xs := xs) (by simpa using h) (fun i k y a b => hk (i + 1) k y (by simpa [List.replicate_succ] using a) (by simpa using b))
  have := hk 0 (.int .i64) x (by simp [List.replicate_succ]) (by simp)
  cases x with
  | int k a =>
   simp [SK.is] at this
   subst this
   exact ⟨a :: l, by simp [h1], by simp [h2]⟩
  | _ => simp [SK.is] at this
theorem vsEq_ints : ∀ {l m : List Int}, l.length = m.length → vsEq (l.map (Value.int .i64)) (m.map (Value.int .i64)) = decide (l = m)
 | [], [], _ => rfl
 | a :: l, b :: m, h => by
  have ih := vsEq_ints (l := l) (m := m) (by simpa using h)
  simp only [List.map_cons, vsEq, vEq, ih]
  by_cases h1 : a = b <;> by_cases h2 : l = m <;> simp [h1, h2]
 | [], _ :: _, h => by simp at h
 | _ :: _, [], h => by simp at h
theorem list3 {l : List Int} (h : l.length = 3) : ∃ a b c, l = [a, b, c] := by
 match l, h with
 | [a, b, c], _ => exact ⟨a, b, c, rfl⟩
theorem list10 {l : List Int} (h : l.length = 10) : ∃ a : Ag, l = [a.n, a.s0, a.l0, a.h0, a.s1, a.l1, a.h1, a.s2, a.l2, a.h2] := by
 match l, h with
 | [a, b, c, d, e, f, g, x, y, z], _ => exact ⟨⟨a, b, c, d, e, f, g, x, y, z⟩, rfl⟩
theorem list12 {l : List Int} (h : l.length = 12) : ∃ a : Cel, l = [a.key, a.child, a.agg.n, a.agg.s0, a.agg.l0, a.agg.h0, a.agg.s1, a.agg.l1, a.agg.h1, a.agg.s2, a.agg.l2, a.agg.h2] := by
 match l, h with
 | [p, q, a, b, c, d, e, f, g, x, y, z], _ => exact ⟨⟨p, q, ⟨a, b, c, d, e, f, g, x, y, z⟩⟩, rfl⟩
theorem chk_int (b : Bool) (d : Nat) (w : World) (a : Int) : (Instr.checkKey b (d + 1) 3 (.int .i64 a)).run Try.prog w = .ok () w := by
 unfold Instr.checkKey
 simp [run_underlying Try.underlying3]
theorem chk_i64 (b : Bool) (d : Nat) (w : World) (a : Int) : (Instr.checkKey b (d + 1) 2 (.int .i64 a)).run Try.prog w = .ok () w := by
 unfold Instr.checkKey
 simp [run_underlying Try.underlying2]
set_option maxHeartbeats 1000000 in
set_option maxRecDepth 100000 in
theorem chk_part (b : Bool) (d : Nat) (w : World) (a0 a1 a2 : Int) : (Instr.checkKey b (d + 2) 38 (.agg #[.int .i64 a0, .int .i64 a1, .int .i64 a2])).run Try.prog w = .ok () w := by
 unfold Instr.checkKey
 simp [run_underlying Try.underlying38, go_sem, chk_int, chk_i64]
set_option maxHeartbeats 1000000 in
set_option maxRecDepth 100000 in
theorem chk_parts (b : Bool) (d : Nat) (w : World) (a0 a1 a2 a3 a4 a5 a6 a7 a8 : Int) : (Instr.checkKey b (d + 3) 39 (.agg #[.int .i64 a0, .int .i64 a1, .int .i64 a2, .int .i64 a3, .int .i64 a4, .int .i64 a5, .int .i64 a6, .int .i64 a7, .int .i64 a8])).run Try.prog w = .ok () w := by
 unfold Instr.checkKey
 simp [run_underlying Try.underlying39, go_sem, List.range'_succ, chk_part]
set_option maxHeartbeats 1000000 in
set_option maxRecDepth 100000 in
theorem chk_ag (b : Bool) (d : Nat) (w : World) (a : Ag) : (Instr.checkKey b (d + 4) 41 (.agg a.arr)).run Try.prog w = .ok () w := by
 unfold Instr.checkKey Ag.arr
 simp [run_underlying Try.underlying41, go_sem, chk_int, chk_i64, chk_parts]
set_option maxHeartbeats 1000000 in
set_option maxRecDepth 100000 in
theorem chk_cel (b : Bool) (d : Nat) (w : World) (a : Cel) : (Instr.checkKey b (d + 5) 43 (.agg a.arr)).run Try.prog w = .ok () w := by
 have h := fun w => chk_ag b d w a.agg
 unfold Ag.arr at h
 unfold Instr.checkKey Cel.arr
 simp [run_underlying Try.underlying43, go_sem, chk_int, chk_i64, h]
set_option maxHeartbeats 1000000 in
set_option maxRecDepth 100000 in
theorem eq_two (d : Nat) (w : World) (a0 a1 b0 b1 : Int) : (Op.equalIn (d + 2) 97 (.agg #[.int .i64 a0, .int .i64 a1]) (.agg #[.int .i64 b0, .int .i64 b1])).run Try.prog w = .ok (decide (a0 = b0 ∧ a1 = b1)) w := by
 rw [run_equalIn_struct w (d + 1) _ _ _ (by kernel_rfl) (by kernel_rfl)]
 by_cases h0 : a0 = b0 <;> by_cases h1 : a1 = b1 <;> simp [go_sem, h0, h1]
set_option maxHeartbeats 1000000 in
set_option maxRecDepth 100000 in
theorem chk_two (b : Bool) (d : Nat) (w : World) (a0 a1 : Int) : (Instr.checkKey b (d + 2) 97 (.agg #[.int .i64 a0, .int .i64 a1])).run Try.prog w = .ok () w := by
 unfold Instr.checkKey
 simp [run_underlying Try.underlying97, go_sem, chk_int, chk_i64]
set_option maxHeartbeats 1000000 in
set_option maxRecDepth 100000 in
theorem eq_both (d : Nat) (w : World) (a0 a1 b0 b1 : Int) : (Op.equalIn (d + 2) 125 (.agg #[.int .i64 a0, .int .i64 a1]) (.agg #[.int .i64 b0, .int .i64 b1])).run Try.prog w = .ok (decide (a0 = b0 ∧ a1 = b1)) w := by
 rw [run_equalIn_struct w (d + 1) _ _ _ (by kernel_rfl) (by kernel_rfl)]
 by_cases h0 : a0 = b0 <;> by_cases h1 : a1 = b1 <;> simp [go_sem, h0, h1]
set_option maxHeartbeats 1000000 in
set_option maxRecDepth 100000 in
theorem chk_both (b : Bool) (d : Nat) (w : World) (a0 a1 : Int) : (Instr.checkKey b (d + 2) 125 (.agg #[.int .i64 a0, .int .i64 a1])).run Try.prog w = .ok () w := by
 unfold Instr.checkKey
 simp [run_underlying Try.underlying125, go_sem, chk_int, chk_i64]
set_option maxHeartbeats 1000000 in
set_option maxRecDepth 100000 in
theorem eq_int (d : Nat) (w : World) (a b : Int) : (Op.equalIn (d + 1) 3 (.int .i64 a) (.int .i64 b)).run Try.prog w = .ok (a == b) w := by
 unfold Op.equalIn
 simp [run_underlying Try.underlying3]
set_option maxHeartbeats 1000000 in
set_option maxRecDepth 100000 in
theorem eq_duo (d : Nat) (w : World) (a0 a1 b0 b1 : Int) : (Op.equalIn (d + 2) 152 (.agg #[.int .i64 a0, .int .i64 a1]) (.agg #[.int .i64 b0, .int .i64 b1])).run Try.prog w = .ok (decide (a0 = b0 ∧ a1 = b1)) w := by
 unfold Op.equalIn
 by_cases h0 : a0 = b0 <;> by_cases h1 : a1 = b1 <;> simp [run_underlying Try.underlying152, part, isAgg, go_sem, List.range'_succ, eq_int, h0, h1]
set_option maxHeartbeats 1000000 in
set_option maxRecDepth 100000 in
theorem chk_duo (b : Bool) (d : Nat) (w : World) (a0 a1 : Int) : (Instr.checkKey b (d + 2) 152 (.agg #[.int .i64 a0, .int .i64 a1])).run Try.prog w = .ok () w := by
 unfold Instr.checkKey
 simp [run_underlying Try.underlying152, go_sem, List.range'_succ, chk_int, chk_i64]
theorem list2 {l : List Int} (h : l.length = 2) : ∃ a b, l = [a, b] := by
 match l, h with
 | [a, b], _ => exact ⟨a, b, rfl⟩
theorem hE0 : ∀ t ks, eqE t = some ks → EqOk Try.prog t ks := by
 intro t ks h
 unfold eqE at h
 split at h
 ·rename_i e
  subst e
  injection h with h
  subst h
  intro xs ys h1 h2 h3 h4 w
  obtain ⟨l, rfl, hl⟩ := ints_of (by simpa using h1) h3
  obtain ⟨m, rfl, hm⟩ := ints_of (by simpa using h2) h4
  obtain ⟨a, rfl⟩ := list10 hl
  obtain ⟨c, rfl⟩ := list10 hm
  refine ⟨?_, fun b => chk_ag b 9996 w a⟩
  rw [vsEq_ints (by simp)]
  refine (eq_ag 9996 w a c).trans ?_
  congr 1
  simp [ag_eq, and_assoc]
 ·split at h
  ·rename_i e
   subst e
   injection h with h
   subst h
   intro xs ys h1 h2 h3 h4 w
   obtain ⟨l, rfl, hl⟩ := ints_of (by simpa using h1) h3
   obtain ⟨m, rfl, hm⟩ := ints_of (by simpa using h2) h4
   obtain ⟨a, rfl⟩ := list12 hl
   obtain ⟨c, rfl⟩ := list12 hm
   refine ⟨?_, fun b => chk_cel b 9995 w a⟩
   rw [vsEq_ints (by simp)]
   refine (eq_cel 9995 w a c).trans ?_
   congr 1
   simp [cel_eq, ag_eq, and_assoc]
  ·split at h
   ·rename_i e
    subst e
    injection h with h
    subst h
    intro xs ys h1 h2 h3 h4 w
    obtain ⟨l, rfl, hl⟩ := ints_of (by simpa using h1) h3
    obtain ⟨m, rfl, hm⟩ := ints_of (by simpa using h2) h4
    obtain ⟨a0, a1, a2, rfl⟩ := list3 hl
    obtain ⟨c0, c1, c2, rfl⟩ := list3 hm
    refine ⟨?_, fun b => chk_part b 9998 w a0 a1 a2⟩
    rw [vsEq_ints (by simp)]
    refine (eq_part 9998 w a0 a1 a2 c0 c1 c2).trans ?_
    congr 1
    simp
   ·split at h
    ·rename_i e
     subst e
     injection h with h
     subst h
     intro xs ys h1 h2 h3 h4 w
     obtain ⟨l, rfl, hl⟩ := ints_of (by simpa using h1) h3
     obtain ⟨m, rfl, hm⟩ := ints_of (by simpa using h2) h4
     obtain ⟨a0, a1, rfl⟩ := list2 hl
     obtain ⟨c0, c1, rfl⟩ := list2 hm
     refine ⟨?_, fun b => chk_two b 9998 w a0 a1⟩
     rw [vsEq_ints (by simp)]
     refine (eq_two 9998 w a0 a1 c0 c1).trans ?_
     congr 1
     simp
    ·split at h
     ·rename_i e
      subst e
      injection h with h
      subst h
      intro xs ys h1 h2 h3 h4 w
      obtain ⟨l, rfl, hl⟩ := ints_of (by simpa using h1) h3
      obtain ⟨m, rfl, hm⟩ := ints_of (by simpa using h2) h4
      obtain ⟨a0, a1, rfl⟩ := list2 hl
      obtain ⟨c0, c1, rfl⟩ := list2 hm
      refine ⟨?_, fun b => chk_both b 9998 w a0 a1⟩
      rw [vsEq_ints (by simp)]
      refine (eq_both 9998 w a0 a1 c0 c1).trans ?_
      congr 1
      simp
     ·split at h
      ·rename_i e
       subst e
       injection h with h
       subst h
       intro xs ys h1 h2 h3 h4 w
       obtain ⟨l, rfl, hl⟩ := ints_of (by simpa using h1) h3
       obtain ⟨m, rfl, hm⟩ := ints_of (by simpa using h2) h4
       obtain ⟨a0, a1, rfl⟩ := list2 hl
       obtain ⟨c0, c1, rfl⟩ := list2 hm
       refine ⟨?_, fun b => chk_duo b 9998 w a0 a1⟩
       rw [vsEq_ints (by simp)]
       refine (eq_duo 9998 w a0 a1 c0 c1).trans ?_
       congr 1
       simp
      ·cases h
theorem hE : ∀ t ks, eqT t = some ks → EqOk Try.prog t ks := hE0
theorem hEi : ∀ t ks, eqTi t = some ks → EqOk Try.prog t ks := hE0
theorem zcells_size (z : Array Value) (n : Nat) : (Builtin.zeroCells z n).size = n * z.size := by simp [Builtin.zeroCells]
theorem gcap (w : World) (need old : Nat) (e : TypeId) (h : need < 9223372036854775808) : need ≤ grownCap w need old e ∧ grownCap w need old e ≤ maxLen := by
 have he : grownCap w need old e = need + (w.tape w.drawn (.appendCap need old e)) % (2 ^ 63 - need) := rfl
 rw [he]
 unfold maxLen
 have : (w.tape w.drawn (.appendCap need old e)) % (2 ^ 63 - need) < 2 ^ 63 - need := Nat.mod_lt _ (by omega)
 constructor
 ·exact Nat.le_add_right _ _
 ·omega
theorem cel_inf : (Try.prog.info? 43).map (fun i => (i.zero, i.size, i.bytes)) = some (some (.agg #[.int .i64 0, .int .i64 0, .int .i64 0, .int .i64 0, .int .i64 0, .int .i64 0, .int .i64 0, .int .i64 0, .int .i64 0, .int .i64 0, .int .i64 0, .int .i64 0]), 12, 96) := by kernel_rfl
def GrowQ (w : World) (e : Ending) (w' : World) : Prop := ∃ cap carr, e = .returned (.slice (some ⟨w.heap.size, 0, none⟩) 0 cap) ∧ w' = w.drew.alloc (.cells carr 43) ∧ carr.size = cap * 12 ∧ cap ≤ maxLen
set_option maxHeartbeats 400000 in
set_option maxRecDepth 100000 in
theorem grow_some (A : Option Addr) (n : Nat) (w : World) (h0 : 0 < n) (hn : n ≤ 1000000) : Calls Try.prog 112 #[.slice A 0 0, .int .i64 n] w (GrowQ w) := by
 obtain ⟨i0, hi, hz0, hz1, hz2⟩ := info_parts cel_inf
 have hr := Lib.run_append_grow_zeros (P := Try.prog) w 83 3 83 43 i0 _ .i64 .i64 Try.underlying83 Try.underlying3 hi hz0 A 0 0 [] (by cases A <;> simp [Builtin.firstCells, loadCells, loadCellsFrom]) n (by omega) (by rw [hz1]; omega) (by omega) (by omega) (by rw [hz2]; omega) (by rw [hz2]; unfold Builtin.nextslicecap; rw [if_pos (by omega)]; omega)
 have hc := gcap w (0 + n) 0 43 (by omega)
 generalize grownCap w (0 + n) 0 43 = cap at hr hc
 have hp : 0 < n := by omega
 have hpi : (0 : Int) < n := by omega
 simp only [Nat.zero_add] at hr hc
 have HR := Lib.hid hr
 have hcc : n ≤ cap := hc.1
 have ho : Hid (GrowQ w (.returned (.slice (some ⟨w.heap.size, 0, none⟩) 0 cap)) (w.drew.alloc (.cells (#[] ++ Builtin.zeroCells (Value.agg #[.int .i64 0, .int .i64 0, .int .i64 0, .int .i64 0, .int .i64 0, .int .i64 0, .int .i64 0, .int .i64 0, .int .i64 0, .int .i64 0, .int .i64 0, .int .i64 0]).cells n ++ Builtin.zeroCells (Value.agg #[.int .i64 0, .int .i64 0, .int .i64 0, .int .i64 0, .int .i64 0, .int .i64 0, .int .i64 0, .int .i64 0, .int .i64 0, .int .i64 0, .int .i64 0, .int .i64 0]).cells (cap - n)) 43))) := by
  refine ⟨cap, _, rfl, rfl, ?_, hc.2⟩
  rw [Array.size_append, Array.size_append, zcells_size, zcells_size]
  simp [Value.cells]
  omega
 generalize w.drew.alloc _ = w1 at HR ho
 clear hr hc
 cases A with
 | none =>
  go_enter Try.func112, Try.ntmps112
  go_wp2_with (at_builtin; refine wpList_append_run rfl (.tmp 20) (.tmp 21) _ _ rfl rfl rfl HR.out ?_)
  go_ret
  exact ho.out
 | some A =>
  go_enter Try.func112, Try.ntmps112
  go_wp2_with (at_builtin; refine wpList_append_run rfl (.tmp 20) (.tmp 21) _ _ rfl rfl rfl HR.out ?_)
  go_ret
  exact ho.out
set_option maxHeartbeats 400000 in
set_option maxRecDepth 100000 in
theorem grow_none (A : Option Addr) (w : World) : Calls Try.prog 112 #[.slice A 0 0, .int .i64 0] w (fun e w' => e = .returned (.slice A 0 0) ∧ w' = w) := by
 cases A with
 | none =>
  go_enter Try.func112, Try.ntmps112
  go_wp2
  go_ret
  exact ⟨rfl, rfl⟩
 | some A =>
  go_enter Try.func112, Try.ntmps112
  go_wp2
  go_ret
  exact ⟨rfl, rfl⟩
theorem grow_callOk : callOk Try.prog 112 := ⟨_, Try.func112, by kernel_rfl, by kernel_rfl⟩
theorem grow_sound (n : Nat) (H : AHeap) (h0 : 0 < n) (hn : n ≤ 1000000) : Sound Try.prog 112 [.sl .full [], .i n] H fun r H' => r = .sl (.own H.next) [] ∧ H' = H.alloc (.tok 0 43 12) := by
 refine ⟨grow_callOk, fun g w vs hW hV => ?_⟩
 obtain ⟨v0, v1, rfl⟩ : ∃ v0 v1, vs = [v0, v1] := by
  match vs, hV.1 with
  | [v0, v1], _ => exact ⟨v0, v1, rfl⟩
 have h1 := hV.2 0 _ _ rfl rfl
 have h2 := hV.2 1 _ _ rfl rfl
 cases h2
 cases h1 with
 | sl _ _ A c sz b o f hc hm hA hsz hcell hv ht =>
  have ht' : c = 0 := ht
  subst ht'
  refine (grow_some A n w h0 hn).mono fun e w' ⟨cap, carr, he, hw', hs, hcm⟩ => ?_
  subst hw'
  have hgr : w.grownBy (w.drew.alloc (.cells carr 43)) none := ⟨rfl, rfl, rfl, by simp, fun k hk _ => heap_alloc_old w.drew _ hk⟩
  obtain ⟨k1, k2⟩ := new_tok (n := 0) hW hgr (Nat.le_refl _) (heap_alloc_new w.drew _) hs (Nat.zero_le _) hcm
  refine ⟨_, _, _, _, he, ⟨rfl, rfl⟩, ?_, k1, k2⟩
  exact VR.sl (.own H.next) [] _ cap 0 0 0 (fun _ _ => undef) (Nat.zero_le _) hcm (fun h => absurd rfl h) (fun r h => by cases h) (fun i r j x h => by simp at h) (fun i r j x h => by simp at h) ⟨0, cap, w.heap.size, by simp [Gh.tok], Nat.le_refl _, fun _ => ⟨rfl, fun _ => rfl⟩⟩
theorem grow_sound0 (H : AHeap) : Sound Try.prog 112 [.sl .full [], .i 0] H fun r H' => r = .sl .full [] ∧ H' = H := by
 refine ⟨grow_callOk, fun g w vs hW hV => ?_⟩
 obtain ⟨v0, v1, rfl⟩ : ∃ v0 v1, vs = [v0, v1] := by
  match vs, hV.1 with
  | [v0, v1], _ => exact ⟨v0, v1, rfl⟩
 have h1 := hV.2 0 _ _ rfl rfl
 have h2 := hV.2 1 _ _ rfl rfl
 cases h2
 cases h1 with
 | sl _ _ A c sz b o f hc hm hA hsz hcell hv ht =>
  have ht' : c = 0 := ht
  subst ht'
  refine (grow_none A w).mono fun e w' ⟨he, hw'⟩ => ?_
  subst hw'
  exact ⟨_, _, _, g, he, ⟨rfl, rfl⟩, VR.sl .full [] A 0 sz b o f hc hm hA hsz hcell hv rfl, hW, .refl _ _ _⟩
def tabGet {α : Type} : List (FuncId × α) → FuncId → Option α
 | [], _ => none
 | (k, x) :: l, f => if f = k then some x else tabGet l f
def TabAll {α : Type} (Pr : FuncId → α → Prop) : List (FuncId × α) → Prop
 | [] => True
 | (k, x) :: l => Pr k x ∧ TabAll Pr l
theorem tabGet_ok {α : Type} {Pr : FuncId → α → Prop} : ∀ {l : List (FuncId × α)} {f : FuncId} {x : α}, TabAll Pr l → tabGet l f = some x → Pr f x
 | [], f, x, _, h => by simp [tabGet] at h
 | (k, y) :: l, f, x, ha, h => by
  simp only [tabGet] at h
  split at h
  ·rename_i e
   subst e
   injection h with h
   subst h
   exact ha.1
  ·exact tabGet_ok ha.2 h
def X8 : FuncId → List AV → CH → Option (AV × CH) := fun f args C => match args with
 | [.sl .full [], .sc (.int .i64 n)] => if f = 112 then (if n = 0 then some (.sl .full [], C) else if 0 < n ∧ n ≤ 1000000 then some (.sl (.own C.length) [], C ++ [some (.tok 0 43 12)]) else none) else none
 | _ => none
theorem up_snoc (C : CH) (o : AObj) : CH.up (C ++ [some o]) = C.up.alloc o := by
 refine AHeap.ext ?_ (by simp [CH.up])
 funext i
 by_cases hi : i = C.length
 ·subst hi
  have hn : (C.up.alloc o).get C.length = some o := AHeap.get_alloc_self (H := C.up)
  rw [hn]
  simp [CH.up]
 ·rw [AHeap.get_alloc_ne (H := C.up) hi]
  simp only [CH.up]
  by_cases hl : i < C.length
  ·rw [List.getElem?_append_left hl]
  ·rw [List.getElem?_eq_none (by simp; omega), List.getElem?_eq_none (by omega)]
theorem hX8 : ∀ f args C r C', X8 f args C = some (r, C') → Sound Try.prog f args (CH.up C) fun r' H' => r' = r ∧ H' = CH.up C' := by
 intro f args C r C' h
 unfold X8 at h
 split at h
 ·rename_i n
  split at h
  ·rename_i e
   subst e
   split at h
   ·rename_i e
    subst e
    simp only [Option.some.injEq, Prod.mk.injEq] at h
    obtain ⟨rfl, rfl⟩ := h
    exact grow_sound0 _
   ·split at h
    ·rename_i hn
     simp only [Option.some.injEq, Prod.mk.injEq] at h
     obtain ⟨rfl, rfl⟩ := h
     obtain ⟨m, rfl⟩ : ∃ m : Nat, n = m := ⟨n.toNat, by omega⟩
     refine (grow_sound m (CH.up C) (by omega) (by omega)).mono fun r' H' ⟨h1, h2⟩ => ⟨h1, ?_⟩
     rw [h2, up_snoc]
    ·cases h
  ·cases h
 ·cases h
def isT : AV → CH → Bool := fun r _ => match r with
 | .sc (.bool true) => true
 | _ => false
theorem isT_ok {r : AV} {C : CH} (h : isT r C = true) : r = .sc (.bool true) := by
 unfold isT at h
 split at h
 ·rfl
 ·cases h
def L30 : List (FuncId × ACode × List ARes × Nat) := [(14, c14_0, [(.tmp 4), (.tmp 5)], 40), (17, c17_0, [(.tmp 4)], 75), (24, c24_0, [(.tmp 4)], 27), (35, c35_0, [(.tmp 2)], 25), (42, c42_0, [(.tmp 0)], 58), (43, c43_0, [(.tmp 6), (.tmp 7)], 82), (45, c45_0, [(.tmp 4), (.tmp 5)], 42), (47, c47_0, [(.tmp 4), (.tmp 5)], 50), (48, c48_0, [(.cell 14 true 4), (.tmp 5)], 32), (49, c49_0, [(.tmp 2)], 6), (52, c52_0, [(.cell 2 true 2)], 35), (55, c55_0, [(.tmp 2)], 73), (56, c56_0, [(.tmp 2)], 11), (65, c65_0, [(.tmp 2)], 14), (66, c66_0, [(.cell 14 true 2)], 27), (70, c70_0, [(.tmp 4)], 17), (71, c71_0, [(.tmp 4)], 133), (73, c73_0, [(.tmp 2)], 70), (74, c74_0, [(.tmp 2)], 8), (75, c75_0, [(.tmp 4)], 91), (76, c76_0, [(.tmp 4)], 28), (78, c78_0, [(.tmp 6)], 32), (80, c80_0, [(.tmp 4)], 26), (83, c83_0, [(.tmp 4)], 11), (84, c84_0, [(.tmp 2)], 12), (85, c85_0, [(.tmp 4)], 19), (89, c89_0, [(.tmp 2)], 8), (91, c91_0, [(.cell 14 true 4)], 17), (92, c92_0, [(.tmp 8)], 102), (93, c93_0, [(.tmp 4)], 15), (94, c94_0, [(.cell 12 true 10)], 42), (99, c99_0, [(.tmp 8)], 52), (100, c100_0, [(.tmp 6)], 29), (101, c101_0, [(.tmp 4)], 28), (103, c103_0, [(.tmp 2)], 36), (107, c107_0, [(.tmp 2)], 9), (108, c108_0, [(.cell 10 true 4), (.tmp 5)], 55), (110, c110_0, [(.tmp 4)], 68), (113, c113_0, [(.tmp 4), (.tmp 5)], 27), (114, c114_0, [(.cell 3 true 4), (.tmp 5)], 29)]
def T30 : FuncId → Option (ACode × List ARes × Nat) := tabGet L30
theorem hT30 : ∀ f x, T30 f = some x → cFn Try.prog eqT f = some x := fun f x h => tabGet_ok (Pr := fun f x => cFn Try.prog eqT f = some x) (l := L30) ⟨cf14, cf17, cf24, cf35, cf42, cf43, cf45, cf47, cf48, cf49, cf52, cf55, cf56, cf65, cf66, cf70, cf71, cf73, cf74, cf75, cf76, cf78, cf80, cf83, cf84, cf85, cf89, cf91, cf92, cf93, cf94, cf99, cf100, cf101, cf103, cf107, cf108, cf110, cf113, cf114, trivial⟩ h
theorem run_true30 {f : FuncId} {vs : List Value} (h : runF X8 T30 60 40 f (vs.map .sc) isT [] = true) : Sound Try.prog f (vs.map .sc) AHeap.emp fun r _ => r = .sc (.bool true) := by
 have := runF_ok hE hX8 hT30 60 40 f _ _ _ h
 rw [CH.up_nil] at this
 exact this.mono fun r H' ⟨C', _, h2⟩ => isT_ok h2
theorem run_awake30 : runF X8 T30 60 40 42 [] isT [] = true := by kernel_rfl
theorem awake30u (H : AHeap) : Sound Try.prog 42 [] H (Pure H (.b true)) := @Sound.closed Try.prog 42 [] _ _ (run_true30 (vs := []) run_awake30) (fun _ _ h => h) H
end Go.Proofs.Ytgnpihhakogeeaa
