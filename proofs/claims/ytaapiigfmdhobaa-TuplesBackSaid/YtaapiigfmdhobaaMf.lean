/- Texts of the walk, joined: Q9 Qe Qg Qv Qi. -/
import Derived.Test.YtaapiigfmdhobaaMq
import Derived.Test.YtaapiigfmdhobaaMe
import Derived.Lib.AppendZerosOnto
namespace Go.Proofs.Ytaapiigfmdhobaa
set_option linter.unusedSimpArgs false
set_option linter.unusedVariables false
open Go.RowKit
theorem ints_of : ∀ {n : Nat} {xs : List Value}, xs.length = n → (∀ (i : Nat) (k : SK) (x : Value), (List.replicate n (SK.int .i64))[i]? = some k → xs[i]? = some x → k.is x = true) → ∃ l : List Int, xs = l.map (Value.int .i64) ∧ l.length = n
 | 0, xs, h, _ => ⟨[], by simpa using h, rfl⟩
 | n + 1, [], h, _ => by simp at h
 | n + 1, x :: xs, h, hk => by
  obtain ⟨l, h1, h2⟩ := ints_of (n := n) (xs := xs) (by simpa using h) (fun i k y a b => hk (i + 1) k y (by simpa [List.replicate_succ] using a) (by simpa using b))
  have := hk 0 (.int .i64) x (by simp [List.replicate_succ]) (by simp)
  cases x with
  | int k a =>
   simp [SK.is] at this
   subst this
   exact ⟨a :: l, by simp [h1], by simp [h2]⟩
  | _ => simp [SK.is] at this
theorem vsEq_ints : ∀ {l m : List Int}, l.length = m.length → vsEq (l.map (Value.int .i64)) (m.map (Value.int .i64)) = decide (l = m)
 | [], [], _ => rfl
 | a :: l, b :: m, h => by
  have ih := vsEq_ints (l := l) (m := m) (by simpa using h)
  simp only [List.map_cons, vsEq, vEq, ih]
  by_cases h1 : a = b <;> by_cases h2 : l = m <;> simp [h1, h2]
 | [], _ :: _, h => by simp at h
 | _ :: _, [], h => by simp at h
theorem list3 {l : List Int} (h : l.length = 3) : ∃ a b c, l = [a, b, c] := by
 match l, h with
 | [a, b, c], _ => exact ⟨a, b, c, rfl⟩
theorem list10 {l : List Int} (h : l.length = 10) : ∃ a : Ag, l = [a.n, a.s0, a.l0, a.h0, a.s1, a.l1, a.h1, a.s2, a.l2, a.h2] := by
 match l, h with
 | [a, b, c, d, e, f, g, x, y, z], _ => exact ⟨⟨a, b, c, d, e, f, g, x, y, z⟩, rfl⟩
theorem list12 {l : List Int} (h : l.length = 12) : ∃ a : Cel, l = [a.key, a.child, a.agg.n, a.agg.s0, a.agg.l0, a.agg.h0, a.agg.s1, a.agg.l1, a.agg.h1, a.agg.s2, a.agg.l2, a.agg.h2] := by
 match l, h with
 | [p, q, a, b, c, d, e, f, g, x, y, z], _ => exact ⟨⟨p, q, ⟨a, b, c, d, e, f, g, x, y, z⟩⟩, rfl⟩
theorem chk_int (b : Bool) (d : Nat) (w : World) (a : Int) : (Instr.checkKey b (d + 1) 3 (.int .i64 a)).run Try.prog w = .ok () w := by
 unfold Instr.checkKey
 simp [run_underlying Try.underlying3]
theorem chk_i64 (b : Bool) (d : Nat) (w : World) (a : Int) : (Instr.checkKey b (d + 1) 2 (.int .i64 a)).run Try.prog w = .ok () w := by
 unfold Instr.checkKey
 simp [run_underlying Try.underlying2]
set_option maxHeartbeats 1000000 in
set_option maxRecDepth 100000 in
theorem chk_part (b : Bool) (d : Nat) (w : World) (a0 a1 a2 : Int) : (Instr.checkKey b (d + 2) 53 (.agg #[.int .i64 a0, .int .i64 a1, .int .i64 a2])).run Try.prog w = .ok () w := by
 unfold Instr.checkKey
 simp [run_underlying Try.underlying53, go_sem, chk_int, chk_i64]
set_option maxHeartbeats 1000000 in
set_option maxRecDepth 100000 in
theorem chk_parts (b : Bool) (d : Nat) (w : World) (a0 a1 a2 a3 a4 a5 a6 a7 a8 : Int) : (Instr.checkKey b (d + 3) 54 (.agg #[.int .i64 a0, .int .i64 a1, .int .i64 a2, .int .i64 a3, .int .i64 a4, .int .i64 a5, .int .i64 a6, .int .i64 a7, .int .i64 a8])).run Try.prog w = .ok () w := by
 unfold Instr.checkKey
 simp [run_underlying Try.underlying54, go_sem, List.range'_succ, chk_part]
set_option maxHeartbeats 1000000 in
set_option maxRecDepth 100000 in
theorem chk_ag (b : Bool) (d : Nat) (w : World) (a : Ag) : (Instr.checkKey b (d + 4) 56 (.agg a.arr)).run Try.prog w = .ok () w := by
 unfold Instr.checkKey Ag.arr
 simp [run_underlying Try.underlying56, go_sem, chk_int, chk_i64, chk_parts]
set_option maxHeartbeats 1000000 in
set_option maxRecDepth 100000 in
theorem chk_cel (b : Bool) (d : Nat) (w : World) (a : Cel) : (Instr.checkKey b (d + 5) 58 (.agg a.arr)).run Try.prog w = .ok () w := by
 have h := fun w => chk_ag b d w a.agg
 unfold Ag.arr at h
 unfold Instr.checkKey Cel.arr
 simp [run_underlying Try.underlying58, go_sem, chk_int, chk_i64, h]
set_option maxHeartbeats 1000000 in
set_option maxRecDepth 100000 in
theorem eq_cen (d : Nat) (w : World) (a0 a1 a2 b0 b1 b2 : Int) : (Op.equalIn (d + 2) 35 (.agg #[.int .i64 a0, .int .i64 a1, .int .i64 a2]) (.agg #[.int .i64 b0, .int .i64 b1, .int .i64 b2])).run Try.prog w = .ok (decide (a0 = b0 ∧ a1 = b1 ∧ a2 = b2)) w := by
 rw [run_equalIn_struct w (d + 1) _ _ _ (by kernel_rfl) (by kernel_rfl)]
 by_cases h0 : a0 = b0 <;> by_cases h1 : a1 = b1 <;> by_cases h2 : a2 = b2 <;> simp [go_sem, h0, h1, h2]
set_option maxHeartbeats 1000000 in
set_option maxRecDepth 100000 in
theorem chk_cen (b : Bool) (d : Nat) (w : World) (a0 a1 a2 : Int) : (Instr.checkKey b (d + 2) 35 (.agg #[.int .i64 a0, .int .i64 a1, .int .i64 a2])).run Try.prog w = .ok () w := by
 unfold Instr.checkKey
 simp [run_underlying Try.underlying35, go_sem, chk_int, chk_i64]
theorem hE0 : ∀ t ks, eqE t = some ks → EqOk Try.prog t ks := by
 intro t ks h
 unfold eqE at h
 split at h
 ·rename_i e
  subst e
  injection h with h
  subst h
  intro xs ys h1 h2 h3 h4 w
  obtain ⟨l, rfl, hl⟩ := ints_of (by simpa using h1) h3
  obtain ⟨m, rfl, hm⟩ := ints_of (by simpa using h2) h4
  obtain ⟨a, rfl⟩ := list10 hl
  obtain ⟨c, rfl⟩ := list10 hm
  refine ⟨?_, fun b => chk_ag b 9996 w a⟩
  rw [vsEq_ints (by simp)]
  refine (eq_ag 9996 w a c).trans ?_
  congr 1
  simp [ag_eq, and_assoc]
 ·skip
  split at h
  ·rename_i e
   subst e
   injection h with h
   subst h
   intro xs ys h1 h2 h3 h4 w
   obtain ⟨l, rfl, hl⟩ := ints_of (by simpa using h1) h3
   obtain ⟨m, rfl, hm⟩ := ints_of (by simpa using h2) h4
   obtain ⟨a, rfl⟩ := list12 hl
   obtain ⟨c, rfl⟩ := list12 hm
   refine ⟨?_, fun b => chk_cel b 9995 w a⟩
   rw [vsEq_ints (by simp)]
   refine (eq_cel 9995 w a c).trans ?_
   congr 1
   simp [cel_eq, ag_eq, and_assoc]
  ·skip
   split at h
   ·rename_i e
    subst e
    injection h with h
    subst h
    intro xs ys h1 h2 h3 h4 w
    obtain ⟨l, rfl, hl⟩ := ints_of (by simpa using h1) h3
    obtain ⟨m, rfl, hm⟩ := ints_of (by simpa using h2) h4
    obtain ⟨a0, a1, a2, rfl⟩ := list3 hl
    obtain ⟨c0, c1, c2, rfl⟩ := list3 hm
    refine ⟨?_, fun b => chk_part b 9998 w a0 a1 a2⟩
    rw [vsEq_ints (by simp)]
    refine (eq_part 9998 w a0 a1 a2 c0 c1 c2).trans ?_
    congr 1
    simp
   ·skip
    split at h
    ·rename_i e
     subst e
     injection h with h
     subst h
     intro xs ys h1 h2 h3 h4 w
     obtain ⟨l, rfl, hl⟩ := ints_of (by simpa using h1) h3
     obtain ⟨m, rfl, hm⟩ := ints_of (by simpa using h2) h4
     obtain ⟨a0, a1, a2, rfl⟩ := list3 hl
     obtain ⟨c0, c1, c2, rfl⟩ := list3 hm
     refine ⟨?_, fun b => chk_cen b 9998 w a0 a1 a2⟩
     rw [vsEq_ints (by simp)]
     refine (eq_cen 9998 w a0 a1 a2 c0 c1 c2).trans ?_
     congr 1
     simp
    ·skip
     cases h
theorem hE : ∀ t ks, eqT t = some ks → EqOk Try.prog t ks := hE0
theorem hEg : ∀ t ks, eqTg t = some ks → EqOk Try.prog t ks := hE0
theorem hEi : ∀ t ks, eqTi t = some ks → EqOk Try.prog t ks := hE0
theorem zcells_size (z : Array Value) (n : Nat) : (Builtin.zeroCells z n).size = n * z.size := by simp [Builtin.zeroCells]
theorem gcap (w : World) (need old : Nat) (e : TypeId) (h : need < 9223372036854775808) : need ≤ grownCap w need old e ∧ grownCap w need old e ≤ maxLen := by
 have he : grownCap w need old e = need + (w.tape w.drawn (.appendCap need old e)) % (2 ^ 63 - need) := rfl
 rw [he]
 unfold maxLen
 have : (w.tape w.drawn (.appendCap need old e)) % (2 ^ 63 - need) < 2 ^ 63 - need := Nat.mod_lt _ (by omega)
 constructor
 ·exact Nat.le_add_right _ _
 ·omega
theorem cel_inf : (Try.prog.info? 58).map (fun i => (i.zero, i.size, i.bytes)) = some (some (.agg #[.int .i64 0, .int .i64 0, .int .i64 0, .int .i64 0, .int .i64 0, .int .i64 0, .int .i64 0, .int .i64 0, .int .i64 0, .int .i64 0, .int .i64 0, .int .i64 0]), 12, 96) := by kernel_rfl
def GrowQ (w : World) (e : Ending) (w' : World) : Prop := ∃ cap carr, e = .returned (.slice (some ⟨w.heap.size, 0, none⟩) 0 cap) ∧ w' = w.drew.alloc (.cells carr 58) ∧ carr.size = cap * 12 ∧ cap ≤ maxLen
set_option maxHeartbeats 400000 in
set_option maxRecDepth 100000 in
theorem grow_some (A : Option Addr) (n : Nat) (w : World) (h0 : 0 < n) (hn : n ≤ 1000000) : Calls Try.prog 81 #[.slice A 0 0, .int .i64 n] w (GrowQ w) := by
 obtain ⟨i0, hi, hz0, hz1, hz2⟩ := info_parts cel_inf
 have hr := Lib.run_append_grow_zeros (P := Try.prog) w 61 3 61 58 i0 _ .i64 .i64 Try.underlying61 Try.underlying3 hi hz0 A 0 0 [] (by cases A <;> simp [Builtin.firstCells, loadCells, loadCellsFrom]) n (by omega) (by rw [hz1]; omega) (by omega) (by omega) (by rw [hz2]; omega) (by rw [hz2]; unfold Builtin.nextslicecap; rw [if_pos (by omega)]; omega)
 have hc := gcap w (0 + n) 0 58 (by omega)
 generalize grownCap w (0 + n) 0 58 = cap at hr hc
 have hp : 0 < n := by omega
 have hpi : (0 : Int) < n := by omega
 simp only [Nat.zero_add] at hr hc
 have HR := Lib.hid hr
 have hcc : n ≤ cap := hc.1
 have ho : Hid (GrowQ w (.returned (.slice (some ⟨w.heap.size, 0, none⟩) 0 cap)) (w.drew.alloc (.cells (#[] ++ Builtin.zeroCells (Value.agg #[.int .i64 0, .int .i64 0, .int .i64 0, .int .i64 0, .int .i64 0, .int .i64 0, .int .i64 0, .int .i64 0, .int .i64 0, .int .i64 0, .int .i64 0, .int .i64 0]).cells n ++ Builtin.zeroCells (Value.agg #[.int .i64 0, .int .i64 0, .int .i64 0, .int .i64 0, .int .i64 0, .int .i64 0, .int .i64 0, .int .i64 0, .int .i64 0, .int .i64 0, .int .i64 0, .int .i64 0]).cells (cap - n)) 58))) := by
  refine ⟨cap, _, rfl, rfl, ?_, hc.2⟩
  rw [Array.size_append, Array.size_append, zcells_size, zcells_size]
  simp [Value.cells]
  omega
 generalize w.drew.alloc _ = w1 at HR ho
 clear hr hc
 cases A with
 | none =>
  go_enter Try.func81, Try.ntmps81
  go_wp2_with (at_builtin; refine wpList_append_run rfl (.tmp 20) (.tmp 21) _ _ rfl rfl rfl HR.out ?_)
  go_ret
  exact ho.out
 | some A =>
  go_enter Try.func81, Try.ntmps81
  go_wp2_with (at_builtin; refine wpList_append_run rfl (.tmp 20) (.tmp 21) _ _ rfl rfl rfl HR.out ?_)
  go_ret
  exact ho.out
set_option maxHeartbeats 400000 in
set_option maxRecDepth 100000 in
theorem grow_none (A : Option Addr) (w : World) : Calls Try.prog 81 #[.slice A 0 0, .int .i64 0] w (fun e w' => e = .returned (.slice A 0 0) ∧ w' = w) := by
 cases A with
 | none =>
  go_enter Try.func81, Try.ntmps81
  go_wp2
  go_ret
  exact ⟨rfl, rfl⟩
 | some A =>
  go_enter Try.func81, Try.ntmps81
  go_wp2
  go_ret
  exact ⟨rfl, rfl⟩
theorem grow_callOk : callOk Try.prog 81 := ⟨_, Try.func81, by kernel_rfl, by kernel_rfl⟩
theorem grow_sound (n : Nat) (H : AHeap) (h0 : 0 < n) (hn : n ≤ 1000000) : Sound Try.prog 81 [.sl .full [], .i n] H fun r H' => r = .sl (.own H.next) [] ∧ H' = H.alloc (.tok 0 58 12) := by
 refine ⟨grow_callOk, fun g w vs hW hV => ?_⟩
 obtain ⟨v0, v1, rfl⟩ : ∃ v0 v1, vs = [v0, v1] := by
  match vs, hV.1 with
  | [v0, v1], _ => exact ⟨v0, v1, rfl⟩
 have h1 := hV.2 0 _ _ rfl rfl
 have h2 := hV.2 1 _ _ rfl rfl
 cases h2
 cases h1 with
 | sl _ _ A c sz b o f hc hm hA hsz hcell hv ht =>
  have ht' : c = 0 := ht
  subst ht'
  refine (grow_some A n w h0 hn).mono fun e w' ⟨cap, carr, he, hw', hs, hcm⟩ => ?_
  subst hw'
  have hgr : w.grownBy (w.drew.alloc (.cells carr 58)) none := ⟨rfl, rfl, rfl, by simp, fun k hk _ => heap_alloc_old w.drew _ hk⟩
  obtain ⟨k1, k2⟩ := new_tok (n := 0) hW hgr (Nat.le_refl _) (heap_alloc_new w.drew _) hs (Nat.zero_le _) hcm
  refine ⟨_, _, _, _, he, ⟨rfl, rfl⟩, ?_, k1, k2⟩
  exact VR.sl (.own H.next) [] _ cap 0 0 0 (fun _ _ => undef) (Nat.zero_le _) hcm (fun h => absurd rfl h) (fun r h => by cases h) (fun i r j x h => by simp at h) (fun i r j x h => by simp at h) ⟨0, cap, w.heap.size, by simp [Gh.tok], Nat.le_refl _, fun _ => ⟨rfl, fun _ => rfl⟩⟩
theorem grow_sound0 (H : AHeap) : Sound Try.prog 81 [.sl .full [], .i 0] H fun r H' => r = .sl .full [] ∧ H' = H := by
 refine ⟨grow_callOk, fun g w vs hW hV => ?_⟩
 obtain ⟨v0, v1, rfl⟩ : ∃ v0 v1, vs = [v0, v1] := by
  match vs, hV.1 with
  | [v0, v1], _ => exact ⟨v0, v1, rfl⟩
 have h1 := hV.2 0 _ _ rfl rfl
 have h2 := hV.2 1 _ _ rfl rfl
 cases h2
 cases h1 with
 | sl _ _ A c sz b o f hc hm hA hsz hcell hv ht =>
  have ht' : c = 0 := ht
  subst ht'
  refine (grow_none A w).mono fun e w' ⟨he, hw'⟩ => ?_
  subst hw'
  exact ⟨_, _, _, g, he, ⟨rfl, rfl⟩, VR.sl .full [] A 0 sz b o f hc hm hA hsz hcell hv rfl, hW, .refl _ _ _⟩
def v58_1 : ACode := .blk 0 (.loop (.seq (.reg [io 31 (.bin .lss (.t 30) (.t 29))]) (.seq (.cond (.t 31) .skip (.exit 0)) (.seq (.blk 1 (.seq (.reg [io 32 (.ixa 1 (.t 28) (.t 30)), io 33 (.ld 1 false (.t 32)), im 12 33]) (.seq (.reg [im 34 9, im 35 0, io 36 (.nck (.t 35)), io 37 (.fla 0 (.t 36)), io 38 (.ld 1 false (.t 37)), im 39 12, io 40 (.ixa 11 (.t 38) (.t 39)), io 41 (.fla 0 (.t 40)), io 42 (.ld 1 false (.t 41)), im 43 1, io 44 (.ixa 1 (.t 42) (.t 43)), io 45 (.ld 1 false (.t 44)), io 46 (.ixa 1 (.t 34) (.t 45)), io 47 (.ld 1 false (.t 46)), im 13 47]) (.reg [im 48 10, im 49 13, im 50 10, im 51 13, io 52 (.lkp (.one (.int .i64)) (.sl .full []) false (.t 50) (.t 51)), im 53 12, io 54 (.bsl 1 [.t 53]), io 55 (.app 3 1 8 (.t 52) (.t 54)), iz (.mup (.one (.int .i64)) (.t 48) (.t 49) (.t 55))])))) (.reg [io 56 (.bin .add (.t 30) (ik 1)), im 30 56])))))
def v58_2 : ACode := .blk 2 (.loop (.seq (.reg [io 59 (.nxt false (.t 58)), io 60 (.ext (.t 59) 0)]) (.seq (.cond (.t 60) .skip (.exit 2)) (.blk 3 (.seq (.reg [io 61 (.ent (.t 58)), io 62 (.ext (.t 61) 0), io 63 (.ext (.t 61) 1), im 15 62, im 16 63]) (.reg [im 64 14, im 65 15, im 66 16, io 67 (.bld [.sc (.int .i64 0), .sl .full []] [(0, (1, .t 65)), (1, (1, .t 66))]), io 68 (.bsv 119 2 [.t 67]), io 69 (.apv 119 2 32 [.sc (.int .i64 0), .sl .full []] (.t 64) (.t 68)), im 14 69]))))))
def v58_0 : ACode := .seq (.reg [io 8 (.mv jn)]) (.seq (.reg [im 17 0, io 18 (.nck (.t 17)), io 19 (.fla 1 (.t 18)), io 20 (.ld 1 false (.t 19)), im 21 1, io 22 (.ixa 1 (.t 20) (.t 21)), io 23 (.ld 1 false (.t 22)), im 24 2, io 25 (.ixa 1 (.t 23) (.t 24)), io 26 (.ld 1 false (.t 25)), im 9 26]) (.seq (.reg [io 27 (.mkm (.one (.int .i64))), im 10 27]) (.seq (.seq (.reg [im 28 3, io 29 (.len false (.t 28)), jm 30 0]) v58_1) (.seq (.reg [io 14 (.mv jn)]) (.seq (.seq (.reg [im 57 10, io 58 (.rng (.t 57))]) v58_2) (.seq (.reg [im 70 14, io 71 (.call (jf 76) [.t 70, jf 77])]) (.seq (.reg [im 72 14, im 8 72]) .ret)))))))
theorem vf58 : cFn Try.prog eqTg 58 = some (v58_0, [(.tmp 8)], 73) := by kernel_rfl
def zia0 : AV := .agg [.sc (.int .i64 0), .sc (.int .i64 0), .sc (.int .i64 0)]
def zia1 : AV := .agg [.sc (.int .i64 0), .sl .full [], .sc (.int .i64 0), .sc (.int .i64 0), .sc (.int .i64 0), .sc (.int .i64 0), .sc (.int .i64 0), .sc (.int .i64 0), .sc (.int .i64 0), .sc (.int .i64 0), .sc (.int .i64 0), .sc (.int .i64 0), .sc (.int .i64 0), .sc (.int .i64 0)]
def zia2 : AV := .agg [.sc (.int .i64 0), .sc (.int .i64 0), .sc (.int .i64 0), .sc (.int .i64 0), .sc (.int .i64 0), .sc (.int .i64 0), .sc (.int .i64 0), .sc (.int .i64 0), .sc (.int .i64 0), .sc (.int .i64 0), .sc (.int .i64 0), .sc (.int .i64 0)]
def zil3 : List AV := [.sc (.pointer none), .sc (.int .i64 0), .sl .full [], .sc (.int .i64 0), .sl .full [], .sc (.int .i64 0)]
def zil4 : List AV := [.sl .full [], .sc (.int .i64 0), .sc (.int .i64 0), .sc (.int .i64 0), .sc (.int .i64 0), .sc (.int .i64 0), .sc (.int .i64 0), .sc (.int .i64 0), .sc (.int .i64 0), .sc (.int .i64 0), .sc (.int .i64 0)]
theorem YZi : True ∧ zia0 = .agg [.sc (.int .i64 0), .sc (.int .i64 0), .sc (.int .i64 0)] ∧ zia1 = .agg [.sc (.int .i64 0), .sl .full [], .sc (.int .i64 0), .sc (.int .i64 0), .sc (.int .i64 0), .sc (.int .i64 0), .sc (.int .i64 0), .sc (.int .i64 0), .sc (.int .i64 0), .sc (.int .i64 0), .sc (.int .i64 0), .sc (.int .i64 0), .sc (.int .i64 0), .sc (.int .i64 0)] ∧ zia2 = .agg [.sc (.int .i64 0), .sc (.int .i64 0), .sc (.int .i64 0), .sc (.int .i64 0), .sc (.int .i64 0), .sc (.int .i64 0), .sc (.int .i64 0), .sc (.int .i64 0), .sc (.int .i64 0), .sc (.int .i64 0), .sc (.int .i64 0), .sc (.int .i64 0)] ∧ zil3 = [.sc (.pointer none), .sc (.int .i64 0), .sl .full [], .sc (.int .i64 0), .sl .full [], .sc (.int .i64 0)] ∧ zil4 = [.sl .full [], .sc (.int .i64 0), .sc (.int .i64 0), .sc (.int .i64 0), .sc (.int .i64 0), .sc (.int .i64 0), .sc (.int .i64 0), .sc (.int .i64 0), .sc (.int .i64 0), .sc (.int .i64 0), .sc (.int .i64 0)] := ⟨trivial, rfl, rfl, rfl, rfl, rfl⟩
def v43_1 : ACode := .blk 0 (.loop (.seq (.reg [io 34 (.bin .lss (.t 33) (.t 32))]) (.seq (.cond (.t 34) .skip (.exit 0)) (.seq (.blk 1 (.seq (.reg [io 35 (.ixa 12 (.t 31) (.t 33)), io 36 (.ld 12 true (.t 35)), io 10 (.box 58 (.c zia2)), iz (.st 12 (.t 10) (.t 36))]) (.seq (.seq (.reg [im 37 0, io 38 (.nck (.t 37)), io 39 (.fla 5 (.t 38)), io 40 (.ld 1 false (.t 39)), io 41 (.bin .neq (.t 40) (ik 0))]) (.cond (.t 41) .ret .skip)) (.reg [im 42 8, im 43 1, io 44 (.ld 12 true (.t 10)), io 45 (.call (.t 42) [.t 43, .t 44])])))) (.reg [io 46 (.bin .add (.t 33) (ik 1)), im 33 46])))))
def v43_0 : ACode := .seq (.reg [im 12 0, io 13 (.nck (.t 12)), io 14 (.fla 0 (.t 13)), io 15 (.ld 1 false (.t 14)), im 16 2, io 17 (.call (jf 67) [.t 15, .t 16]), im 11 17, io 18 (.ext (.t 11) 0), io 19 (.ext (.t 11) 1), io 6 (.box 60 (.c zia1)), iz (.st 14 (.t 6) (.t 18)), im 7 19]) (.seq (.seq (.reg [im 20 7, io 21 (.bin .neq (.t 20) (ik 0))]) (.cond (.t 21) (.seq (.reg [im 22 0, im 23 7, io 24 (.nck (.t 22)), io 25 (.fla 5 (.t 24)), iz (.st 1 (.t 25) (.t 23))]) .ret) .skip)) (.seq (.reg [im 26 0, io 27 (.mkf 68 [.t 26] []), im 8 27]) (.seq (.reg [io 28 (.fla 1 (.t 6)), io 29 (.ld 1 false (.t 28)), io 30 (.ixa 1 (.t 29) (ik 0)), io 31 (.ld 1 false (.t 30)), io 32 (.len false (.t 31)), jm 33 0]) v43_1)))
theorem vf43 : cFn Try.prog eqTi 43 = some (v43_0, [], 47) := by kernel_rfl
def v68_0 : ACode := .seq (.reg [io 5 (.box 58 (.t 2))]) (.seq (.drw [ip (im 6 0), ip (im 7 0), ip (io 8 (.nck (.t 7))), ip (io 9 (.fla 2 (.t 8))), ip (io 10 (.ld 1 false (.t 9))), ip (io 11 (.fla 0 (.t 5))), ip (io 12 (.ld 1 false (.t 11))), (io 13 (.bsv 3 1 [.t 12]), [io 10 (.ld 1 false (.t 9))]), ip (io 14 (.apv 3 1 8 [.sc (.int .i64 0)] (.t 10) (.t 13))), ip (io 15 (.nck (.t 6))), ip (io 16 (.fla 2 (.t 15))), ip (iz (.st 1 (.t 16) (.t 14)))]) (.seq (.seq (.reg [im 17 1, im 18 0, io 19 (.nck (.t 18)), io 20 (.fla 1 (.t 19)), io 21 (.ld 1 false (.t 20)), io 22 (.bin .eql (.t 17) (.t 21))]) (.cond (.t 22) (.reg [im 23 0, io 24 (.fla 2 (.t 5)), io 25 (.ld 10 true (.t 24)), io 26 (.call (jf 86) [.t 23, .t 25])]) (.reg [im 27 0, im 28 1, io 29 (.bin .add (.t 28) (ik 1)), io 30 (.fla 1 (.t 5)), io 31 (.ld 1 false (.t 30)), io 32 (.call (jf 43) [.t 27, .t 29, .t 31])]))) (.reg [im 33 0, im 34 0, io 35 (.nck (.t 34)), io 36 (.fla 2 (.t 35)), io 37 (.ld 1 false (.t 36)), im 38 1, io 39 (.slc 1 (.t 37) none (some (.t 38)) none), io 40 (.nck (.t 33)), io 41 (.fla 2 (.t 40)), iz (.st 1 (.t 41) (.t 39))])))
theorem vf68 : cFn Try.prog eqTi 68 = some (v68_0, [], 42) := by kernel_rfl
def v86_0 : ACode := .seq (.reg [io 3 (.box 56 (.t 1))]) (.seq (.seq (.drw [ip (im 4 0), ip (io 5 (.nck (.t 4))), ip (io 6 (.fla 4 (.t 5))), ip (io 7 (.ld 1 false (.t 6))), ip (io 8 (.len false (.t 7))), ip (im 9 0), ip (io 10 (.nck (.t 9))), ip (io 11 (.fla 3 (.t 10))), ip (io 12 (.ld 1 false (.t 11))), ip (io 13 (.bin .geq (.t 8) (.t 12)))]) (.cond (.t 13) (.seq (.reg [im 14 0, io 15 (.nck (.t 14)), io 16 (.fla 5 (.t 15)), iz (.st 1 (.t 16) (ik 6))]) .ret) .skip)) (.drw [ip (im 17 0), ip (im 18 0), ip (io 19 (.nck (.t 18))), ip (io 20 (.fla 4 (.t 19))), ip (io 21 (.ld 1 false (.t 20))), ip (im 22 0), ip (io 23 (.nck (.t 22))), ip (io 24 (.fla 2 (.t 23))), ip (io 25 (.ld 1 false (.t 24))), ip (io 27 (.ld 10 true (.t 3))), (io 26 (.call (jf 55) [.t 25]), [io 21 (.ld 1 false (.t 20)), io 27 (.ld 10 true (.t 3))]), ip (io 28 (.bld zil4 [(0, (1, .t 26)), (1, (10, .t 27))])), ip (io 29 (.bsl 11 [.t 28])), ip (io 30 (.app 76 11 104 (.t 21) (.t 29))), ip (io 31 (.nck (.t 17))), ip (io 32 (.fla 4 (.t 31))), ip (iz (.st 1 (.t 32) (.t 30)))]))
theorem vf86 : cFn Try.prog eqTi 86 = some (v86_0, [], 33) := by kernel_rfl
end Go.Proofs.Ytaapiigfmdhobaa
