/- Texts of the walk, joined: Gl Gm. -/
import Derived.Shelf.SlIter.Nil
import Derived.Shelf.SortM.Plain
import Derived.Shelf.SortM.SortNone
import Derived.Ground.GgzProg
import Derived.Ground.SlgmProg
import Derived.Test.YtafbdhoaoileiaaProg
import Derived.Test.YtafbdhoaoileiaaChecked
import Derived.Test.YtafbdhoaoileiaaMh
import Derived.Lib.RowBridge
namespace Go.Proofs.Ytafbdhoaoileiaa
set_option linter.unusedSimpArgs false
set_option linter.unusedVariables false
open Go.Shelf
def keys22_ren : Go.Shelf.Ren := ⟨fun | 7 => 22 | 10 => 31 | n => n, fun | 23 => 46 | 26 => 9 | 3 => 38 | 28 => 61 | 0 => 0 | 27 => 60 | 33 => 73 | 4 => 4 | n => n, fun | n => n⟩
theorem keys22 : Go.Proofs.SlLaysZ.n7 Try.prog keys22_ren := {
 mixed := by kernel_rfl
 f7 := ⟨Try.f22.name, by decide, Try.func22.trans (congrArg some (by kernel_rfl))⟩
 f10 := ⟨Try.f31.name, by decide, Try.func31.trans (congrArg some (by kernel_rfl))⟩
 t0 := Try.underlying0
 a0 := Try.isAgg0
 z0 := Try.sizeOf0
 v0 := Try.zeroValue0
 t4 := Try.underlying4
 a4 := Try.isAgg4
 z4 := Try.sizeOf4
 v4 := Try.zeroValue4
 t23 := Try.underlying46
 a23 := Try.isAgg46
 z23 := Try.sizeOf46
 v23 := Try.zeroValue46
 t26 := Try.underlying9
 a26 := Try.isAgg9
 z26 := Try.sizeOf9
 v26 := Try.zeroValue9
 t27 := Try.underlying60
 a27 := Try.isAgg60
 z27 := Try.sizeOf60
 v27 := Try.zeroValue60
 t28 := Try.underlying61
 a28 := Try.isAgg61
 z28 := Try.sizeOf61
 v28 := Try.zeroValue61
 t33 := Try.underlying73
 a33 := Try.isAgg73
 z33 := Try.sizeOf73
 v33 := Try.zeroValue73 }
def sorted21_ren : Go.Shelf.Ren := ⟨fun | 6 => 21 | 8 => 29 | 9 => 30 | 11 => 34 | 13 => 36 | 12 => 35 | 23 => 50 | 24 => 51 | 14 => 41 | 15 => 42 | 16 => 43 | 17 => 44 | 18 => 45 | 19 => 46 | 20 => 47 | 21 => 48 | 22 => 49 | 25 => 52 | 26 => 53 | 27 => 54 | 28 => 55 | 29 => 56 | 30 => 57 | 31 => 58 | n => n, fun | 26 => 9 | 28 => 61 | 24 => 58 | 0 => 0 | 3 => 3 | 37 => 78 | 48 => 95 | 50 => 66 | 4 => 4 | 40 => 87 | 39 => 86 | 45 => 92 | 5 => 5 | 9 => 9 | 51 => 96 | 55 => 100 | 57 => 102 | 58 => 103 | 33 => 73 | n => n, fun | n => n⟩
theorem sorted21 : Go.Proofs.SlLaysZ.n6 Try.prog sorted21_ren := {
 mixed := by kernel_rfl
 f6 := ⟨Try.f21.name, by decide, Try.func21.trans (congrArg some (by kernel_rfl))⟩
 f8 := ⟨Try.f29.name, by decide, Try.func29.trans (congrArg some (by kernel_rfl))⟩
 f11 := ⟨Try.f34.name, by decide, Try.func34.trans (congrArg some (by kernel_rfl))⟩
 t0 := Try.underlying0
 a0 := Try.isAgg0
 z0 := Try.sizeOf0
 v0 := Try.zeroValue0
 t24 := Try.underlying58
 a24 := Try.isAgg58
 z24 := Try.sizeOf58
 v24 := Try.zeroValue58
 t26 := Try.underlying9
 a26 := Try.isAgg9
 z26 := Try.sizeOf9
 v26 := Try.zeroValue9
 t28 := Try.underlying61
 a28 := Try.isAgg61
 z28 := Try.sizeOf61
 v28 := Try.zeroValue61
 i26 := by kernel_rfl }
def sort30_ren : Go.Shelf.Ren := ⟨fun | 6 => 30 | 8 => 36 | 9 => 35 | 19 => 50 | 20 => 51 | 21 => 41 | 22 => 42 | 23 => 43 | 24 => 44 | 25 => 45 | 26 => 46 | 27 => 47 | 28 => 48 | 29 => 49 | 36 => 52 | 31 => 53 | 32 => 54 | 37 => 55 | 38 => 56 | 39 => 57 | 41 => 58 | n => n, fun | 27 => 58 | 29 => 9 | 3 => 3 | 32 => 78 | 26 => 58 | 0 => 0 | 44 => 95 | 46 => 66 | 4 => 4 | 36 => 87 | 35 => 86 | 41 => 92 | 5 => 5 | 9 => 9 | 53 => 96 | 57 => 100 | 63 => 102 | 64 => 103 | n => n, fun | n => n⟩
theorem sort30 : Go.Proofs.SlLaysM.n6 Try.prog sort30_ren := {
 mixed := by kernel_rfl
 f6 := ⟨Try.f30.name, by decide, Try.func30.trans (congrArg some (by kernel_rfl))⟩
 f8 := Try.func36.trans (congrArg some (by kernel_rfl))
 f9 := ⟨Try.f35.name, by decide, Try.func35.trans (congrArg some (by kernel_rfl))⟩
 f19 := Try.func50.trans (congrArg some (by kernel_rfl))
 f20 := Try.func51.trans (congrArg some (by kernel_rfl))
 f21 := ⟨Try.f41.name, by decide, Try.func41.trans (congrArg some (by kernel_rfl))⟩
 f22 := ⟨Try.f42.name, by decide, Try.func42.trans (congrArg some (by kernel_rfl))⟩
 f23 := ⟨Try.f43.name, by decide, Try.func43.trans (congrArg some (by kernel_rfl))⟩
 f24 := ⟨Try.f44.name, by decide, Try.func44.trans (congrArg some (by kernel_rfl))⟩
 f25 := ⟨Try.f45.name, by decide, Try.func45.trans (congrArg some (by kernel_rfl))⟩
 f26 := ⟨Try.f46.name, by decide, Try.func46.trans (congrArg some (by kernel_rfl))⟩
 f27 := ⟨Try.f47.name, by decide, Try.func47.trans (congrArg some (by kernel_rfl))⟩
 f28 := ⟨Try.f48.name, by decide, Try.func48.trans (congrArg some (by kernel_rfl))⟩
 f29 := ⟨Try.f49.name, by decide, Try.func49.trans (congrArg some (by kernel_rfl))⟩
 f31 := Try.func53.trans (congrArg some (by kernel_rfl))
 f32 := Try.func54.trans (congrArg some (by kernel_rfl))
 f36 := ⟨Try.f52.name, by decide, Try.func52.trans (congrArg some (by kernel_rfl))⟩
 f37 := ⟨Try.f55.name, by decide, Try.func55.trans (congrArg some (by kernel_rfl))⟩
 f38 := ⟨Try.f56.name, by decide, Try.func56.trans (congrArg some (by kernel_rfl))⟩
 f39 := ⟨Try.f57.name, by decide, Try.func57.trans (congrArg some (by kernel_rfl))⟩
 f41 := ⟨Try.f58.name, by decide, Try.func58.trans (congrArg some (by kernel_rfl))⟩
 t0 := Try.underlying0
 a0 := Try.isAgg0
 z0 := Try.sizeOf0
 v0 := Try.zeroValue0
 t3 := Try.underlying3
 a3 := Try.isAgg3
 z3 := Try.sizeOf3
 v3 := Try.zeroValue3
 t4 := Try.underlying4
 a4 := Try.isAgg4
 z4 := Try.sizeOf4
 v4 := Try.zeroValue4
 t5 := Try.underlying5
 a5 := Try.isAgg5
 z5 := Try.sizeOf5
 v5 := Try.zeroValue5
 t9 := Try.underlying9
 a9 := Try.isAgg9
 z9 := Try.sizeOf9
 v9 := Try.zeroValue9
 t26 := Try.underlying58
 a26 := Try.isAgg58
 z26 := Try.sizeOf58
 v26 := Try.zeroValue58
 t27 := Try.underlying58
 a27 := Try.isAgg58
 z27 := Try.sizeOf58
 v27 := Try.zeroValue58
 t29 := Try.underlying9
 a29 := Try.isAgg9
 z29 := Try.sizeOf9
 v29 := Try.zeroValue9
 t32 := Try.underlying78
 a32 := Try.isAgg78
 z32 := Try.sizeOf78
 v32 := Try.zeroValue78
 t35 := Try.underlying86
 a35 := Try.isAgg86
 z35 := Try.sizeOf86
 v35 := Try.zeroValue86
 t36 := Try.underlying87
 a36 := Try.isAgg87
 z36 := Try.sizeOf87
 v36 := Try.zeroValue87
 t41 := Try.underlying92
 a41 := Try.isAgg92
 z41 := Try.sizeOf92
 v41 := Try.zeroValue92
 t44 := Try.underlying95
 a44 := Try.isAgg95
 z44 := Try.sizeOf95
 v44 := Try.zeroValue95
 t46 := Try.underlying66
 a46 := Try.isAgg66
 z46 := Try.sizeOf66
 v46 := Try.zeroValue66
 t53 := Try.underlying96
 a53 := Try.isAgg96
 z53 := Try.sizeOf96
 v53 := Try.zeroValue96
 t57 := Try.underlying100
 a57 := Try.isAgg100
 z57 := Try.sizeOf100
 v57 := Try.zeroValue100
 t63 := Try.underlying102
 a63 := Try.isAgg102
 z63 := Try.sizeOf102
 v63 := Try.zeroValue102
 t64 := Try.underlying103
 a64 := Try.isAgg103
 z64 := Try.sizeOf103
 v64 := Try.zeroValue103 }
open Go.RowKit Go.Maps Go.Sort Go.Shelf
abbrev rS (l : List (List UInt8)) : List (List AV) := l.map fun s => [eS s]
def keyS (M : Tbl) : List (List UInt8) := (M.map (·.1)).mergeSort fun x y => decide (x ≤ y)
theorem below_ok {g : Gh} {H : AHeap} {w w' : World} (hW : WR g H w) (hb : Below w.heap.size w w') : WR g H w' ∧ Stp g H w g H w' := by
 have hle : g.le g w w' := ⟨fun _ _ h => h, fun _ _ _ _ h => ⟨_, _, _, h, .inr ⟨rfl, rfl, rfl⟩⟩, fun _ _ _ h => h, fun _ _ h => h, fun b j h => cell?_block (hb.block b (hW.ro b j h)) j⟩
 exact ⟨⟨fun id o h => (hW.obj id o h).mono hle (fun b h2 => hb.block b (hW.bd id o b h h2)) (fun _ _ _ h => h) rfl rfl (fun _ => rfl), hW.inj, hW.dom, fun id o b h1 h2 => Nat.lt_of_lt_of_le (hW.bd id o b h1 h2) hb.size, fun b j h => Nat.lt_of_lt_of_le (hW.ro b j h) hb.size⟩,
  ⟨hle, Nat.le_refl _, hb.os, hb.tape, hb.output, hb.size, fun b h _ => hb.block b h, fun _ _ h => h, fun _ _ _ h => .inl h⟩⟩
theorem below_tree {g : Gh} {H : AHeap} {w w' : World} (hW : WR g H w) (hb : Below w.heap.size w w') {b : Nat} (h1 : w.heap.size ≤ b) (h2 : b < w'.heap.size) : WR (g.tree b) H w' ∧ Stp g H w (g.tree b) H w' := by
 have hle : g.le (g.tree b) w w' := ⟨fun _ _ h => h, fun _ _ _ _ h => ⟨_, _, _, h, .inr ⟨rfl, rfl, rfl⟩⟩, fun _ _ _ h => h, fun _ _ h => .inl h, fun b j h => cell?_block (hb.block b (hW.ro b j h)) j⟩
 refine ⟨⟨fun id o h => (hW.obj id o h).mono hle (fun b h2 => hb.block b (hW.bd id o b h h2)) (fun b' j hb' hj => ?_) rfl rfl (fun _ => rfl), hW.inj, hW.dom, fun id o b h1 h2 => Nat.lt_of_lt_of_le (hW.bd id o b h1 h2) hb.size, fun b' j h => ?_⟩,
  ⟨hle, Nat.le_refl _, hb.os, hb.tape, hb.output, hb.size, fun b h _ => hb.block b h, fun _ _ h => h, fun b' j hlt h => ?_⟩⟩
 ·rcases hj with hj | rfl
  ·exact hj
  ·exact absurd (hW.bd id o _ h hb') (by omega)
 ·rcases h with h | rfl
  ·exact Nat.lt_of_lt_of_le (hW.ro b' j h) hb.size
  ·exact h2
 ·rcases h with h | rfl
  ·exact .inl h
  ·omega
theorem row_tree {g : Gh} {w' : World} {base n : Nat} {v : Value} {d : List (List UInt8)} (h : w'.ownsRow base 9 1 v n (d.map encStr)) (hn : n = d.length) (hg : ∀ b, v.ownBlock = some b → ∀ j, g.RO b j) : VR g w' (.sl .no (rS d)) v := by
 have hlen : n = (rS d).length := by rw [hn, List.length_map]
 rcases h.2 with ⟨rfl, h0⟩ | ⟨b, cap, cur, rfl, h2, h3, h4, h5, h6, h7⟩
 ·subst h0
  have hd : d = [] := List.eq_nil_of_length_eq_zero hn.symm
  subst hd
  exact .sl _ _ _ _ 1 0 0 (fun _ _ => .bool false) (Nat.zero_le _) (Nat.zero_le _) (fun h => absurd rfl h) (fun r hr => absurd hr (by simp)) (fun i r j x hr => by simp at hr) (fun i r j x hr => by simp at hr) trivial
 ·subst hlen
  refine .sl _ _ _ _ 1 b 0 (fun i _ => encStr (d.getD i [])) h4 h5 (fun _ => rfl) (fun r hr => ?_) (fun i r j x hr hx => ?_) (fun i r j x hr hx => ?_) trivial
  ·obtain ⟨s, _, rfl⟩ := List.mem_map.1 hr
   exact ⟨rfl, fun x hx => by rw [List.mem_singleton] at hx; subst hx; rfl⟩
  ·rw [List.getElem?_map] at hr
   obtain ⟨s, hs, rfl⟩ := Option.map_eq_some_iff.1 hr
   have hj : j = 0 := by
    have := (List.getElem?_eq_some_iff.1 hx).1
    simp at this; omega
   subst hj
   have := row_cells h3 h7 h.1 i (encStr s) (by rw [List.getElem?_map, hs]; rfl)
   simp only [Nat.zero_add, Nat.mul_one, Nat.add_zero] at this ⊢
   refine ⟨this.1.trans ?_, hg b rfl _⟩
   rw [List.getD_eq_getElem?_getD, hs]; rfl
  ·rw [List.getElem?_map] at hr
   obtain ⟨s, hs, rfl⟩ := Option.map_eq_some_iff.1 hr
   have hj : j = 0 := by
    have := (List.getElem?_eq_some_iff.1 hx).1
    simp at this; omega
   subst hj
   simp only [List.getElem?_cons_zero, Option.some.injEq] at hx
   subst hx
   rw [List.getD_eq_getElem?_getD, hs]
   exact .sc _
def rel0 (v : Value) : Option (DataW Unit × List MemPlace) := some (.nil, [])
theorem owns_tbl {g : Gh} {H : AHeap} {w : World} (hW : WR g H w) {mid b : Nat} {M : Tbl} (hm : H.get mid = some (eTbl M)) (hb : g.ι mid = some b) (hlen : M.length ≤ 1000000) (hk : ∀ p ∈ M, p.1.length ≤ 1000) (hnd : (M.map (·.1)).Nodup) :
  ∃ D : DataW Unit, w.ownsMap Try.prog 9 rel0 b M.length D ∧ Maps.size D = M.length ∧ (strKeys D).Perm (M.map (·.1)) := by
 obtain ⟨b', entries, clock, h1, h2, h3, h4, h5, _, _⟩ := hW.obj mid _ hm
 obtain rfl : b' = b := Option.some.inj (h1.symm.trans hb)
 have h3 : entries.size = M.length := by rw [h3, eMap, List.length_map]
 have hkey : ∀ i (h : i < M.length) (h' : i < entries.size), entries[i].key = kS M[i].1 ∧ entries[i].born < clock := fun i h h' => by
  have := h4 i (kS M[i].1) (eF M[i].2) entries[i] (by rw [eMap, List.getElem?_map, List.getElem?_eq_getElem h]; rfl) (Array.getElem?_eq_getElem h')
  exact ⟨this.1, this.2.2.2.1⟩
 have hkeys : entries.toList.map (·.key) = (M.map (·.1)).map kS := by
  refine List.ext_getElem (by simp [h3]) fun i h h' => ?_
  simp only [List.getElem_map, Array.getElem_toList]
  simp only [List.length_map] at h h'
  exact (hkey i h' (by omega)).1
 have hrd : ∀ i (h : i < M.length) (h' : i < entries.size), Go.WideElems.rd Try.prog 9 rel0 entries[i] = some (.string M[i].1, .nil) := fun i h h' => by
  unfold Go.WideElems.rd
  rw [(hkey i h h').1]
  have hu : Try.prog.underlying 9 = some .string := Try.underlying9
  have : keyOf Try.prog 9 (kS M[i].1) = some (.string M[i].1) := by
   have hs : (⟨M[i].1.toArray⟩ : ByteArray).size ≤ maxLen := by
    show M[i].1.toArray.size ≤ maxLen
    have := hk _ (List.getElem_mem h)
    unfold maxLen; simp; omega
   simp only [keyOf, hu, mapKey, kS, if_pos hs]
  rw [this]; rfl
 have hst : Go.MapKept.Stamped entries clock := by
  refine ⟨fun x hx => ?_, ?_, ?_⟩
  ·obtain ⟨i, hi, rfl⟩ := List.getElem_of_mem hx
   have hi' : i < entries.size := by simpa using hi
   simpa using (hkey i (by omega) hi').2
  ·rw [List.nodup_iff_pairwise_ne, List.pairwise_map, List.pairwise_iff_getElem]
   intro i j hi hj hij he
   have hi' : i < entries.size := by simpa using hi
   have hj' : j < entries.size := by simpa using hj
   have := h5 i j entries[i] entries[j] (Array.getElem?_eq_getElem hi') (Array.getElem?_eq_getElem hj') (by simpa using he)
   omega
  ·rw [hkeys]
   exact (List.nodup_iff_pairwise_ne.2 (List.pairwise_map.2 ((List.nodup_iff_pairwise_ne.1 hnd).imp fun hne e => hne (kS_inj (by injection e)))))
 refine ⟨_, ⟨entries, clock, h2, ⟨by unfold maxLen; omega, hst, fun x hx => ?_⟩, by omega, rfl⟩, ?_, ?_⟩
 ·obtain ⟨i, hi, rfl⟩ := List.getElem_of_mem hx
  have hi' : i < entries.size := by simpa using hi
  exact ⟨_, by simpa using hrd i (by omega) hi'⟩
 ·simp [Maps.size, length_sorted, h3]
 ·have hp := (Go.WideShapes.sorted_perm (entries.toList.map (Go.WideElems.rg Try.prog 9 rel0)))
  refine (hp.map fun p => Go.strOf p.1).trans (List.Perm.of_eq ?_)
  refine List.ext_getElem (by simp [h3]) fun i h h' => ?_
  simp only [List.length_map] at h h'
  simp only [List.getElem_map, Array.getElem_toList]
  rw [Go.WideElems.rg_of (hrd i h' (by omega))]
  rfl
theorem sortsIn (m : Nat) : AnyZ.SortsIn Try.prog sorted21_ren Fence.wide m :=
  ⟨fun blk off cap ss W hH hblk hsz => callsIn_wide.2 (AnyM.slices_Sort_string sort30 blk off cap ss W hH hblk hsz),
   fun p cap W => callsIn_wide.2 (AnyM.slices_Sort_string_none sort30 p cap W)⟩
theorem ok21 : callOk Try.prog 21 := ⟨_, Try.func21, by kernel_rfl, by kernel_rfl⟩
theorem sorted_sound {H : AHeap} {id mid : Nat} {M : Tbl} (hg : H.get id = some (.cells [.mp mid] 46)) (hm : H.get mid = some (eTbl M)) (hlen : M.length ≤ 1000000) (hk : ∀ p ∈ M, p.1.length ≤ 1000) (hnd : (M.map (·.1)).Nodup) :
  Sound Try.prog 21 [.fn 31 [] [.ptr id 0]] H fun r H' => r = .sl .no (rS (keyS M)) ∧ H' = H := by
 refine ⟨ok21, fun g w vs hW hV => ?_⟩
 obtain ⟨v0, rfl⟩ : ∃ v0, vs = [v0] := by
  match vs, hV.1 with
  | [v0], _ => exact ⟨v0, rfl⟩
 have h1 := hV.2 0 _ _ rfl rfl
 cases h1 with
 | fn _ _ _ vf vc hl1 hl2 hv1 hv2 =>
 obtain rfl : vf = #[] := Array.eq_empty_of_size_eq_zero hl1.symm
 obtain ⟨c0, rfl⟩ : ∃ c0, vc = #[c0] := by
  have : vc.size = 1 := hl2.symm
  exact ⟨vc[0], by ext i h1 h2; exact this; simp at h2; subst h2; rfl⟩
 have h2 := hv2 0 _ _ rfl rfl
 cases h2 with
 | ptr _ _ b0 hb0 =>
 obtain ⟨b0', carr, k1, k2, k3, k4, k5⟩ := hW.obj id _ hg
 obtain rfl : b0' = b0 := Option.some.inj (k1.symm.trans hb0)
 obtain ⟨c, hc⟩ : ∃ c, carr = #[c] := by
  have := k3.1
  simp only [Array.length_toList, List.length_cons, List.length_nil] at this
  exact ⟨carr[0], by ext i h1 h2; exact this.symm; simp at h2; subst h2; rfl⟩
 subst hc
 have h3 := k3.2 0 _ _ rfl rfl
 cases h3 with
 | mp _ b hb =>
 obtain ⟨D, hown, hsz, hperm⟩ := owns_tbl hW hm hb hlen hk hnd
 have hlt : b0' < w.heap.size := (Array.getElem?_eq_some_iff.1 k2).1
 have hcell : w.cell? ⟨b0', 0, none⟩ = some (.map (some b)) := by simp [World.cell?, k2]
 have hseq : SeqGives Fence.wide 2 Try.prog 31 #[.pointer (some ⟨b0', 0, none⟩)] encStr (fun ss => ss.Perm (strKeys D)) (Maps.size D) w :=
  AnyZ.keys_gives (ρ := keys22_ren) { keys22 with } Fence.wide _ trivial rfl (by omega) b0' b _ D w hlt hcell hown
 have hS := callsIn_wide.1 (AnyZ.sorted_in sorted21 Fence.wide 5 trivial trivial trivial trivial rfl (by omega) (sortsIn _) (enters_of Try.func30 (by kernel_rfl) rfl) 31 #[.pointer (some ⟨b0', 0, none⟩)] trivial (enters_of Try.func31 (by kernel_rfl) rfl) _ _ (by rw [hsz]; unfold maxLen; omega) (by rw [hsz]; omega) w hseq)
 refine hS.mono fun e w' h => ?_
 obtain ⟨v, ss, he, hp, hrow, _, hbel⟩ := h
 have hss : ss.mergeSort (fun x y => decide (x ≤ y)) = keyS M := mergeSort_of_perm (hp.trans hperm)
 rw [hss] at hrow
 have hn : ss.length = (keyS M).length := by rw [← hss, List.length_mergeSort]
 rcases hrow.2 with ⟨rfl, h0⟩ | ⟨bb, cap, cur, rfl, q2, q3, _⟩
 ·obtain ⟨k1, k2⟩ := below_ok hW hbel
  exact ⟨_, _, _, g, he, ⟨rfl, rfl⟩, row_tree hrow hn (fun b hb => by cases hb), k1, k2⟩
 ·obtain ⟨k1, k2⟩ := below_tree hW hbel q2 (Array.getElem?_eq_some_iff.1 q3).1
  exact ⟨_, _, _, _, he, ⟨rfl, rfl⟩, row_tree hrow hn (fun b hb j => by cases hb; exact .inr rfl), k1, k2⟩
end Go.Proofs.Ytafbdhoaoileiaa
