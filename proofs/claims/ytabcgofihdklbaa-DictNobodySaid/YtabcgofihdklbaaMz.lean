/- Texts of the walk, joined: Bz J1. -/
import Derived.Test.YtabcgofihdklbaaMd
import Derived.Shelf.Sort.Plain
import Derived.Shelf.Slices.In.SortNone
import Derived.Shelf.Slices.CompactS
import Derived.Lib.RowBridge
import Derived.Test.YtabcgofihdklbaaProg
import Derived.Test.YtabcgofihdklbaaChecked
import Derived.Ground.Names2Prog
namespace Go.Proofs.Ytabcgofihdklbaa
set_option linter.unusedSimpArgs false
set_option linter.unusedVariables false
open Go.RowKit Go.Shelf Go.Sort
abbrev eS (l : List UInt8) : AV := .sc (.string ⟨l.toArray⟩)
section
variable {P : Program} {g : Gh} {H : AHeap} {w : World}
theorem grow_list (hW : WR g H w) : ∀ (l : List Obj), ∃ g', WR g' H (grow w l.toArray) ∧ Stp g H w g' H (grow w l.toArray) := by
 intro l
 induction l generalizing g w with
 | nil => exact ⟨g, by rw [show ([] : List Obj).toArray = #[] from rfl, grow_empty]; exact hW, by rw [show ([] : List Obj).toArray = #[] from rfl, grow_empty]; exact .refl _ _ _⟩
 | cons o l ih =>
  obtain ⟨h1, h2⟩ := new_tree hW o
  obtain ⟨g', h3, h4⟩ := ih h1
  have e : grow w (o :: l).toArray = grow (w.alloc o) l.toArray := by
   rw [alloc_eq_grow, grow_grow]
   congr 1
   simp
  rw [e]
  exact ⟨g', h3, h2.trans h4⟩
theorem grow_ok (hW : WR g H w) (os : Array Obj) : ∃ g', WR g' H (grow w os) ∧ Stp g H w g' H (grow w os) := by
 have := grow_list hW os.toList
 simpa using this
theorem heap_map {w : World} {b : Nat} {f : Array Value → Array Value} {c : Array Value} {E : TypeId} {fr : Nat × Nat} (h : w.heap[b]? = some (.cells c E fr)) : (mapBlock w b f).heap[b]? = some (.cells (f c) E fr) := by
 unfold mapBlock
 simp only [Array.getElem?_modify, if_true, h, Option.map_some, onCells]
theorem heap_map_ne {w : World} {b b' : Nat} {f : Array Value → Array Value} (h : b' ≠ b) : (mapBlock w b f).heap[b']? = w.heap[b']? := by
 unfold mapBlock
 simp only [Array.getElem?_modify]
 rw [if_neg (fun e => h e.symm)]
theorem put_ok (hW : WR g H w) {id b : Nat} {cs : List AV} {E : TypeId} (hget : H.get id = some (.cells cs E)) (hi : g.ι id = some b) (n : Nat) (d : List (List UInt8)) (hd : d.length ≤ cs.length) :
  WR g (H.set id (.cells (d.map eS ++ cs.drop d.length) E)) (putRow encStr (Go.Sort.ahead w n) b 0 d.toArray) ∧ Stp g H w g (H.set id (.cells (d.map eS ++ cs.drop d.length) E)) (putRow encStr (Go.Sort.ahead w n) b 0 d.toArray) := by
 obtain ⟨b', carr, h1, h2, h3, h4, h5⟩ := hW.obj id _ hget
 obtain rfl : b' = b := Option.some.inj (h1.symm.trans hi)
 have hh : (Go.Sort.ahead w n).heap[b']? = some (.cells carr E (0, 0)) := h2
 refine set_obj hW hget hi (fun _ => Iff.rfl) (fun b2 hb => by unfold putRow; rw [heap_map_ne hb]; rfl) (by simp [putRow, mapBlock, Go.Sort.ahead]) rfl rfl rfl (fun j hj => absurd hj (h5 j)) fun hle => ?_
 refine ⟨b', putCells encStr 0 d.toArray carr, h1, by unfold putRow; exact heap_map hh, ⟨?_, fun i x u hx hu => ?_⟩, fun x hx => ?_, h5⟩
 ·have := h3.1
  simp only [Array.length_toList] at this
  simp [putCells]
  omega
 ·simp only [putCells, Array.getElem?_toList, Array.getElem?_mapIdx, Nat.zero_le, true_and, Nat.zero_add, Nat.sub_zero] at hu
  by_cases hl : i < d.length
  ·rw [List.getElem?_append_left (by simpa using hl), List.getElem?_map, List.getElem?_eq_getElem hl, Option.map_some, Option.some.injEq] at hx
   subst hx
   have hc : i < carr.size := by
    have := h3.1
    simp only [Array.length_toList] at this
    omega
   rw [Array.getElem?_eq_getElem hc, Option.map_some, if_pos (by simpa using hl), Option.some.injEq] at hu
   subst hu
   have : d.toArray[i]! = d[i] := by simp [hl]
   rw [this]
   exact .sc _
  ·rw [List.getElem?_append_right (by simpa using hl), List.getElem?_drop] at hx
   simp only [List.length_map] at hx
   rw [show d.length + (i - d.length) = i by omega] at hx
   cases hc : carr[i]? with
   | none => rw [hc] at hu; cases hu
   | some y =>
    rw [hc, Option.map_some, if_neg (by simpa using hl), Option.some.injEq] at hu
    subst hu
    exact (h3.2 i x y hx (by simpa using hc)).mono hle
 ·rcases List.mem_append.1 hx with h | h
  ·obtain ⟨a, _, rfl⟩ := List.mem_map.1 h
   rfl
  ·exact h4 x (List.mem_of_mem_drop h)
theorem holds_ok (hW : WR g H w) {id b : Nat} {E : TypeId} {d : List (List UInt8)} {tl : List AV} (hget : H.get id = some (.cells (d.map eS ++ tl) E)) (hi : g.ι id = some b) : Holds encStr w b 0 d.toArray := by
 obtain ⟨b', carr, h1, h2, h3, h4, h5⟩ := hW.obj id _ hget
 obtain rfl : b' = b := Option.some.inj (h1.symm.trans hi)
 intro j hj
 have hj' : j < d.length := by simpa using hj
 have hx : (d.map eS ++ tl)[j]? = some (eS d[j]) := by
  rw [List.getElem?_append_left (by simpa using hj'), List.getElem?_map, List.getElem?_eq_getElem hj', Option.map_some]
 obtain ⟨u, hu, hv⟩ := h3.get hx
 have hu2 : carr[j]? = some (encStr d[j]) := by
  have : u = encStr d[j] := by
   unfold eS at hv
   cases hv
   rfl
  rw [← this]
  simpa using hu
 have e : d.toArray[j]! = d[j] := by simp [hj']
 rw [e, Nat.zero_add]
 refine ⟨?_, ?_⟩
 ·unfold World.cell?
  simp only [h2]
  exact hu2
 ·unfold World.frozen?
  simp [h2]
theorem sort_sound {ρ : Ren} (L : Lays.n190 P ρ) (hok : callOk P (ρ.f 190)) {id cap : Nat} {E : TypeId} {d : List (List UInt8)} {tl : List AV} (hget : H.get id = some (.cells (d.map eS ++ tl) E)) (hn : d.length < 4611686018427387904) :
  Sound P (ρ.f 190) [.arr id 0 d.length cap] H fun r H' => r = .tup [] ∧ ∃ k, H' = (H.set id (.cells ((d.mergeSort fun x y => decide (x ≤ y)).map eS ++ tl) E)).bump k := by
 refine ⟨hok, fun g w vs hW hV => ?_⟩
 obtain ⟨v0, rfl⟩ : ∃ v0, vs = [v0] := by
  match vs, hV.1 with
  | [v0], _ => exact ⟨v0, rfl⟩
 have h1 := hV.2 0 _ _ rfl rfl
 cases h1 with
 | arr _ _ _ _ b hb hc hm =>
  have hlt : b < w.heap.size := by
   obtain ⟨b', carr, k1, k2, _⟩ := hW.obj id _ hget
   obtain rfl : b' = b := Option.some.inj (k1.symm.trans hb)
   exact (Array.getElem?_eq_some_iff.1 k2).1
  refine (Any.slices_Sort_string L b 0 cap d w (holds_ok hW hget hb) hlt hn).mono fun e w' ⟨he, n, os, hw'⟩ => ?_
  obtain ⟨q1, q2⟩ := put_ok hW hget hb n (d.mergeSort fun x y => decide (x ≤ y)) (by simp)
  obtain ⟨g', q3, q4⟩ := grow_ok q1 os
  rw [← hw'] at q3 q4
  have el : (d.map eS ++ tl).drop (d.mergeSort fun x y => decide (x ≤ y)).length = tl := by
   rw [List.length_mergeSort]
   exact List.drop_left' (by simp)
  rw [el] at q2 q3 q4
  exact ⟨_, .tup [], _, g', he, ⟨rfl, 0, rfl⟩, .tup [] #[] rfl (fun i x u h => by simp at h), q3, q2.trans q4⟩
theorem sort_none {ρ : Ren} (L : Lays.n190 P ρ) (hok : callOk P (ρ.f 190)) (t : Tok) : Sound P (ρ.f 190) [.sl t []] H fun r H' => r = .tup [] ∧ H' = H := by
 refine ⟨hok, fun g w vs hW hV => ?_⟩
 obtain ⟨v0, rfl⟩ : ∃ v0, vs = [v0] := by
  match vs, hV.1 with
  | [v0], _ => exact ⟨v0, rfl⟩
 have h1 := hV.2 0 _ _ rfl rfl
 cases h1 with
 | sl _ _ A c sz b o f hc hm hA hsz hcell hv ht =>
  refine (Any.slices_Sort_string_none L A c w).mono fun e w' ⟨he, hw'⟩ => ?_
  subst hw'
  exact ⟨_, .tup [], _, g, he, ⟨rfl, rfl⟩, .tup [] #[] rfl (fun i x u h => by simp at h), hW, .refl _ _ _⟩
theorem compact_sound {ρ : Ren} (L : Lays.n194 P ρ) (hok : callOk P (ρ.f 194)) {id cap : Nat} {E : TypeId} {d : List (List UInt8)} {tl : List AV} (hget : H.get id = some (.cells (d.map eS ++ tl) E)) (hn : d.length ≤ 9223372036854775807) :
  Sound P (ρ.f 194) [.arr id 0 d.length cap] H fun r H' => r = .arr id 0 (Lib.compact d).length cap ∧ H' = H.set id (.cells ((Lib.compact d).map eS ++ (List.replicate (d.length - (Lib.compact d).length) (eS []) ++ tl)) E) := by
 refine ⟨hok, fun g w vs hW hV => ?_⟩
 obtain ⟨v0, rfl⟩ : ∃ v0, vs = [v0] := by
  match vs, hV.1 with
  | [v0], _ => exact ⟨v0, rfl⟩
 have h1 := hV.2 0 _ _ rfl rfl
 cases h1 with
 | arr _ _ _ _ b hb hc hm =>
  have hle := Lib.compact_length_le d
  refine (Any.slices_Compact_string L b 0 cap d w (holds_ok hW hget hb) hn hc).mono fun e w' ⟨he, n, hw'⟩ => ?_
  obtain ⟨q1, q2⟩ := put_ok hW hget hb n (Lib.compact d ++ List.replicate (d.length - (Lib.compact d).length) []) (by simp; omega)
  rw [← hw'] at q1 q2
  have el : (d.map eS ++ tl).drop (Lib.compact d ++ List.replicate (d.length - (Lib.compact d).length) ([] : List UInt8)).length = tl := by
   refine List.drop_left' ?_
   simp
   omega
  rw [el, List.map_append, List.map_replicate, List.append_assoc] at q1 q2
  exact ⟨_, .arr id 0 (Lib.compact d).length cap, _, g, he, ⟨rfl, rfl⟩, .arr _ _ _ _ b hb (by omega) hm, q1, q2⟩
theorem compact_none {ρ : Ren} (L : Lays.n194 P ρ) (hok : callOk P (ρ.f 194)) (t : Tok) : Sound P (ρ.f 194) [.sl t []] H fun r H' => r = .sl t [] ∧ H' = H := by
 refine ⟨hok, fun g w vs hW hV => ?_⟩
 obtain ⟨v0, rfl⟩ : ∃ v0, vs = [v0] := by
  match vs, hV.1 with
  | [v0], _ => exact ⟨v0, rfl⟩
 have h1 := hV.2 0 _ _ rfl rfl
 cases h1 with
 | sl _ _ A c sz b o f hc hm hA hsz hcell hv ht =>
  refine (Any.slices_Compact_string_empty L A c w).mono fun e w' ⟨he, hw'⟩ => ?_
  subst hw'
  exact ⟨_, .sl t [], _, g, he, ⟨rfl, rfl⟩, .sl t [] A c sz b o f hc hm hA hsz hcell hv ht, hW, .refl _ _ _⟩
end
open Go.Shelf
def lays190_ren : Go.Shelf.Ren := ⟨fun | 190 => 25 | 125 => 33 | 258 => 32 | 128 => 45 | 129 => 46 | 302 => 36 | 303 => 37 | 304 => 38 | 305 => 39 | 306 => 40 | 307 => 41 | 308 => 42 | 309 => 43 | 310 => 44 | 333 => 48 | 329 => 49 | 330 => 50 | 334 => 51 | 335 => 52 | 336 => 53 | 344 => 54 | n => n, fun | 31 => 22 | 9 => 9 | 3 => 3 | 46 => 60 | 0 => 0 | 51 => 69 | 53 => 71 | 4 => 4 | 183 => 63 | 182 => 62 | 131 => 31 | 5 => 5 | 218 => 72 | 222 => 76 | 228 => 78 | 229 => 48 | n => n, fun | n => n⟩
theorem lays190 : Go.Proofs.Lays.n190 Try.prog lays190_ren := {
 mixed := by kernel_rfl
 f125 := Try.func33.trans (congrArg some (by kernel_rfl))
 f128 := Try.func45.trans (congrArg some (by kernel_rfl))
 f129 := Try.func46.trans (congrArg some (by kernel_rfl))
 f190 := Try.func25.trans (congrArg some (by kernel_rfl))
 f258 := Try.func32.trans (congrArg some (by kernel_rfl))
 f302 := Try.func36.trans (congrArg some (by kernel_rfl))
 f303 := Try.func37.trans (congrArg some (by kernel_rfl))
 f304 := Try.func38.trans (congrArg some (by kernel_rfl))
 f305 := Try.func39.trans (congrArg some (by kernel_rfl))
 f306 := Try.func40.trans (congrArg some (by kernel_rfl))
 f307 := Try.func41.trans (congrArg some (by kernel_rfl))
 f308 := Try.func42.trans (congrArg some (by kernel_rfl))
 f309 := Try.func43.trans (congrArg some (by kernel_rfl))
 f310 := Try.func44.trans (congrArg some (by kernel_rfl))
 f329 := Try.func49.trans (congrArg some (by kernel_rfl))
 f330 := Try.func50.trans (congrArg some (by kernel_rfl))
 f333 := Try.func48.trans (congrArg some (by kernel_rfl))
 f334 := Try.func51.trans (congrArg some (by kernel_rfl))
 f335 := Try.func52.trans (congrArg some (by kernel_rfl))
 f336 := Try.func53.trans (congrArg some (by kernel_rfl))
 f344 := Try.func54.trans (congrArg some (by kernel_rfl))
 t0 := Try.underlying0
 a0 := Try.isAgg0
 z0 := Try.sizeOf0
 v0 := Try.zeroValue0
 t3 := Try.underlying3
 a3 := Try.isAgg3
 z3 := Try.sizeOf3
 v3 := Try.zeroValue3
 t4 := Try.underlying4
 a4 := Try.isAgg4
 z4 := Try.sizeOf4
 v4 := Try.zeroValue4
 t5 := Try.underlying5
 a5 := Try.isAgg5
 z5 := Try.sizeOf5
 v5 := Try.zeroValue5
 t9 := Try.underlying9
 a9 := Try.isAgg9
 z9 := Try.sizeOf9
 v9 := Try.zeroValue9
 t31 := Try.underlying22
 a31 := Try.isAgg22
 z31 := Try.sizeOf22
 v31 := Try.zeroValue22
 t46 := Try.underlying60
 a46 := Try.isAgg60
 z46 := Try.sizeOf60
 v46 := Try.zeroValue60
 t51 := Try.underlying69
 a51 := Try.isAgg69
 z51 := Try.sizeOf69
 v51 := Try.zeroValue69
 t53 := Try.underlying71
 a53 := Try.isAgg71
 z53 := Try.sizeOf71
 v53 := Try.zeroValue71
 t131 := Try.underlying31
 a131 := Try.isAgg31
 z131 := Try.sizeOf31
 v131 := Try.zeroValue31
 t182 := Try.underlying62
 a182 := Try.isAgg62
 z182 := Try.sizeOf62
 v182 := Try.zeroValue62
 t183 := Try.underlying63
 a183 := Try.isAgg63
 z183 := Try.sizeOf63
 v183 := Try.zeroValue63
 t218 := Try.underlying72
 a218 := Try.isAgg72
 z218 := Try.sizeOf72
 v218 := Try.zeroValue72
 t222 := Try.underlying76
 a222 := Try.isAgg76
 z222 := Try.sizeOf76
 v222 := Try.zeroValue76
 t228 := Try.underlying78
 a228 := Try.isAgg78
 z228 := Try.sizeOf78
 v228 := Try.zeroValue78
 t229 := Try.underlying48
 a229 := Try.isAgg48
 z229 := Try.sizeOf48
 v229 := Try.zeroValue48 }
def lays194_ren : Go.Shelf.Ren := ⟨fun | 194 => 26 | n => n, fun | 31 => 22 | 9 => 9 | 3 => 3 | 4 => 4 | 0 => 0 | n => n, fun | n => n⟩
theorem lays194 : Go.Proofs.Lays.n194 Try.prog lays194_ren := {
 mixed := by kernel_rfl
 f194 := Try.func26.trans (congrArg some (by kernel_rfl))
 t0 := Try.underlying0
 a0 := Try.isAgg0
 z0 := Try.sizeOf0
 v0 := Try.zeroValue0
 t3 := Try.underlying3
 a3 := Try.isAgg3
 z3 := Try.sizeOf3
 v3 := Try.zeroValue3
 t4 := Try.underlying4
 a4 := Try.isAgg4
 z4 := Try.sizeOf4
 v4 := Try.zeroValue4
 t9 := Try.underlying9
 a9 := Try.isAgg9
 z9 := Try.sizeOf9
 v9 := Try.zeroValue9
 t31 := Try.underlying22
 a31 := Try.isAgg22
 z31 := Try.sizeOf22
 v31 := Try.zeroValue22 }
end Go.Proofs.Ytabcgofihdklbaa
