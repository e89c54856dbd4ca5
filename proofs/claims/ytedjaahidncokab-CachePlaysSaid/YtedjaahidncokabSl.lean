/- slices.Index, Clone, Delete, Insert at []int, in the words of V: of a slice that reads as a list, of a row of our own. -/
import Derived.Test.YtedjaahidncokabRows
import Derived.Test.YtedjaahidncokabV
import Derived.Shelf.Slices.Cells
import Derived.Shelf.Spec.SlicesInsert
import Derived.Shelf.Spec.SlicesInsertGrow
namespace Go.Proofs.Ytedjaahidncokab
open Go.RowKit

theorem int_info : (Try.prog.info? 3).map (fun i => (i.zero, i.size, i.bytes)) = some (some (.int .i64 0), 1, 8) := by kernel_rfl

/-- a slice value that reads as ints -/
def IntsAt (w : World) (F : Nat → Prop) (v : Value) (l : List Int) : Prop := ∃ A c, v = .slice A l.length c ∧ l.length ≤ c ∧ c ≤ maxLen ∧ Rd w F 1 A l.length (ints l)
theorem IntsAt.kp {S F : Nat → Prop} {w w' : World} {v : Value} {l : List Int} (h : IntsAt w F v l) (k : Kp S w w') (hF : ∀ b, F b → b < w.heap.size ∧ ¬ S b) : IntsAt w' F v l := by
  obtain ⟨A, c, e, h1, h2, h3⟩ := h
  exact ⟨A, c, e, h1, h2, h3.kp k hF⟩
theorem IntsAt.more {F F' : Nat → Prop} {w : World} {v : Value} {l : List Int} (h : IntsAt w F v l) (hF : ∀ b, F b → F' b) : IntsAt w F' v l := by
  obtain ⟨A, c, e, h1, h2, h3⟩ := h
  exact ⟨A, c, e, h1, h2, h3.more hF⟩
theorem IntsAt.of_own {w : World} {base : Nat} {e : TypeId} {v : Value} {l : List Int} (h : w.ownsRow base e 1 v l.length (ints l)) : IntsAt w (fun b => base ≤ b ∧ b < w.heap.size) v l := by
  obtain ⟨A, c, rfl, h1, h2⟩ := own_form h
  exact ⟨A, c, rfl, h1, h2, Rd.of_own h⟩
theorem IntsAt.nil {w : World} {F : Nat → Prop} : IntsAt w F (.slice none 0 0) [] := ⟨none, 0, rfl, Nat.le_refl _, by unfold maxLen; omega, Rd.nil⟩

/-- the place of the first x, or -1 -/
def idxI (l : List Int) (x : Int) : Int := match l with
  | [] => -1
  | y :: r => if y = x then 0 else let k := idxI r x; if k < 0 then -1 else k + 1
theorem idxI_spec (l : List Int) (x : Int) : (idxI l x = -1 ∧ x ∉ l) ∨ ∃ k : Nat, idxI l x = k ∧ ∃ hk : k < l.length, l[k] = x ∧ x ∉ l.take k := by
  induction l with
  | nil => left; simp [idxI]
  | cons y r ih =>
    simp only [idxI]
    by_cases h : y = x
    · right; exact ⟨0, by simp [h], by simp, by simpa using h, by simp⟩
    · rw [if_neg h]
      rcases ih with ⟨h1, h2⟩ | ⟨k, h1, hk, h2, h3⟩
      · left
        refine ⟨by rw [h1]; rfl, ?_⟩
        simp only [List.mem_cons, not_or]
        exact ⟨fun e => h e.symm, h2⟩
      · right
        refine ⟨k + 1, by rw [h1, if_neg (by omega)]; rfl, by simpa using hk, by simpa using h2, ?_⟩
        rw [List.take_succ_cons]
        simp only [List.mem_cons, not_or]
        exact ⟨fun e => h e.symm, h3⟩

set_option maxHeartbeats 400000 in
theorem index_any (A : Option Addr) (c : Nat) (l : List Int) (x : Int) (w : World) (F : Nat → Prop) (h : Rd w F 1 A l.length (ints l)) (hm : l.length ≤ maxLen) :
    Calls Try.prog 27 #[.slice A l.length c, .int .i64 x] w fun e w' => e = .returned (.int .i64 (idxI l x)) ∧ w = w' := by
  have hspec := Lib.hid (idxI_spec l x)
  unfold maxLen at hm
  go_enter Try.func27, Try.ntmps27
  go_wp2
  go_loop [8] (fun i => ∃ k : Nat, k ≤ l.length ∧ i = .int .i64 k ∧ Hid (x ∉ l.take k)) (fun i => l.length - (intOf i).toNat)
  case atStart => exact ⟨0, Nat.zero_le _, rfl, by simp [Hid]⟩
  case round =>
    obtain ⟨k, hk, rfl, hno⟩ := hrel
    by_cases hlt : k < l.length
    · obtain ⟨ad, rfl, _, hc⟩ := h.int hlt
      by_cases he : l[k] = x
      · have hb : (x == l[k]) = true := by simpa using he.symm
        have hfin : Hid (idxI l x = k) := by
          rcases hspec.out with ⟨_, h2⟩ | ⟨j, h1, hj, h2, h3⟩
          · exact absurd (by rw [← he]; exact List.getElem_mem hlt) h2
          · unfold Hid
            rw [h1]
            rcases Nat.lt_trichotomy j k with hjk | hjk | hjk
            · exact absurd (List.mem_take_iff_getElem.2 ⟨j, by omega, h2⟩) hno.out
            · rw [hjk]
            · exact absurd (List.mem_take_iff_getElem.2 ⟨k, by omega, he⟩) h3
        clear he
        go_wp2
        go_ret
        exact ⟨by rw [hfin.out]; rfl, rfl⟩
      · have hb : (x == l[k]) = false := by simpa using fun e => he e.symm
        have hno2 : Hid (x ∉ l.take (k + 1)) := by
          unfold Hid
          rw [List.take_succ_eq_append_getElem hlt, List.mem_append]
          rintro (hx | hx)
          · exact hno.out hx
          · simp at hx; exact he hx.symm
        clear he
        go_wp2
        go_round
        case rel => exact ⟨k + 1, by omega, by go_num, hno2⟩
        case measure => simp [intOf]; omega
    · have hfin : Hid (idxI l x = -1) := by
        rcases hspec.out with ⟨h1, _⟩ | ⟨j, _, hj, h2, _⟩
        · exact h1
        · have := hno.out
          rw [List.take_of_length_le (by omega)] at this
          exact absurd (by rw [← h2]; exact List.getElem_mem hj) this
      go_wp2
      go_ret
      exact ⟨by rw [hfin.out]; rfl, rfl⟩

/-- a row of our own behind a slice, written out -/
theorem own_lit {w : World} {base : Nat} {e : TypeId} {n : Nat} {v : Value} {xs : List Value} (h : w.ownsRow base e 1 v n xs) :
    (v = .slice none 0 0 ∧ n = 0 ∧ xs = []) ∨ ∃ g cap cur, v = .slice (some ⟨g, 0, none⟩) n cap ∧ base ≤ g ∧ Blk w g e cur ∧ n ≤ cap ∧ cap ≤ maxLen ∧ cur.length = cap ∧ cur.take n = xs := by
  rcases h.2 with ⟨h1, h2⟩ | ⟨g, cap, cur, h1, h2, h3, h4, h5, h6, h7⟩
  · left; exact ⟨h1, h2, List.eq_nil_of_length_eq_zero (by rw [h.1, h2, Nat.zero_mul])⟩
  · right
    exact ⟨g, cap, cur.toList, h1, h2, by unfold Blk; simpa using h3, h4, h5, by simpa using h6, by simpa using h7⟩
theorem own_mk {w : World} {base : Nat} {e : TypeId} {g n cap : Nat} {cur : List Value} (hb : Blk w g e cur) (hg : base ≤ g) (hn : n ≤ cap) (hm : cap ≤ maxLen) (hl : cur.length = cap) :
    w.ownsRow base e 1 (.slice (some ⟨g, 0, none⟩) n cap) n (cur.take n) :=
  ⟨by rw [List.length_take]; omega, .inr ⟨g, cap, cur.toArray, rfl, hg, hb, hn, hm, by simpa using hl, by simp⟩⟩

/-- cells written over, from a place on -/
def over (cs : List Value) (o : Nat) : List Value → List Value
  | [] => cs
  | v :: r => over (cs.set o v) (o + 1) r
theorem over_len (vs : List Value) : ∀ (cs : List Value) (o : Nat), (over cs o vs).length = cs.length := by
  induction vs with
  | nil => intro cs o; rfl
  | cons v r ih => intro cs o; simp only [over]; rw [ih]; simp
theorem over_eq (vs : List Value) : ∀ (cs : List Value) (o : Nat), o + vs.length ≤ cs.length → over cs o vs = cs.take o ++ vs ++ cs.drop (o + vs.length) := by
  induction vs with
  | nil => intro cs o _; simp [over]
  | cons v r ih =>
    intro cs o h
    simp only [List.length_cons] at h
    simp only [over]
    rw [ih (cs.set o v) (o + 1) (by simp; omega)]
    have e1 : (cs.set o v).take (o + 1) = cs.take o ++ [v] := by
      rw [List.take_succ_eq_append_getElem (by simp; omega)]
      simp [List.take_set_of_le]
    have e2 : (cs.set o v).drop (o + 1 + r.length) = cs.drop (o + (v :: r).length) := by
      rw [List.drop_set_of_lt (by omega)]
      congr 1
      simp; omega
    rw [e1, e2]
    simp
theorem Blk.overs {g : Nat} {t : TypeId} (vs : List Value) : ∀ {w : World} {cs : List Value} (o : Nat), Blk w g t cs → Blk (w.setCells g o vs) g t (over cs o vs) := by
  induction vs with
  | nil => intro w cs o h; exact h
  | cons v r ih => intro w cs o h; exact ih (o + 1) (h.set o v)
theorem Kp.setCells {S : Nat → Prop} {a : World} {g : Nat} (hg : S g ∨ a.heap.size ≤ g) (vs : List Value) : ∀ {w : World} (o : Nat), Kp S a w → Kp S a (w.setCells g o vs) := by
  induction vs with
  | nil => intro w o h; exact h
  | cons v r ih => intro w o h; exact ih (o + 1) (h.setCell (p := ⟨g, o, none⟩) hg v)

def laysDel_ren : Go.Shelf.Ren := ⟨fun | 23 => 28 | n => n, fun | 22 => 23 | 3 => 3 | 4 => 4 | 0 => 0 | n => n, fun | n => n⟩
theorem laysDel : Go.Proofs.Lays2.n23 Try.prog laysDel_ren := {
  mixed := by kernel_rfl
  f23 := Try.func28.trans (congrArg some (by kernel_rfl))
  t0 := Try.underlying0
  a0 := Try.isAgg0
  z0 := Try.sizeOf0
  v0 := Try.zeroValue0
  t3 := Try.underlying3
  a3 := Try.isAgg3
  z3 := Try.sizeOf3
  v3 := Try.zeroValue3
  t4 := Try.underlying4
  a4 := Try.isAgg4
  z4 := Try.sizeOf4
  v4 := Try.zeroValue4
  t22 := Try.underlying23
  a22 := Try.isAgg23
  z22 := Try.sizeOf23
  v22 := Try.zeroValue23
  i3 := by kernel_rfl }
def laysIns_ren : Go.Shelf.Ren := ⟨fun | 21 => 29 | 27 => 30 | 28 => 31 | 35 => 32 | 39 => 33 | n => n, fun | 22 => 23 | 3 => 3 | 4 => 4 | 0 => 0 | n => n, fun | n => n⟩
theorem laysIns : Go.Proofs.Lays2.n21 Try.prog laysIns_ren := {
  mixed := by kernel_rfl
  f21 := Try.func29.trans (congrArg some (by kernel_rfl))
  f27 := Try.func30.trans (congrArg some (by kernel_rfl))
  f28 := Try.func31.trans (congrArg some (by kernel_rfl))
  f35 := Try.func32.trans (congrArg some (by kernel_rfl))
  f39 := Try.func33.trans (congrArg some (by kernel_rfl))
  t0 := Try.underlying0
  a0 := Try.isAgg0
  z0 := Try.sizeOf0
  v0 := Try.zeroValue0
  t3 := Try.underlying3
  a3 := Try.isAgg3
  z3 := Try.sizeOf3
  v3 := Try.zeroValue3
  t4 := Try.underlying4
  a4 := Try.isAgg4
  z4 := Try.sizeOf4
  v4 := Try.zeroValue4
  t22 := Try.underlying23
  a22 := Try.isAgg23
  z22 := Try.sizeOf23
  v22 := Try.zeroValue23
  i3 := by kernel_rfl }

theorem int_at {cur : List Value} {l : List Int} (h : cur.take l.length = ints l) {j : Nat} (hj : j < l.length) : cur[j]? = some (.int .i64 l[j]) := by
  have e : (cur.take l.length)[j]? = (ints l)[j]? := by rw [h]
  rw [List.getElem?_take, if_pos hj] at e
  rw [e]
  simp [ints, hj]

/-- what becomes of a row of our own: only its block has turned -/
def OwnPost (w : World) (base : Nat) (v : Value) (l : List Int) (e : Ending) (w' : World) : Prop :=
  ∃ v', e = .returned v' ∧ w'.ownsRow base 3 1 v' l.length (ints l) ∧ Kp (fun b => v.ownBlock = some b) w w' ∧ (v'.ownBlock = v.ownBlock ∨ v'.ownBlock = some w.heap.size)

theorem delete_any (v : Value) (base i : Nat) (l : List Int) (w : World) (h : w.ownsRow base 3 1 v l.length (ints l)) (hi : i < l.length) :
    Calls Try.prog 28 #[v, .int .i64 i, .int .i64 ((i : Int) + 1)] w (OwnPost w base v (l.eraseIdx i)) := by
  rcases own_lit h with ⟨_, h0, _⟩ | ⟨g, cap, cur, rfl, hg, hb, hn, hm, hl, ht⟩
  · omega
  have e1 : ((i : Int) + 1) = ((i + 1 : Nat) : Int) := by omega
  rw [e1]
  refine (Any.slices_Delete_int_cells laysDel g 0 l.length cap i (i + 1) l w (Nat.le_refl _) hn hm (by omega) (by omega) (fun j hj => ?_) (fun j _ => hb.frozen _)).mono ?_
  · rw [hb.cell, Nat.zero_add, int_at ht hj, List.getD_eq_getElem?_getD, List.getElem?_eq_getElem hj]; rfl
  · rintro e w' ⟨rfl, q, rfl⟩
    have hlen : (l.eraseIdx i).length = l.length - (i + 1 - i) := by rw [List.length_eraseIdx_of_lt hi]; omega
    refine ⟨_, rfl, ?_, Kp.setCells (S := fun b => some g = some b) (.inl rfl) _ _ ((Kp.refl _ _).drewN q), .inl rfl⟩
    have hb' : Blk (w.drewN q) g 3 cur := hb
    have hbo := hb'.overs (((l.take l.length).take i ++ (l.take l.length).drop (i + 1) ++ List.replicate (i + 1 - i) 0).map (Value.int .i64)) 0
    rw [over_eq _ _ _ (by simp; omega)] at hbo
    have := own_mk (base := base) (n := l.length - (i + 1 - i)) hbo hg (by omega) hm (by simp; omega)
    rw [hlen]
    have e2 : ints (l.eraseIdx i) = (List.take 0 cur ++ (((l.take l.length).take i ++ (l.take l.length).drop (i + 1) ++ List.replicate (i + 1 - i) 0).map (Value.int .i64)) ++ List.drop (0 + (((l.take l.length).take i ++ (l.take l.length).drop (i + 1) ++ List.replicate (i + 1 - i) 0).map (Value.int .i64)).length) cur).take (l.length - (i + 1 - i)) := by
      rw [List.take_zero, List.nil_append, List.take_length, List.map_append, List.append_assoc, List.take_append_of_le_length (by simp; omega), List.take_of_length_le (by simp; omega), List.eraseIdx_eq_take_drop_succ]
      rfl
    rw [e2]
    exact this

theorem Blk.newA (w : World) (t : TypeId) (cs : Array Value) : Blk (w.alloc (.cells cs t)) w.heap.size t cs.toList := by
  unfold Blk; simpa using heap_alloc_new w (.cells cs t)
theorem grown_cap (w : World) (need old : Nat) (e : TypeId) (h : need < 9223372036854775808) : need ≤ grownCap w need old e ∧ grownCap w need old e ≤ maxLen := by
  have he : grownCap w need old e = need + (w.tape w.drawn (.appendCap need old e)) % (2 ^ 63 - need) := rfl
  rw [he]
  unfold maxLen
  have : (w.tape w.drawn (.appendCap need old e)) % (2 ^ 63 - need) < 2 ^ 63 - need := Nat.mod_lt _ (by omega)
  constructor
  · exact Nat.le_add_right _ _
  · omega
theorem zero_cells (n : Nat) : (Builtin.zeroCells (Value.int .i64 0).cells n).size = n := by simp [Builtin.zeroCells, Value.cells]

theorem insert_any (v : Value) (base vb vc : Nat) (l : List Int) (x : Int) (w : World) (h : w.ownsRow base 3 1 v l.length (ints l)) (hv : Blk w vb 3 [.int .i64 x]) (hne : v.ownBlock ≠ some vb) (hb0 : base ≤ w.heap.size) (hlen : l.length < 1000000) :
    Calls Try.prog 29 #[v, .int .i64 0, .slice (some ⟨vb, 0, none⟩) 1 vc] w (OwnPost w base v (x :: l)) := by
  have hvs : ∀ j u, [Value.int .i64 x][j]? = some u → w.cell? ⟨vb, 0 + j, none⟩ = some u := fun j u hu => by rw [hv.cell, Nat.zero_add]; exact hu
  have h1v : ∀ u ∈ [Value.int .i64 x], u.oneCell' = true := fun u hu => by simp at hu; subst hu; rfl
  have hcons : ints (x :: l) = [Value.int .i64 x] ++ ints l := rfl
  rcases own_lit h with ⟨rfl, h0, _⟩ | ⟨g, cap, cur, rfl, hg, hb, hn, hm, hl, ht⟩
  · have hl0 : l = [] := List.eq_nil_of_length_eq_zero h0
    subst hl0
    refine (Any2.slices_Insert_int_end_grow laysIns none 0 0 vb 0 1 vc [] [.int .i64 x] w (by omega) (by omega) (by omega) (by omega) rfl rfl (fun _ => rfl) (fun a h => by cases h) hvs h1v).mono ?_
    rintro e w' ⟨rfl, rfl⟩
    have hgc := grown_cap w (0 + 1) 0 (laysIns_ren.t 3) (by omega)
    generalize hG : grownCap w (0 + 1) 0 (laysIns_ren.t 3) = G at *
    refine ⟨_, rfl, ?_, ((Kp.refl _ _).drew).alloc _, .inr rfl⟩
    have hbn := Blk.newA w.drew 3 (([] ++ [Value.int .i64 x]).toArray ++ Builtin.zeroCells (Value.int .i64 0).cells (G - (0 + 1)))
    have hlc : (([] ++ [Value.int .i64 x]).toArray ++ Builtin.zeroCells (Value.int .i64 0).cells (G - (0 + 1))).toList.length = G := by
      rw [Array.length_toList, Array.size_append, zero_cells]; simp; have := hgc.1; omega
    have := own_mk (base := base) (n := 1) hbn hb0 hgc.1 hgc.2 hlc
    have e3 : (([] ++ [Value.int .i64 x]).toArray ++ Builtin.zeroCells (Value.int .i64 0).cells (G - (0 + 1))).toList.take 1 = ints [x] := by simp [ints]
    rw [e3] at this
    exact this
  · have hgne : vb ≠ g := by rintro rfl; exact hne rfl
    have hcs : ∀ j u, (ints l)[j]? = some u → w.cell? ⟨g, 0 + j, none⟩ = some u := fun j u hu => by
      obtain ⟨hj, rfl⟩ := ints_get hu
      rw [hb.cell, Nat.zero_add, int_at ht hj]
    by_cases hn0 : l.length = 0
    · have hl0 : l = [] := List.eq_nil_of_length_eq_zero hn0
      subst hl0
      by_cases hroom : 1 ≤ cap
      · refine (Any2.slices_Insert_int_end_room laysIns g 0 0 cap vb 0 1 vc [.int .i64 x] w (by omega) (by omega) hm rfl (fun j hj => ?_) (fun j _ => hb.frozen _) hvs h1v).mono ?_
        · rw [hb.cell, List.getElem?_eq_getElem (by omega)]; rfl
        · rintro e w' ⟨rfl, rfl⟩
          refine ⟨_, rfl, ?_, Kp.setCells (S := fun b => some g = some b) (.inl rfl) _ _ (Kp.refl _ _), .inl rfl⟩
          have hbo := hb.overs [Value.int .i64 x] (0 + 0)
          rw [over_eq _ _ _ (by simp; omega)] at hbo
          have := own_mk (base := base) (n := 1) hbo hg hroom hm (by simp; omega)
          simpa [ints] using this
      · refine (Any2.slices_Insert_int_end_grow laysIns (some ⟨g, 0, none⟩) 0 cap vb 0 1 vc [] [.int .i64 x] w (by omega) (by omega) (by omega) (by omega) rfl rfl (fun _ => rfl) (fun a h j u hu => by simp at hu) hvs h1v).mono ?_
        rintro e w' ⟨rfl, rfl⟩
        have hgc := grown_cap w (0 + 1) cap (laysIns_ren.t 3) (by omega)
        generalize hG : grownCap w (0 + 1) cap (laysIns_ren.t 3) = G at *
        refine ⟨_, rfl, ?_, ((Kp.refl _ _).drew).alloc _, .inr rfl⟩
        have hbn := Blk.newA w.drew 3 (([] ++ [Value.int .i64 x]).toArray ++ Builtin.zeroCells (Value.int .i64 0).cells (G - (0 + 1)))
        have hlc : (([] ++ [Value.int .i64 x]).toArray ++ Builtin.zeroCells (Value.int .i64 0).cells (G - (0 + 1))).toList.length = G := by
          rw [Array.length_toList, Array.size_append, zero_cells]; simp; have := hgc.1; omega
        have := own_mk (base := base) (n := 1) hbn hb0 hgc.1 hgc.2 hlc
        have e3 : (([] ++ [Value.int .i64 x]).toArray ++ Builtin.zeroCells (Value.int .i64 0).cells (G - (0 + 1))).toList.take 1 = ints [x] := by simp [ints]
        rw [e3] at this
        exact this
    · by_cases hroom : l.length + 1 ≤ cap
      · refine (Any2.slices_Insert_int_shift laysIns g 0 l.length cap 0 vb 0 1 vc (ints l) [.int .i64 x] w (by omega) (by omega) hroom hm hgne (ints_len l) rfl hcs (fun j hj => ?_) (fun j _ => hb.frozen _) hvs (ints_one l) h1v 3 3 1 cap ?_ ?_ (by omega) (hv.frozen _) (hv.frozen _)).mono ?_
        · rw [hb.cell, List.getElem?_eq_getElem (by omega)]; rfl
        · unfold Blk at hv; simp [World.shape?, hv]
        · unfold Blk at hb; simp [World.shape?, hb, hl]
        · rintro e w' ⟨rfl, rfl⟩
          refine ⟨_, rfl, ?_, Kp.setCells (S := fun b => some g = some b) (.inl rfl) _ _ (Kp.setCells (S := fun b => some g = some b) (.inl rfl) _ _ ((Kp.refl _ _).drew)), .inl rfl⟩
          have hb' : Blk w.drew g 3 cur := hb
          have hbo := (hb'.overs ((ints l).drop 0) (0 + (0 + 1))).overs [Value.int .i64 x] (0 + 0)
          rw [over_eq _ _ _ (by simp [over_len]; omega), over_eq _ _ _ (by simp [ints_len]; omega)] at hbo
          have := own_mk (base := base) (n := l.length + 1) hbo hg hroom hm (by simp [ints_len]; omega)
          have e3 : (List.take (0 + 0) (List.take (0 + (0 + 1)) cur ++ List.drop 0 (ints l) ++ List.drop (0 + (0 + 1) + (List.drop 0 (ints l)).length) cur) ++ [Value.int .i64 x] ++ List.drop (0 + 0 + [Value.int .i64 x].length) (List.take (0 + (0 + 1)) cur ++ List.drop 0 (ints l) ++ List.drop (0 + (0 + 1) + (List.drop 0 (ints l)).length) cur)).take (l.length + 1) = ints (x :: l) := by
            rw [hcons]
            simp only [Nat.zero_add, List.take_zero, List.nil_append, List.drop_zero, List.length_cons, List.length_nil]
            rw [List.append_assoc, List.drop_append_of_le_length (by simp; omega), List.drop_eq_nil_of_le (by simp; omega), List.nil_append]
            simp [ints_len]
          rw [e3] at this
          exact this
      · refine (Any2.slices_Insert_int_grow laysIns g 0 l.length cap 0 vb 0 1 vc (ints l) [.int .i64 x] w (by omega) (by omega) hn (by omega) (by omega) (ints_len l) rfl hcs hvs (ints_one l) h1v).mono ?_
        rintro e w' ⟨rfl, rfl⟩
        have hgc := grown_cap w (l.length + 1) cap (laysIns_ren.t 3) (by omega)
        generalize hG : grownCap w (l.length + 1) cap (laysIns_ren.t 3) = G at *
        refine ⟨_, rfl, ?_, Kp.setCells (.inr (Nat.le_refl _)) _ _ ((Kp.setCells (.inr (Nat.le_refl _)) _ _ (((Kp.refl _ _).alloc _).drew)).drew), .inr rfl⟩
        have hbn := Blk.newA w 3 (((ints l).take 0).toArray ++ Builtin.zeroCells (Value.int .i64 0).cells (l.length + 1 - 0) ++ Builtin.zeroCells (Value.int .i64 0).cells (G - (l.length + 1)))
        have hlc : (((ints l).take 0).toArray ++ Builtin.zeroCells (Value.int .i64 0).cells (l.length + 1 - 0) ++ Builtin.zeroCells (Value.int .i64 0).cells (G - (l.length + 1))).toList.length = G := by
          rw [Array.length_toList, Array.size_append, Array.size_append, zero_cells, zero_cells]; simp; have := hgc.1; omega
        generalize (((ints l).take 0).toArray ++ Builtin.zeroCells (Value.int .i64 0).cells (l.length + 1 - 0) ++ Builtin.zeroCells (Value.int .i64 0).cells (G - (l.length + 1))) = Z at *
        have hzz : Z.size = G := by simpa using hlc
        have hbn' : Blk (w.alloc (.cells Z 3)).drew w.heap.size 3 Z.toList := hbn
        have hbo1 := hbn'.overs [Value.int .i64 x] 0
        have hbo1' : Blk ((w.alloc (.cells Z 3)).drew.setCells w.heap.size 0 [Value.int .i64 x]).drew w.heap.size 3 (over Z.toList 0 [Value.int .i64 x]) := hbo1
        have hbo := hbo1'.overs ((ints l).drop 0) (0 + 1)
        have hlenI := ints_len l
        rw [over_eq _ _ _ (by simp [over_len, ints_len]; omega), over_eq _ _ _ (by simp; omega)] at hbo
        have := own_mk (base := base) (n := l.length + 1) hbo hb0 hgc.1 hgc.2 (by simp [ints_len]; omega)
        have e3 : (List.take (0 + 1) (List.take 0 Z.toList ++ [Value.int .i64 x] ++ List.drop (0 + [Value.int .i64 x].length) Z.toList) ++ List.drop 0 (ints l) ++ List.drop (0 + 1 + (List.drop 0 (ints l)).length) (List.take 0 Z.toList ++ [Value.int .i64 x] ++ List.drop (0 + [Value.int .i64 x].length) Z.toList)).take (l.length + 1) = ints (x :: l) := by
          rw [hcons]
          simp only [Nat.zero_add, List.take_zero, List.nil_append, List.drop_zero, List.length_cons, List.length_nil]
          rw [List.take_append_of_le_length (by simp [ints_len]), List.take_of_length_le (by simp [ints_len])]
          simp
        rw [e3] at this
        exact this

def clonePost (w : World) (l : List Int) (e : Ending) (w' : World) : Prop := ∃ v', e = .returned v' ∧ w'.ownsRow w.heap.size 3 1 v' l.length (ints l) ∧ Below w.heap.size w w'
theorem below_lit {w w1 : World} (q : Nat) {o : Obj} {row : Option Nat} (hg : ((w.drewN q).alloc o).grownBy w1 row) (hr : ∀ k, row = some k → w.heap.size ≤ k := by intro k hk; injection hk with hk; exact Nat.le_of_eq hk) : Below w.heap.size w w1 :=
  ((below_drewN (Below.refl _ w) q).alloc (Nat.le_refl _) _).grown hg (by rw [World.size_alloc]; exact Nat.le_succ _) hr
set_option maxHeartbeats 400000 in
theorem clone_any (v : Value) (l : List Int) (w : World) (F : Nat → Prop) (h : IntsAt w F v l) (hF : ∀ b, F b → b < w.heap.size) (hlen : l.length < 1000000) :
    Calls Try.prog 24 #[v] w (clonePost w l) := by
  obtain ⟨A, c, rfl, hc, hm, hr⟩ := h
  have HR := Lib.hid hr
  have HF := Lib.hid hF
  clear hr hF
  obtain ⟨i0, hi, hz0, hz1, hz2⟩ := info_parts int_info
  have hq := fun W : World => Lib.run_eql_slice_nil (P := Try.prog) W 23 3 A l.length c 0 0 Try.underlying23
  cases A with
  | none =>
    have hl : l = [] := by
      rcases Nat.eq_zero_or_pos l.length with h | h
      · exact List.eq_nil_of_length_eq_zero h
      · obtain ⟨ad, e, _⟩ := HR.out.2 h; cases e
    subst hl
    have hq' := hq
    simp only [Option.isNone_none, List.length_nil] at hq'
    clear hq
    go_enter Try.func24, Try.ntmps24
    go_wp2
    go_ret
    exact ⟨_, rfl, World.ownsRow_nil _ _ _ _, Below.refl _ _⟩
  | some a =>
    simp only [Option.isNone_some] at hq
    go_enter Try.func24, Try.ntmps24
    go_wp2_with (at_builtin; refine wpList_append_rd _ rfl (.tmp 5) (.tmp 6) _ rfl w.heap.size 3 i0 _ 1 8 Try.underlying23 hi hz0 hz1 hz2 rfl (by omega) _ 0 [] rfl (World.ownsRow_lit w #[] 0 (Nat.le_refl _) (by unfold maxLen; omega) rfl) F (some a) l.length c (ints l) rfl (HR.out.alloc (fun b hb => HF.out b hb) _) (ints_one l) (by unfold maxLen; omega) (by omega) (by simp) ?_; intro v1 w1 hown1 hg1 hat1; have hbw1 := Lib.hid (below_lit 0 hg1); have hown1' := Lib.hid hown1; clear hg1 hown1)
    go_ret
    exact ⟨v1, rfl, by simpa using hown1'.out, hbw1.out⟩
end Go.Proofs.Ytedjaahidncokab
