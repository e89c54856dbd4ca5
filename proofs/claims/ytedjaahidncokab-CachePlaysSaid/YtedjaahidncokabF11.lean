/- The document's answer of layer 11. -/
import Derived.Test.YtedjaahidncokabR11c
import Derived.Deep.RegionHeld3
namespace Go.Proofs.Ytedjaahidncokab
open Go.RowKit

def itemCells (l : Items) : List Value := l.flatMap fun x => [.int .i64 x.1, .string x.2]
theorem itemCells_len (l : Items) : (itemCells l).length = l.length * 2 := by
  unfold itemCells
  induction l with
  | nil => rfl
  | cons x r ih => simp only [List.flatMap_cons, List.length_append, ih, List.length_cons, List.length_nil]; omega
theorem itemCells_app (l r : Items) : itemCells (l ++ r) = itemCells l ++ itemCells r := by simp [itemCells]
theorem itemCells_one (l : Items) : ∀ u ∈ itemCells l, u.oneCell' = true := by
  intro u hu
  obtain ⟨x, _, hx⟩ := List.mem_flatMap.1 hu
  simp at hx
  rcases hx with rfl | rfl <;> rfl
theorem itemCells_get (l : Items) (k : Nat) (hk : k < l.length) : (itemCells l)[k * 2]? = some (.int .i64 l[k].1) ∧ (itemCells l)[k * 2 + 1]? = some (.string l[k].2) := by
  unfold itemCells
  induction l generalizing k with
  | nil => simp at hk
  | cons x r ih =>
    cases k with
    | zero => simp
    | succ k =>
      have := ih k (by simpa using hk)
      simp only [List.flatMap_cons, List.getElem_cons_succ]
      rw [List.getElem?_append_right (by simp; omega), List.getElem?_append_right (by simp; omega)]
      rw [← this.1, ← this.2]
      refine ⟨?_, ?_⟩ <;> congr 1 <;> simp <;> omega
theorem itemCells_take (l : Items) : ∀ n, (itemCells l).take (n * 2) = itemCells (l.take n) := by
  induction l with
  | nil => intro n; simp [itemCells]
  | cons x r ih =>
    intro n
    cases n with
    | zero => simp [itemCells]
    | succ n =>
      have e : itemCells (x :: r) = [.int .i64 x.1, .string x.2] ++ itemCells r := rfl
      have e2 : itemCells ((x :: r).take (n + 1)) = [.int .i64 x.1, .string x.2] ++ itemCells (r.take n) := rfl
      rw [e, e2, ← ih n, show (n + 1) * 2 = n * 2 + 2 by omega]
      rfl
/-- a slice value that reads as items -/
def ItemsAt (w : World) (F : Nat → Prop) (v : Value) (l : Items) : Prop := ∃ A c, v = .slice A l.length c ∧ l.length ≤ c ∧ c ≤ maxLen ∧ Rd w F 2 A l.length (itemCells l)
theorem ItemsAt.kp {S F : Nat → Prop} {w w' : World} {v : Value} {l : Items} (h : ItemsAt w F v l) (k : Kp S w w') (hF : ∀ b, F b → b < w.heap.size ∧ ¬ S b) : ItemsAt w' F v l := by
  obtain ⟨A, c, e, h1, h2, h3⟩ := h
  exact ⟨A, c, e, h1, h2, h3.kp k hF⟩
theorem ItemsAt.more {F F' : Nat → Prop} {w : World} {v : Value} {l : Items} (h : ItemsAt w F v l) (hF : ∀ b, F b → F' b) : ItemsAt w F' v l := by
  obtain ⟨A, c, e, h1, h2, h3⟩ := h
  exact ⟨A, c, e, h1, h2, h3.more hF⟩
theorem ItemsAt.of_own {w : World} {base : Nat} {e : TypeId} {v : Value} {l : Items} (h : w.ownsRow base e 2 v l.length (itemCells l)) : ItemsAt w (fun b => base ≤ b ∧ b < w.heap.size) v l := by
  obtain ⟨A, c, rfl, h1, h2⟩ := own_form h
  exact ⟨A, c, rfl, h1, h2, Rd.of_own h⟩
theorem ItemsAt.nil {w : World} {F : Nat → Prop} : ItemsAt w F (.slice none 0 0) [] := ⟨none, 0, rfl, Nat.le_refl _, by unfold maxLen; omega, Rd.nil⟩
theorem Rd.item {w : World} {F : Nat → Prop} {A : Option Addr} {k : Nat} {l : Items} (h : Rd w F 2 A l.length (itemCells l)) (hk : k < l.length) :
    ∃ b o, A = some ⟨b, o, none⟩ ∧ F b ∧ w.cell? ⟨b, o + k * 2, none⟩ = some (.int .i64 l[k].1) ∧ w.cell? ⟨b, o + k * 2 + 1, none⟩ = some (.string l[k].2) := by
  obtain ⟨b, o, e, hF, hc⟩ := h.lit (by omega) (by omega)
  exact ⟨b, o, e, hF, hc _ _ (itemCells_get l k hk).1, hc _ _ (itemCells_get l k hk).2⟩
theorem item_info : (Try.prog.info? 44).map (fun i => (i.zero, i.size, i.bytes)) = some (some (.agg #[.int .i64 0, .string ByteArray.empty]), 2, 24) := by kernel_rfl
theorem without_snoc (l : Items) (i : Int) (k : Nat) (hk : k < l.length) : without (l.take (k + 1)) i = without (l.take k) i ++ (if l[k].1 != i then [l[k]] else []) := by
  unfold without
  rw [List.take_succ_eq_append_getElem hk, List.filter_append]
  congr 1
  by_cases h : (l[k].1 != i) = true <;> simp [List.filter_cons, h]

def OwnItems (w : World) (l : Items) (e : Ending) (w' : World) : Prop := ∃ v, e = .returned v ∧ w'.ownsRow w.heap.size 44 2 v l.length (itemCells l) ∧ Below w.heap.size w w'
set_option maxHeartbeats 1000000 in
theorem without_any (v : Value) (l : Items) (i : Int) (w : World) (F : Nat → Prop) (h : ItemsAt w F v l) (hF : ∀ b, F b → b < w.heap.size) (hlen : l.length < 1000) :
    Calls Try.prog 26 #[v, .int .i64 i] w (OwnItems w (without l i)) := by
  obtain ⟨A, c, rfl, hc, hm, hr⟩ := h
  have HR := Lib.hid hr
  have HF := Lib.hid hF
  clear hr hF
  obtain ⟨i0, hi, hz0, hz1, hz2⟩ := info_parts item_info
  go_enter Try.func26, Try.ntmps26
  go_wp2
  go_loopw [5, 10] (fun v n wr => ∃ (k : Nat) (L : Items), k ≤ l.length ∧ n = .int .i64 k ∧ L.length ≤ k ∧ Hid (L = without (l.take k) i) ∧ Hid (wr.ownsRow w.heap.size 44 2 v L.length (itemCells L)) ∧ Hid (Below w.heap.size w wr)) (fun _ n _ => l.length - (intOf n).toNat)
  case atStart => exact ⟨0, [], Nat.zero_le _, rfl, Nat.zero_le _, by unfold Hid; simp [without], World.ownsRow_nil _ _ _ _, Below.refl _ _⟩
  case round =>
    obtain ⟨k, L, hk, rfl, hLk, HL, hown, hb⟩ := hrel
    have hsz := hb.out.size
    by_cases hlt : k < l.length
    · obtain ⟨b, o, rfl, _, hc1, hc2⟩ := (HR.out.below hb.out HF.out).item hlt
      have hs := without_snoc l i k hlt
      obtain ⟨A2, c2, rfl, _⟩ := own_form hown.out
      by_cases hne : l[k].1 = i
      · have hbn : (l[k].1 != i) = false := by simpa using hne
        rw [hbn] at hs
        have HS : Hid (L = without (l.take (k + 1)) i) := by unfold Hid; rw [hs, HL.out]; simp
        clear hs hne
        go_wp2
        go_roundw
        case rel => exact ⟨k + 1, L, by omega, by go_num, by omega, HS, hown.out.alloc _, hb.out.alloc hsz _⟩
        case measure => simp [intOf]; omega
      · have hbn : (l[k].1 != i) = true := by simpa using hne
        rw [hbn] at hs
        have HS : Hid (L ++ [l[k]] = without (l.take (k + 1)) i) := by unfold Hid; rw [hs, HL.out]; simp
        have hcs : itemCells [l[k]] = [.int .i64 l[k].1, .string l[k].2] := rfl
        have HCS := Lib.hid hcs
        clear hs hne hcs
        generalize l[k] = x at *
        go_wp2_with (at_builtin; refine wpList_append_rd _ rfl (.tmp 18) (.tmp 20) 36 rfl w.heap.size 44 i0 _ 2 24 Try.underlying36 hi hz0 hz1 hz2 rfl (by decide) _ _ _ rfl ((hown.out.alloc _).alloc _) (fun _ => True) (some ⟨wr.heap.size + 1, 0, none⟩) 1 1 [.int .i64 x.1, .string x.2] rfl ?c1 ?c2 ?c3 ?c4 ?c5 ?_)
        case c1 => exact Rd.of_blk (by have := Blk.new (wr.alloc (.cells #[.int .i64 x.1, .string x.2] 44)) 44 [.int .i64 x.1, .string x.2]; simpa using this) trivial rfl
        case c2 => intro u hu; simp at hu; rcases hu with rfl | rfl <;> rfl
        case c3 => unfold maxLen; omega
        case c4 => omega
        case c5 => simp; omega
        intro v4 w4 hown4 hg4 hat4
        have HO4 : Hid (w4.ownsRow w.heap.size 44 2 v4 (L ++ [x]).length (itemCells (L ++ [x]))) := by
          unfold Hid
          rw [itemCells_app, List.length_append, HCS.out]
          exact hown4
        have HB4 : Hid (Below w.heap.size w w4) := ((hb.out.alloc hsz _).alloc (by simp; omega) _).grown hg4 (by simp; omega) (fun b hb2 => (hown.out.lt b hb2).1)
        clear hown4 hg4 hat4
        go_wp2
        go_roundw
        case rel => exact ⟨k + 1, L ++ [x], by omega, by go_num, by simp; omega, HS, HO4, HB4⟩
        case measure => simp [intOf]; omega
    · have hfin : Hid (L = without l i) := by unfold Hid; rw [HL.out, List.take_of_length_le (by omega)]
      go_wp2
      go_ret
      rw [← hfin.out]
      exact ⟨_, rfl, hown.out, hb.out⟩

theorem own_below {w w' : World} {base : Nat} {e : TypeId} {size n : Nat} {v : Value} {xs : List Value} (h : w.ownsRow base e size v n xs) (hb : Below w.heap.size w w') : w'.ownsRow base e size v n xs := by
  refine h.kept (row := none) ⟨hb.os, hb.tape, hb.output, hb.size, fun k hk _ => hb.block k hk⟩ ?_
  cases hv : v.ownBlock with
  | none => exact .inl rfl
  | some k => exact .inr (by simp)

/-- a cache of the document's, by value -/
def rval (size : Nat) (iv : Value) (hits misses : Int) : Value := .agg #[.int .i64 size, iv, .int .i64 hits, .int .i64 misses]
def RPutPost (w : World) (size : Nat) (items : Items) (hits misses : Int) (e : Ending) (w' : World) : Prop :=
  ∃ iv, e = .returned (.agg #[.int .i64 size, iv, .int .i64 hits, .int .i64 misses]) ∧ ItemsAt w' (fun b => w.heap.size ≤ b ∧ b < w'.heap.size) iv items ∧ Below w.heap.size w w'
set_option maxHeartbeats 2000000 in
theorem rput_any (size : Nat) (iv : Value) (items : Items) (hits misses i : Int) (s : ByteArray) (w : World) (F : Nat → Prop) (h : ItemsAt w F iv items) (hF : ∀ b, F b → b < w.heap.size) (hlen : items.length < 1000) (hs0 : 1 ≤ size) (hs1 : size ≤ 64) :
    Calls Try.prog 21 #[.agg #[.int .i64 size, iv, .int .i64 hits, .int .i64 misses], .int .i64 i, .string s] w (RPutPost w size (putIn size items i s) hits misses) := by
  obtain ⟨A, c, rfl, hc, hm, hr⟩ := h
  obtain ⟨i0, hi, hz0, hz1, hz2⟩ := info_parts item_info
  have hW : Hid (∀ W : World, Below w.heap.size w W → Calls Try.prog 26 #[.slice A items.length c, .int .i64 i] W (OwnItems W (without items i))) := by
    intro W hb
    exact without_any _ items i W F ⟨A, c, rfl, hc, hm, hr.below hb hF⟩ (fun b hb2 => Nat.lt_of_lt_of_le (hF b hb2) hb.size) hlen
  have hwl := without_len items i
  have hput : Hid (putIn size items i s = ((i, s) :: without items i).take size) := rfl
  generalize putIn size items i s = fin at *
  generalize without items i = wi at *
  clear hr hF
  go_enter Try.func21, Try.ntmps21
  go_wp2_with fail
  refine (hW.out _ ((((Below.refl _ _).alloc (Nat.le_refl _) _).alloc (by simp) _).alloc (by simp; omega) _)).mono ?_
  rintro e w4 ⟨v4, rfl, hown4, hb4⟩
  have hb1 := ((Blk.new w 38 [.int .i64 size, .slice A items.length c, .int .i64 hits, .int .i64 misses]).alloc (.cells #[.int .i64 0, .slice none 0 0, .int .i64 0, .int .i64 0] 38)).alloc (.cells #[.int .i64 i, .string s] 44)
  have hb2 := (Blk.new (w.alloc (.cells #[.int .i64 size, .slice A items.length c, .int .i64 hits, .int .i64 misses] 38)) 38 [.int .i64 0, .slice none 0 0, .int .i64 0, .int .i64 0]).alloc (.cells #[.int .i64 i, .string s] 44)
  have ho3 := World.ownsRow_lit (base := w.heap.size) (e := 44) (size := 2) ((w.alloc (.cells #[.int .i64 size, .slice A items.length c, .int .i64 hits, .int .i64 misses] 38)).alloc (.cells #[.int .i64 0, .slice none 0 0, .int .i64 0, .int .i64 0] 38)) #[.int .i64 i, .string s] 1 (by simp; omega) (by unfold maxLen; omega) rfl
  rw [World.size_alloc] at hb2
  rw [World.size_alloc, World.size_alloc] at ho3
  have hbw : Below w.heap.size w (((w.alloc (.cells #[.int .i64 size, .slice A items.length c, .int .i64 hits, .int .i64 misses] 38)).alloc (.cells #[.int .i64 0, .slice none 0 0, .int .i64 0, .int .i64 0] 38)).alloc (.cells #[.int .i64 i, .string s] 44)) := (((Below.refl _ _).alloc (Nat.le_refl _) _).alloc (by simp) _).alloc (by simp; omega) _
  have hsz3 : ((((w.alloc (.cells #[.int .i64 size, .slice A items.length c, .int .i64 hits, .int .i64 misses] 38)).alloc (.cells #[.int .i64 0, .slice none 0 0, .int .i64 0, .int .i64 0] 38)).alloc (.cells #[.int .i64 i, .string s] 44))).heap.size = w.heap.size + 3 := by simp
  rw [hsz3] at hown4 hb4
  have hB1 := Lib.hid (hb1.below hb4 (by omega))
  have hB2 := Lib.hid (hb2.below hb4 (by omega))
  have hO3 := Lib.hid (own_below ho3 (by rw [hsz3]; exact hb4))
  have hBW := Lib.hid (hbw.trans (hb4.mono (by omega)))
  have hO4 := Lib.hid hown4
  have hz4 := hb4.size
  rw [hsz3] at hz4
  obtain ⟨A4, c4, rfl, _⟩ := own_form hown4
  clear hb1 hb2 ho3 hbw hb4 hown4 hsz3
  have q0 : w4.cell? ⟨w.heap.size, 0, none⟩ = some (.int .i64 size) := by rw [hB1.out.cell]; rfl
  go_wp2_with (at_builtin; refine wpList_append_rd _ rfl (.tmp 10) (.tmp 14) 36 rfl w.heap.size 44 i0 _ 2 24 Try.underlying36 hi hz0 hz1 hz2 rfl (by decide) _ 1 _ rfl hO3.out (fun _ => True) A4 wi.length c4 (itemCells wi) rfl ?c1 (itemCells_one wi) ?c3 ?c4 ?c5 ?_)
  case c1 => exact (Rd.of_own hO4.out).more (fun _ _ => trivial)
  case c3 => unfold maxLen; omega
  case c4 => omega
  case c5 => omega
  intro v5 w5 hown5 hg5 hat5
  have hk5 : Kp (fun b => b = w.heap.size + 2) w4 w5 := ⟨hg5.os, hg5.tape, hg5.output, hg5.size, fun k hk hne => hg5.block k hk (fun e => hne (by injection e))⟩
  have hC1 := hB1.out.kp hk5 (by omega)
  have hC2 := hB2.out.kp hk5 (by omega)
  have hne5 : ∀ b, v5.ownBlock = some b → w.heap.size + 2 ≤ b := by
    intro b hb
    rcases hat5 with e | e
    · rw [e] at hb
      have : w.heap.size + 2 = b := by simpa [Value.ownBlock] using hb
      omega
    · rw [e] at hb
      have : w4.heap.size = b := by simpa using hb
      omega
  have HNE := Lib.hid hne5
  have HBW5 : Hid (Below w.heap.size w w5) := hBW.out.trans (hk5.to_below (by omega) (fun b hb e => by omega))
  have hO5 : Hid (w5.ownsRow w.heap.size 44 2 v5 ((i, s) :: wi).length (itemCells ((i, s) :: wi))) := by
    unfold Hid
    have e1 : itemCells ((i, s) :: wi) = [.int .i64 i, .string s] ++ itemCells wi := rfl
    rw [e1, List.length_cons, Nat.add_comm]
    exact hown5
  have hz5 := hk5.size
  have HC1 := Lib.hid hC1
  have HC2 := Lib.hid hC2
  have hl5 : ((i, s) :: wi).length ≤ 1000 := by simp; omega
  generalize hI5 : ((i, s) :: wi) = it5 at *
  have HI5 := Lib.hid hI5
  clear hI5 hown5 hg5 hat5 hk5 hC1 hC2 hne5 q0
  obtain ⟨A5, c5, rfl, hc5, hm5⟩ := own_form hO5.out
  have r0 : w5.cell? ⟨w.heap.size, 0, none⟩ = some (.int .i64 size) := by rw [HC1.out.cell]; rfl
  have r1 : w5.cell? ⟨w.heap.size, 1, none⟩ = some (.slice A items.length c) := by rw [HC1.out.cell]; rfl
  have r2 : w5.cell? ⟨w.heap.size, 2, none⟩ = some (.int .i64 hits) := by rw [HC1.out.cell]; rfl
  have r3 : w5.cell? ⟨w.heap.size, 3, none⟩ = some (.int .i64 misses) := by rw [HC1.out.cell]; rfl
  have s0 : w5.cell? ⟨w.heap.size + 1, 0, none⟩ = some (.int .i64 0) := by rw [HC2.out.cell]; rfl
  have s1 : w5.cell? ⟨w.heap.size + 1, 1, none⟩ = some (.slice none 0 0) := by rw [HC2.out.cell]; rfl
  have s2 : w5.cell? ⟨w.heap.size + 1, 2, none⟩ = some (.int .i64 0) := by rw [HC2.out.cell]; rfl
  have s3 : w5.cell? ⟨w.heap.size + 1, 3, none⟩ = some (.int .i64 0) := by rw [HC2.out.cell]; rfl
  have f1 := HC1.out.frozen 1
  have g0 := HC2.out.frozen 0
  have g1 := HC2.out.frozen 1
  have g2 := HC2.out.frozen 2
  have g3 := HC2.out.frozen 3
  have hrd5 : Hid (Rd w5 (fun b => w.heap.size + 2 ≤ b ∧ b < w5.heap.size) 2 A5 it5.length (itemCells it5)) := by
    refine ⟨hO5.out.1, fun hn => ?_⟩
    obtain ⟨ad, e, hb, hcc⟩ := (Rd.of_own hO5.out).2 hn
    subst e
    exact ⟨ad, rfl, ⟨HNE.out _ rfl, hb.2⟩, hcc⟩
  have hfin : ∀ (n : Nat) (W : World), Kp (fun b => b = w.heap.size ∨ b = w.heap.size + 1) w5 W → fin = it5.take n → n ≤ it5.length → RPutPost w size fin hits misses (.returned (.agg #[.int .i64 size, .slice A5 n c5, .int .i64 hits, .int .i64 misses])) W := by
    intro n W hk hf hn
    have hl : fin.length = n := by rw [hf, List.length_take]; omega
    refine ⟨_, rfl, ⟨A5, c5, by rw [hl], by omega, hm5, ?_⟩, HBW5.out.trans (hk.to_below (by omega) (fun b hb e => by omega))⟩
    have hz := hk.size
    have h1 := ((hrd5.out.kp hk (fun b hb => ⟨hb.2, by omega⟩)).take hn).more (F' := fun b => w.heap.size ≤ b ∧ b < W.heap.size) (fun b hb => ⟨by omega, by omega⟩)
    have e : (itemCells it5).take (n * 2) = itemCells fin := by rw [hf]; exact itemCells_take it5 n
    rw [e] at h1
    rw [hl]
    exact h1
  have HFIN := Lib.hid hfin
  clear hfin
  by_cases hbig : size < it5.length
  · have hd : decide (size < it5.length) = true := by simpa using hbig
    go_wp2
    refine bodyPost_ret (v := .agg #[.int .i64 size, .slice A5 size c5, .int .i64 hits, .int .i64 misses]) (by simp [results, Try.results21, go_sem, s0, s1, s2, s3]) rfl ?_
    refine HFIN.out size _ ?_ (by rw [hput.out]) (by omega)
    exact ((((((Kp.refl _ _).setCell (p := ⟨w.heap.size, 1, none⟩) (.inl (.inl rfl)) _).setCell (p := ⟨w.heap.size, 1, none⟩) (.inl (.inl rfl)) _).setCell (p := ⟨w.heap.size + 1, 0, none⟩) (.inl (.inr rfl)) _).setCell (p := ⟨w.heap.size + 1, 1, none⟩) (.inl (.inr rfl)) _).setCell (p := ⟨w.heap.size + 1, 2, none⟩) (.inl (.inr rfl)) _).setCell (p := ⟨w.heap.size + 1, 3, none⟩) (.inl (.inr rfl)) _
  · have hd : decide (size < it5.length) = false := by simpa using hbig
    go_wp2
    refine bodyPost_ret (v := .agg #[.int .i64 size, .slice A5 it5.length c5, .int .i64 hits, .int .i64 misses]) (by simp [results, Try.results21, go_sem, s0, s1, s2, s3]) rfl ?_
    refine HFIN.out it5.length _ ?_ (by rw [hput.out, List.take_of_length_le (by omega), List.take_of_length_le (Nat.le_refl _)]) (Nat.le_refl _)
    exact (((((Kp.refl _ _).setCell (p := ⟨w.heap.size, 1, none⟩) (.inl (.inl rfl)) _).setCell (p := ⟨w.heap.size + 1, 0, none⟩) (.inl (.inr rfl)) _).setCell (p := ⟨w.heap.size + 1, 1, none⟩) (.inl (.inr rfl)) _).setCell (p := ⟨w.heap.size + 1, 2, none⟩) (.inl (.inr rfl)) _).setCell (p := ⟨w.heap.size + 1, 3, none⟩) (.inl (.inr rfl)) _
end Go.Proofs.Ytedjaahidncokab
