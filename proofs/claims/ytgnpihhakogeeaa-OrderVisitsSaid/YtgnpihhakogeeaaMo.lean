/- Texts of the walk, joined: Yf Vh Vi Vj Vk Vl Vm. -/
import Derived.Test.YtgnpihhakogeeaaMm
import Derived.Test.YtgnpihhakogeeaaMf
import Derived.Test.YtgnpihhakogeeaaMd
import Derived.Test.YtgnpihhakogeeaaMn
namespace Go.Proofs.Ytgnpihhakogeeaa
set_option linter.unusedSimpArgs false
set_option linter.unusedVariables false
open Go.RowKit

theorem chunk_get (sz : Nat) : ∀ (n : Nat) (cs : List AV) (i j : Nat) (r : List AV) (x : AV), n * sz ≤ cs.length → (chunk sz n cs)[i]? = some r → r[j]? = some x → i < n ∧ j < sz ∧ r.length = sz ∧ cs[i * sz + j]? = some x
  | 0, cs, i, j, r, x, _, h, _ => by simp [chunk] at h
  | n + 1, cs, i, j, r, x, hl, h, hx => by
    have e : (n + 1) * sz = n * sz + sz := by rw [Nat.add_mul]; omega
    cases i with
    | zero =>
      simp [chunk] at h
      subst h
      have h1 : j < (cs.take sz).length := (List.getElem?_eq_some_iff.1 hx).1
      have h2 : (cs.take sz).length = sz := by simp; omega
      refine ⟨by omega, by omega, h2, ?_⟩
      rw [List.getElem?_take] at hx
      rw [if_pos (by omega)] at hx
      simpa using hx
    | succ i =>
      simp [chunk] at h
      obtain ⟨h1, h2, h3, h4⟩ := chunk_get sz n (cs.drop sz) i j r x (by simp; omega) h hx
      refine ⟨by omega, h2, h3, ?_⟩
      rw [List.getElem?_drop] at h4
      rw [← h4]
      congr 1
      rw [Nat.add_mul]; omega
def AHeap.dels (H : AHeap) (D : Nat → Bool) : AHeap := ⟨fun i => bif D i then none else H.get i, H.next, fun i hi => by rw [H.wf i hi]; cases D i <;> rfl⟩
theorem dels_get {H : AHeap} {D : Nat → Bool} {i : Nat} (h : D i = false) : (H.dels D).get i = H.get i := by simp [AHeap.dels, h]
/-- b is a, with objects of D as trees -/
inductive Frz (H : AHeap) (D : Nat → Bool) : AV → AV → Prop
  | refl (a : AV) : Frz H D a a
  | arr (id off sz len cap E : Nat) (cs : List AV) (rows' : List (List AV)) (hd : D id = true) (ho : H.get id = some (.cells cs E)) (hb : off + len * sz ≤ cs.length) (hl : rows'.length = len)
      (h1 : ∀ (i : Nat) (r r' : List AV), (chunk sz len (cs.drop off))[i]? = some r → rows'[i]? = some r' → r.length = r'.length)
      (h2 : ∀ (i : Nat) (r r' : List AV) (j : Nat) (x y : AV), (chunk sz len (cs.drop off))[i]? = some r → rows'[i]? = some r' → r[j]? = some x → r'[j]? = some y → Frz H D x y) : Frz H D (.arr id off len cap) (.sl .no rows')
  | sl (t : Tok) (rows rows' : List (List AV)) (hl : rows.length = rows'.length) (h1 : ∀ (i : Nat) (r r' : List AV), rows[i]? = some r → rows'[i]? = some r' → r.length = r'.length)
      (h2 : ∀ (i : Nat) (r r' : List AV) (j : Nat) (x y : AV), rows[i]? = some r → rows'[i]? = some r' → r[j]? = some x → r'[j]? = some y → Frz H D x y) : Frz H D (.sl t rows) (.sl .no rows')
  | agg (cs cs' : List AV) (hl : cs.length = cs'.length) (h : ∀ (i : Nat) (x y : AV), cs[i]? = some x → cs'[i]? = some y → Frz H D x y) : Frz H D (.agg cs) (.agg cs')
  | tup (cs cs' : List AV) (hl : cs.length = cs'.length) (h : ∀ (i : Nat) (x y : AV), cs[i]? = some x → cs'[i]? = some y → Frz H D x y) : Frz H D (.tup cs) (.tup cs')
section
variable {g : Gh} {H : AHeap} {w : World} {D : Nat → Bool}
theorem Frz.one {a b : AV} (h : Frz H D a b) : a.one = b.one := by cases h <;> rfl
def Gh.frz (g : Gh) (H : AHeap) (D : Nat → Bool) : Gh := { g with RO := fun b j => g.RO b j ∨ ∃ id cs E, D id = true ∧ H.get id = some (.cells cs E) ∧ g.ι id = some b ∧ j < cs.length }
theorem frz_le : g.le (g.frz H D) w w := ⟨fun _ _ h => h, fun _ _ _ _ h => ⟨_, _, _, h, .inr ⟨rfl, rfl, rfl⟩⟩, fun _ _ _ h => h, fun _ _ h => .inl h, fun _ _ _ => rfl⟩
theorem VR.frz {a b : AV} {v : Value} (hf : Frz H D a b) (hW : WR g H w) (h : VR g w a v) : VR (g.frz H D) w b v := by
  induction hf generalizing v with
  | refl a => exact h.mono frz_le
  | arr id off sz len cap E cs rows' hd ho hb hl h1 h2 ih =>
    cases h with
    | arr _ _ _ _ b hi hc hm =>
      obtain ⟨b', carr, hi', hblk, hcs, hone, _⟩ := hW.obj id _ ho
      rw [hi] at hi'
      injection hi' with hi'
      subst hi'
      have hk := chunk_flat sz len (cs.drop off) (by simp; omega)
      have key : ∀ i r' j y, rows'[i]? = some r' → r'[j]? = some y → ∃ (x : AV) (u : Value), y.one = x.one ∧ w.cell? ⟨b, off + i * sz + j, none⟩ = some u ∧ off + i * sz + j < cs.length ∧ VR (g.frz H D) w y u := fun i r' j y hr' hy => by
        obtain ⟨r, hr⟩ := get_of_len (l := chunk sz len (cs.drop off)) (m := rows') (by rw [hk.2.1, hl]) hr'
        obtain ⟨x, hx⟩ := get_of_len (h1 i r r' hr hr') hy
        obtain ⟨c1, c2, c3, c4⟩ := chunk_get sz len (cs.drop off) i j r x (by simp; omega) hr hx
        rw [List.getElem?_drop, ← Nat.add_assoc] at c4
        obtain ⟨u, hu, hv⟩ := hcs.get c4
        refine ⟨x, u, (h2 i r r' j x y hr hr' hx hy).one.symm, ?_, (List.getElem?_eq_some_iff.1 c4).1, ih i r r' j x y hr hr' hx hy hv⟩
        simp only [World.cell?, hblk]
        simpa using hu
      let f : Nat → Nat → Value := fun i j => (w.cell? ⟨b, off + i * sz + j, none⟩).getD undef
      have := VR.sl (g := g.frz H D) (w := w) .no rows' (some ⟨b, off, none⟩) cap sz b off f (by omega) hm (fun _ => rfl) (fun r' hr' => by
        obtain ⟨i, hi2, rfl⟩ := List.getElem_of_mem hr'
        obtain ⟨r, hr⟩ := get_of_len (l := chunk sz len (cs.drop off)) (m := rows') (by rw [hk.2.1, hl]) (List.getElem?_eq_getElem hi2)
        refine ⟨by rw [← h1 i r _ hr (List.getElem?_eq_getElem hi2)]; exact hk.2.2 r (List.mem_of_getElem? hr), fun y hy => ?_⟩
        obtain ⟨j, hj, rfl⟩ := List.getElem_of_mem hy
        obtain ⟨x, hx⟩ := get_of_len (h1 i r _ hr (List.getElem?_eq_getElem hi2)) (List.getElem?_eq_getElem hj)
        obtain ⟨c1, c2, c3, c4⟩ := chunk_get sz len (cs.drop off) i j r x (by simp; omega) hr hx
        rw [← (h2 i r _ j x _ hr (List.getElem?_eq_getElem hi2) hx (List.getElem?_eq_getElem hj)).one]
        rw [List.getElem?_drop] at c4
        exact hone x (List.mem_of_getElem? c4)) (fun i r' j y hr' hy => by
        obtain ⟨x, u, _, k1, k2, _⟩ := key i r' j y hr' hy
        exact ⟨by simp only [f, k1, Option.getD_some], .inr ⟨id, cs, E, hd, ho, hi, k2⟩⟩) (fun i r' j y hr' hy => by
        obtain ⟨x, u, _, k1, _, k3⟩ := key i r' j y hr' hy
        simp only [f, k1, Option.getD_some]
        exact k3) trivial
      rw [hl] at this
      exact this
  | sl t rows rows' hl h1 h2 ih =>
    cases h with
    | sl tok _ A c sz b o f hc hm hA hsz hcell hv ht =>
      have := VR.sl (g := g.frz H D) (w := w) .no rows' A c sz b o f (by rw [← hl]; exact hc) hm (fun hne => hA fun e => hne (by rw [e] at hl; exact List.length_eq_zero_iff.1 hl.symm)) (fun r' hr' => by
        obtain ⟨i, hi, rfl⟩ := List.getElem_of_mem hr'
        obtain ⟨r, hr⟩ := get_of_len hl (List.getElem?_eq_getElem hi)
        have hrm := List.mem_of_getElem? hr
        have e := h1 i r _ hr (List.getElem?_eq_getElem hi)
        refine ⟨by rw [← e]; exact (hsz r hrm).1, fun y hy => ?_⟩
        obtain ⟨j, hj, rfl⟩ := List.getElem_of_mem hy
        obtain ⟨x, hx⟩ := get_of_len e (List.getElem?_eq_getElem hj)
        rw [← (h2 i r _ j x _ hr (List.getElem?_eq_getElem hi) hx (List.getElem?_eq_getElem hj)).one]
        exact (hsz r hrm).2 x (List.mem_of_getElem? hx)) (fun i r' j y hr' hy => by
        obtain ⟨r, hr⟩ := get_of_len hl hr'
        obtain ⟨x, hx⟩ := get_of_len (h1 i r r' hr hr') hy
        exact ⟨(hcell i r j x hr hx).1, .inl (hcell i r j x hr hx).2⟩) (fun i r' j y hr' hy => by
        obtain ⟨r, hr⟩ := get_of_len hl hr'
        obtain ⟨x, hx⟩ := get_of_len (h1 i r r' hr hr') hy
        exact ih i r r' j x y hr hr' hx hy (hv i r j x hr hx)) trivial
      rw [hl]
      exact this
  | agg cs cs' hl hh ih =>
    cases h with
    | agg _ vs hl2 hone hv => exact .agg cs' vs (by rw [← hl]; exact hl2) (fun y hy => by
        obtain ⟨j, hj, rfl⟩ := List.getElem_of_mem hy
        obtain ⟨x, hx⟩ := get_of_len hl (List.getElem?_eq_getElem hj)
        rw [← (hh j x _ hx (List.getElem?_eq_getElem hj)).one]
        exact hone x (List.mem_of_getElem? hx)) (fun i y u hy hu => by
        obtain ⟨x, hx⟩ := get_of_len hl hy
        exact ih i x y hx hy (hv i x u hx hu))
  | tup cs cs' hl hh ih =>
    cases h with
    | tup _ vs hl2 hv => exact .tup cs' vs (by rw [← hl]; exact hl2) (fun i y u hy hu => by
        obtain ⟨x, hx⟩ := get_of_len hl hy
        exact ih i x y hx hy (hv i x u hx hu))
theorem frz_ok (hW : WR g H w) : WR (g.frz H D) (H.dels D) w ∧ Stp g H w (g.frz H D) (H.dels D) w := by
  have hin : ∀ id o, (H.dels D).get id = some o → D id = false ∧ H.get id = some o := fun id o h => by
    unfold AHeap.dels at h
    cases hd : D id with
    | true => simp [hd] at h
    | false => exact ⟨rfl, by simpa [hd] using h⟩
  have own : ∀ id cs E b, D id = true → H.get id = some (.cells cs E) → g.ι id = some b → Own g H b := fun id cs E b _ h2 h3 => ⟨id, _, h2, h3⟩
  have ne : ∀ i o b, D i = false → H.get i = some o → Owns g i o b → ∀ j, ¬ (∃ id cs E, D id = true ∧ H.get id = some (.cells cs E) ∧ g.ι id = some b ∧ j < cs.length) := fun i o b hd ho hb j ⟨id, cs, E, k1, k2, k3, _⟩ => by
    have := hW.inj i id o _ b ho k2 hb k3
    subst this
    rw [hd] at k1; cases k1
  refine ⟨⟨fun id o h => ?_, fun i i' o o' b a1 a2 b1 b2 => hW.inj i i' o o' b (hin _ _ a1).2 (hin _ _ a2).2 ?_ ?_, hW.dom, fun id o b h1 h2 => hW.bd id o b (hin _ _ h1).2 ?_, fun b j h => ?_⟩, ⟨frz_le, Nat.le_refl _, rfl, rfl, rfl, Nat.le_refl _, fun _ _ _ => rfl, fun b _ ⟨i, o, a1, a2⟩ => ⟨i, o, (hin _ _ a1).2, ?_⟩, fun b j _ h => ?_⟩⟩
  · obtain ⟨hd, ho⟩ := hin _ _ h
    have hR := hW.obj id o ho
    cases o with
    | cells cs E =>
      obtain ⟨b, carr, k1, k2, k3, k4, k5⟩ := hR
      exact ⟨b, carr, k1, k2, k3.mono frz_le, k4, fun j hj => hj.elim (k5 j) (ne id _ b hd ho k1 j)⟩
    | tok n E sz =>
      obtain ⟨cap, b, k1, k2, k3, k4⟩ := hR
      refine ⟨cap, b, k1, k2, k3, fun hc => ?_⟩
      obtain ⟨carr, m1, m2, m3⟩ := k4 hc
      exact ⟨carr, m1, m2, fun j hj hj2 => hj2.elim (m3 j hj) (ne id _ b hd ho ⟨n, cap, k1, hc⟩ j)⟩
    | map kk es del =>
      obtain ⟨b, entries, clock, k1, k2, k3, k4, k5, k6, k7⟩ := hR
      refine ⟨b, entries, clock, k1, k2, k3, fun i k x e h1 h2 => ?_, k5, k6, fun j hj => hj.elim (k7 j) (ne id _ b hd ho k1 j)⟩
      obtain ⟨p1, p2, p3, p4⟩ := k4 i k x e h1 h2
      exact ⟨p1, p2, p3.mono frz_le, p4⟩
  · cases o <;> exact b1
  · cases o' <;> exact b2
  · cases o <;> exact h2
  · rcases h with h | ⟨id, cs, E, _, k2, k3, _⟩
    · exact hW.ro b j h
    · exact hW.bd id _ b k2 k3
  · cases o <;> exact a2
  · rcases h with h | ⟨id, cs, E, k1, k2, k3, _⟩
    · exact .inl h
    · exact .inr (own id cs E b k1 k2 k3)
end
/-- at the end of a function: objects become trees -/
theorem RStep.frz {r v : AV} {H H2 : AHeap} {D : Nat → Bool} (hf : Frz H D r v) (h1 : ∀ i o, H2.get i = some o → D i = false ∧ H.get i = some o) (h2 : H.next ≤ H2.next) : RStep r H v H2 := fun g w u hv hW => by
  obtain ⟨k1, k2⟩ := frz_ok (D := D) hW
  obtain ⟨k3, k4⟩ := drop_ok k1 (H2 := H2) (fun i o ho => by obtain ⟨a, b⟩ := h1 i o ho; rw [dels_get a]; exact b) h2
  exact ⟨g.frz H D, hv.frz hf hW, k3, k2.trans k4⟩
/-- in the midst of a function -/
theorem GStep.frz {F F' : Fr} {H : AHeap} (D : Nat → Bool) (hf : ∀ t, Frz H D (Fr.get F t) (Fr.get F' t)) : GStep F H F' (H.dels D) := fun N g w a hF hW => by
  obtain ⟨k1, k2⟩ := frz_ok (D := D) hW
  exact ⟨_, ⟨hF.size, hF.df, fun t => (hF.get t).frz (hf t) hW⟩, k1, k2⟩
theorem fin_frz {r v : AV} {H0 H : AHeap} {D : Nat → Bool} (hf : Frz H D r v) (hD : ∀ i, i < H0.next → D i = false) (hx : AHeap.Ext H0 H := by exact AXT) : ∃ r2 H2, RStep r H r2 H2 ∧ Pure H0 v r2 H2 :=
  ⟨_, H0.bump (H.next - H0.next), RStep.frz hf (fun i o h => by
    have hh : H0.get i = some o := h
    exact ⟨hD i (AHeap.lt hh), hx.get i o hh⟩) (by have := hx.next; simp; omega), rfl, _, rfl⟩
end Go.Proofs.Ytgnpihhakogeeaa

namespace Go.Proofs.Ytgnpihhakogeeaa
set_option linter.unusedSimpArgs false
set_option linter.unusedVariables false
open Go.RowKit

def eqTc : EqT := ⟨eqE, fun t => t == 43⟩
theorem hEc : ∀ t ks, eqTc t = some ks → EqOk Try.prog t ks := hE0
def zvc0 : AV := .agg [.sc (.int .i64 0), .sl .full [], .sc (.int .i64 0), .sc (.int .i64 0), .sc (.int .i64 0), .sc (.int .i64 0), .sc (.int .i64 0), .sc (.int .i64 0), .sc (.int .i64 0), .sc (.int .i64 0), .sc (.int .i64 0), .sc (.int .i64 0), .sc (.int .i64 0), .sc (.int .i64 0)]
def zvc1 : List AV := [.sc (.int .i64 0), .sl .full [], .sc (.int .i64 0), .sc (.int .i64 0), .sc (.int .i64 0), .sc (.int .i64 0), .sc (.int .i64 0), .sc (.int .i64 0), .sc (.int .i64 0), .sc (.int .i64 0), .sc (.int .i64 0), .sc (.int .i64 0), .sc (.int .i64 0), .sc (.int .i64 0)]
theorem YZw : True ∧ zvc0 = .agg [.sc (.int .i64 0), .sl .full [], .sc (.int .i64 0), .sc (.int .i64 0), .sc (.int .i64 0), .sc (.int .i64 0), .sc (.int .i64 0), .sc (.int .i64 0), .sc (.int .i64 0), .sc (.int .i64 0), .sc (.int .i64 0), .sc (.int .i64 0), .sc (.int .i64 0), .sc (.int .i64 0)] ∧ zvc1 = [.sc (.int .i64 0), .sl .full [], .sc (.int .i64 0), .sc (.int .i64 0), .sc (.int .i64 0), .sc (.int .i64 0), .sc (.int .i64 0), .sc (.int .i64 0), .sc (.int .i64 0), .sc (.int .i64 0), .sc (.int .i64 0), .sc (.int .i64 0), .sc (.int .i64 0), .sc (.int .i64 0)] := ⟨trivial, rfl, rfl⟩
def v62_2 : ACode := .blk 2 (.loop (.seq (.reg [io 28 (.bin .lss (.t 27) (.t 26))]) (.seq (.cond (.t 28) .skip (.exit 2)) (.seq (.blk 3 (.seq (.reg [im 29 27, im 10 29]) (.reg [im 30 9, im 31 10, im 32 2, im 33 9, im 34 10, io 35 (.ixa 12 (.t 33) (.t 34)), io 36 (.fla 1 (.t 35)), io 37 (.ld 1 false (.t 36)), io 38 (.call (.t 32) [.t 37]), io 39 (.ixa 12 (.t 30) (.t 31)), io 40 (.fla 1 (.t 39)), iz (.st 1 (.t 40) (.t 38))]))) (.reg [io 41 (.bin .add (.t 27) (ik 1)), im 27 41])))))
def v62_1 : ACode := .blk 0 (.loop (.seq (.reg [io 22 (.bin .lss (.t 21) (.t 20))]) (.seq (.cond (.t 22) .skip (.exit 0)) (.seq (.blk 1 (.seq (.reg [io 23 (.ixa 1 (.t 19) (.t 21)), io 24 (.ld 1 false (.t 23)), im 9 24]) (.seq (.reg [im 25 9, io 26 (.len false (.t 25)), jm 27 0]) v62_2))) (.reg [io 42 (.bin .add (.t 21) (ik 1)), im 21 42])))))
def v62_0 : ACode := .seq (.reg [io 3 (.box 24 (.t 0)), io 4 (.box 45 (.t 1)), io 6 (.box 45 (.c zvc0))]) (.seq (.reg [io 11 (.ld 14 true (.t 4)), io 12 (.call (jf 66) [.t 11]), io 7 (.box 45 (.c zvc0)), iz (.st 14 (.t 7) (.t 12))]) (.seq (.seq (.reg [io 13 (.ld 2 true (.t 3)), io 14 (.fla 0 (.t 4)), io 15 (.ld 1 false (.t 14)), io 16 (.call (jf 83) [.t 13, .t 15])]) (.cond (.t 16) (.seq (.reg [io 17 (.ld 14 true (.t 7)), iz (.st 14 (.t 6) (.t 17))]) .ret) .skip)) (.seq (.seq (.reg [io 18 (.fla 1 (.t 7)), io 19 (.ld 1 false (.t 18)), io 20 (.len false (.t 19)), jm 21 0]) v62_1) (.seq (.reg [im 43 2, io 44 (.fla 2 (.t 7)), io 45 (.fla 1 (.t 44)), io 46 (.ld 1 false (.t 45)), io 47 (.call (.t 43) [.t 46]), io 48 (.fla 2 (.t 7)), io 49 (.fla 1 (.t 48)), iz (.st 1 (.t 49) (.t 47))]) (.seq (.reg [io 50 (.ld 14 true (.t 7)), iz (.st 14 (.t 6) (.t 50))]) .ret)))))
theorem vf62 : cFn Try.prog eqTc 62 = some (v62_0, [(.cell 14 true 6)], 51) := by kernel_rfl
def v66_1 : ACode := .blk 0 (.loop (.seq (.reg [io 15 (.bin .lss (.t 14) (.t 13))]) (.seq (.cond (.t 15) .skip (.exit 0)) (.seq (.blk 1 (.seq (.reg [io 16 (.ixa 1 (.t 12) (.t 14)), io 17 (.ld 1 false (.t 16)), im 5 17]) (.drw [ip (io 18 (.fla 1 (.t 3))), ip (io 19 (.ld 1 false (.t 18))), ip (im 20 5), (io 21 (.call (jf 89) [.t 20]), [io 19 (.ld 1 false (.t 18))]), ip (io 22 (.bsl 1 [.t 21])), ip (io 23 (.app 83 1 24 (.t 19) (.t 22))), ip (io 24 (.fla 1 (.t 3))), ip (iz (.st 1 (.t 24) (.t 23)))]))) (.reg [io 25 (.bin .add (.t 14) (ik 1)), im 14 25])))))
def v66_0 : ACode := .seq (.reg [io 1 (.box 45 (.t 0)), io 2 (.box 45 (.c zvc0))]) (.seq (.reg [io 6 (.fla 0 (.t 1)), io 7 (.ld 1 false (.t 6)), io 8 (.fla 2 (.t 1)), io 9 (.ld 12 true (.t 8)), io 10 (.bld zvc1 [(0, (1, .t 7)), (2, (12, .t 9))]), io 3 (.box 45 (.c zvc0)), iz (.st 14 (.t 3) (.t 10))]) (.seq (.seq (.reg [io 11 (.fla 1 (.t 1)), io 12 (.ld 1 false (.t 11)), io 13 (.len false (.t 12)), jm 14 0]) v66_1) (.seq (.reg [io 26 (.ld 14 true (.t 3)), iz (.st 14 (.t 2) (.t 26))]) .ret)))
theorem vf66 : cFn Try.prog eqTc 66 = some (v66_0, [(.cell 14 true 2)], 27) := by kernel_rfl
def v89_0 : ACode := .seq (.reg [io 2 (.mv jn)]) (.seq (.seq (.reg [im 3 0, io 4 (.eqs false (.t 3))]) (.cond (.t 4) (.seq (.reg [io 2 (.mv jn)]) .ret) .skip)) (.seq (.reg [io 5 (.bsv 43 12 []), im 6 0, io 7 (.apv 43 12 96 [.sc (.int .i64 0), .sc (.int .i64 0), .sc (.int .i64 0), .sc (.int .i64 0), .sc (.int .i64 0), .sc (.int .i64 0), .sc (.int .i64 0), .sc (.int .i64 0), .sc (.int .i64 0), .sc (.int .i64 0), .sc (.int .i64 0), .sc (.int .i64 0)] (.t 5) (.t 6)), im 2 7]) .ret))
theorem vf89 : cFn Try.prog eqTc 89 = some (v89_0, [(.tmp 2)], 8) := by kernel_rfl
end Go.Proofs.Ytgnpihhakogeeaa

namespace Go.Proofs.Ytgnpihhakogeeaa
set_option linter.unusedSimpArgs false
set_option linter.unusedVariables false
open Go.RowKit

theorem rC_at : ∀ {l : List Cel} {tail : List AV} {j o : Nat} (h : j < l.length), o < 12 → ((rC l).flatten ++ tail)[j * 12 + o]? = (eCel l[j])[o]?
  | c :: l, tail, 0, o, h, ho => by
    simp only [List.map_cons, List.flatten_cons, Nat.zero_mul, Nat.zero_add, List.getElem_cons_zero]
    rw [List.append_assoc, List.getElem?_append_left (by show o < 12; exact ho)]
  | c :: l, tail, j + 1, o, h, ho => by
    have ih := rC_at (l := l) (tail := tail) (j := j) (o := o) (by simpa using h) ho
    simp only [List.map_cons, List.flatten_cons, List.getElem_cons_succ]
    rw [List.append_assoc, List.getElem?_append_right (by show 12 ≤ _; omega), ← ih]
    congr 1
    show (j + 1) * 12 + o - 12 = _
    omega
theorem rC_put : ∀ {l : List Cel} {tail : List AV} {j : Nat} (h : j < l.length) (v : Int), ((rC l).flatten ++ tail).take (j * 12 + 1) ++ [AV.i v] ++ ((rC l).flatten ++ tail).drop (j * 12 + 1 + 1) = (rC (l.set j ⟨l[j].key, v, l[j].agg⟩)).flatten ++ tail
  | c :: l, tail, 0, h, v => by simp [eCel]
  | c :: l, tail, j + 1, h, v => by
    have ih := rC_put (l := l) (tail := tail) (j := j) (by simpa using h) v
    simp only [List.map_cons, List.flatten_cons, List.getElem_cons_succ, List.set_cons_succ]
    rw [List.append_assoc (eCel c), show (j + 1) * 12 + 1 = (eCel c).length + (j * 12 + 1) by show _ = 12 + _; omega, Nat.add_assoc (eCel c).length, List.take_length_add_append, List.drop_length_add_append, List.append_assoc (eCel c), List.append_assoc (eCel c), List.append_assoc (eCel c)]
    congr 1
theorem chunk_rC : ∀ (l : List Cel) (tail : List AV), chunk 12 l.length ((rC l).flatten ++ tail) = rC l
  | [], tail => rfl
  | c :: l, tail => by
    simp only [List.map_cons, List.flatten_cons, List.length_cons, chunk, List.append_assoc]
    rw [show (eCel c ++ ((rC l).flatten ++ tail)).take 12 = eCel c from List.take_left' rfl, show (eCel c ++ ((rC l).flatten ++ tail)).drop 12 = (rC l).flatten ++ tail from List.drop_left' rfl, chunk_rC l tail]
theorem rC_len (l : List Cel) : (rC l).flatten.length = l.length * 12 := by
  rw [flat_lenA (sz := 12) (fun q hq => by obtain ⟨p, _, rfl⟩ := List.mem_map.1 hq; rfl)]
  simp
theorem apv_new {H : AHeap} {E sz bytes : Nat} {zero : List AV} {x : AV} {K : AV → AHeap → Prop} {xs : List (List AV)} (hx : rowsIn H sz x = some xs) (hne : xs ≠ []) (ha : allLen sz xs = true) (h1 : xs.length ≤ maxLen) (h2 : xs.length * bytes ≤ 140737488355328)
    (k : ∀ cap tail, xs.length ≤ cap → K (.arr H.next 0 xs.length cap) (H.alloc (.cells (xs.flatten ++ tail) E))) : ApvK H E sz bytes zero (.sl .full []) x K := by
  unfold ApvK
  rw [hx]
  exact ⟨⟨hne, ha, h1, h2⟩, fun cap hc _ => k cap _ hc⟩
set_option maxHeartbeats 1000000 in
theorem cloneV_sound (tok : Tok) (l : List Cel) (H : AHeap) (hl : l.length ≤ 1000000) (hne : l ≠ []) : Sound Try.prog 89 [.sl tok (rC l)] H fun r H' => ∃ cap tail, r = .arr H.next 0 l.length cap ∧ l.length ≤ cap ∧ H' = H.alloc (.cells ((rC l).flatten ++ tail) 43) := by
  refine fn_soundQ hEc vf89 (Nat.le_of_ble_eq_true rfl) fun Q hQr hQn => ?_
  obtain ⟨c, m, rfl⟩ : ∃ c m, l = c :: m := by
    cases l with
    | nil => exact absurd rfl hne
    | cons c m => exact ⟨c, m, rfl⟩
  ((have hd := trivial; repeat' (first | ((first | refine GdK_st (fun hd => ?_) (fun hd => ?_) | refine GdK_sf (fun hd => ?_) (fun hd => ?_) | refine CondK_s (fun hd => ?_) (fun hd => ?_)) <;> (try simp only [hd])) | simp (disch := first | assumption | omega | (simp only [nx] <;> omega) | fail) only [hd, hQr, hQn, v89_0, ↓YA, YB, YC, YE, YF, YZ, ↓reduceIte, Nat.reduceEqDiff, Nat.reduceAdd, Nat.reduceMul, Nat.reduceLeDiff, Int.reduceToNat, Int.reduceLE, Int.reduceLT, Int.reduceGT, Int.reduceGE, Int.reduceAdd, Int.reduceSub, Int.reduceNeg, Int.reduceBEq, Int.reduceBNe, YZw])) <;> (try (have hd_ : True := hd; clear hd_ hd)))
  have ha := allLen_rC (c :: m)
  have hm : (c :: m).length ≤ maxLen := by unfold maxLen; omega
  have hm2 : (c :: m).length * 96 ≤ 140737488355328 := by omega
  refine apv_new (xs := rC (c :: m)) rfl (by simp) ha (by simpa using hm) (by simpa using hm2) fun cap tail hcap => ?_
  rw [List.length_map] at hcap ⊢
  ((have hd := trivial; repeat' (first | ((first | refine GdK_st (fun hd => ?_) (fun hd => ?_) | refine GdK_sf (fun hd => ?_) (fun hd => ?_) | refine CondK_s (fun hd => ?_) (fun hd => ?_)) <;> (try simp only [hd])) | simp (disch := first | assumption | omega | (simp only [nx] <;> omega) | fail) only [hd, hQr, hQn, v89_0, ↓YA, YB, YC, YE, YF, YZ, ↓reduceIte, Nat.reduceEqDiff, Nat.reduceAdd, Nat.reduceMul, Nat.reduceLeDiff, Int.reduceToNat, Int.reduceLE, Int.reduceLT, Int.reduceGT, Int.reduceGE, Int.reduceAdd, Int.reduceSub, Int.reduceNeg, Int.reduceBEq, Int.reduceBNe])) <;> (try (have hd_ : True := hd; clear hd_ hd)))
  exact fin_keep ⟨cap, tail, rfl, hcap, rfl⟩
/-- lists that are written: object, room, cells -/
abbrev rA (ts : List (Nat × Nat × List Cel)) : List (List AV) := ts.map fun p => [.arr p.1 0 p.2.2.length p.2.1]
structure LsAt (base : Nat) (ts : List (Nat × Nat × List Cel)) (G : AHeap) : Prop where
  get : ∀ p ∈ ts, ∃ tail, G.get p.1 = some (.cells ((rC p.2.2).flatten ++ tail) 43)
  lo : ∀ p ∈ ts, base ≤ p.1
  nd : (ts.map (·.1)).Nodup
theorem LsAt.ext {base : Nat} {ts : List (Nat × Nat × List Cel)} {G G' : AHeap} (h : LsAt base ts G) (hx : AHeap.Ext G G') : LsAt base ts G' :=
  ⟨fun p hp => by obtain ⟨t, e⟩ := h.get p hp; exact ⟨t, hx.get _ _ e⟩, h.lo, h.nd⟩
theorem LsAt.lt {base : Nat} {ts : List (Nat × Nat × List Cel)} {G : AHeap} (h : LsAt base ts G) : ∀ p ∈ ts, p.1 < G.next := fun p hp => by
  obtain ⟨t, e⟩ := h.get p hp
  exact AHeap.lt e
theorem LsAt.keep {base : Nat} {ts : List (Nat × Nat × List Cel)} {G G' : AHeap} (h : LsAt base ts G) (hk : ∀ p ∈ ts, G'.get p.1 = G.get p.1) : LsAt base ts G' :=
  ⟨fun p hp => by obtain ⟨t, e⟩ := h.get p hp; exact ⟨t, by rw [hk p hp]; exact e⟩, h.lo, h.nd⟩
theorem LsAt.snoc {base : Nat} {ts : List (Nat × Nat × List Cel)} {G : AHeap} {id cap : Nat} {l : List Cel} {tail : List AV} (h : LsAt base ts G) (hg : G.get id = some (.cells ((rC l).flatten ++ tail) 43)) (hb : base ≤ id) (hn : ∀ p ∈ ts, p.1 ≠ id) : LsAt base (ts ++ [(id, cap, l)]) G :=
  ⟨fun p hp => by
    rcases List.mem_append.1 hp with hp | hp
    · exact h.get p hp
    · rw [List.mem_singleton] at hp; subst hp; exact ⟨tail, hg⟩, fun p hp => by
    rcases List.mem_append.1 hp with hp | hp
    · exact h.lo p hp
    · rw [List.mem_singleton] at hp; subst hp; exact hb, by
    rw [List.map_append, List.nodup_append]
    refine ⟨h.nd, by simp, fun a ha b hb => ?_⟩
    obtain ⟨p, hp, rfl⟩ := List.mem_map.1 ha
    simp at hb
    subst hb
    exact hn p hp⟩
def eNodA (t : Tok) (dim : Int) (ts : List (Nat × Nat × List Cel)) (all : Cel) : List AV := .i dim :: .sl t (rA ts) :: eCel all
structure CpV (H0 : AHeap) (id t j : Nat) (n : Nod) (ts : List (Nat × Nat × List Cel)) (s : AHeap) : Prop where
  ne : id ≠ t
  lo : H0.next ≤ id
  lo2 : H0.next ≤ t
  cell : s.get id = some (.cells (eNodA (.own t) n.dim ts n.all) 45)
  tok : s.get t = some (.tok j 83 1)
  ext : AHeap.Ext H0 s
  ls : LsAt H0.next ts s
  of : ts.map (·.2.2) = n.lists.take j
theorem allLen_rA (ts : List (Nat × Nat × List Cel)) : allLen 1 (rA ts) = true := allLen_map (f := fun p : Nat × Nat × List Cel => [AV.arr p.1 0 p.2.2.length p.2.1]) (fun _ => rfl) ts
/-- a node whose lists are its own -/
def NodA (n : Nod) (H : AHeap) (r : AV) (H' : AHeap) : Prop := AHeap.Ext H H' ∧ ∃ tk ts, r = .agg (eNodA tk n.dim ts n.all) ∧ LsAt H.next ts H' ∧ ts.map (·.2.2) = n.lists
theorem take_add_one' {α : Type} {l : List α} {k : Nat} (h : k < l.length) : l.take (k + 1) = l.take k ++ [l[k]] := by
  rw [List.take_add_one, List.getElem?_eq_getElem h]; rfl
set_option maxHeartbeats 4000000 in
theorem ncloneV_sound (t : Tok) (n : Nod) (H : AHeap) (hn : smallL n.lists) (hne : ∀ c ∈ n.lists, c ≠ []) : Sound Try.prog 66 [.agg (eNod t n)] H (NodA n H) := by
  obtain ⟨hn1, hn2⟩ := hn
  obtain ⟨dim, lists, all⟩ := n
  simp only at hn1 hn2 hne
  refine fn_soundQ hEc vf66 (Nat.le_of_ble_eq_true rfl) fun Q hQr hQn => ?_
  ((have hd := trivial; repeat' (first | ((first | refine GdK_st (fun hd => ?_) (fun hd => ?_) | refine GdK_sf (fun hd => ?_) (fun hd => ?_) | refine CondK_s (fun hd => ?_) (fun hd => ?_)) <;> (try simp only [hd])) | simp (disch := first | assumption | omega | (simp only [nx] <;> omega) | fail) only [hd, hQr, hQn, v66_0, ↓YA, YB, YC, YE, YF, YZ, ↓reduceIte, Nat.reduceEqDiff, Nat.reduceAdd, Nat.reduceMul, Nat.reduceLeDiff, Int.reduceToNat, Int.reduceLE, Int.reduceLT, Int.reduceGT, Int.reduceGE, Int.reduceAdd, Int.reduceSub, Int.reduceNeg, Int.reduceBEq, Int.reduceBNe, YZw])) <;> (try (have hd_ : True := hd; clear hd_ hd)))
  have hx0 := (AHeap.Ext.refl H).alloc (o := .cells (eNod t ⟨dim, lists, all⟩) 45)
  refine AW_let fun G hG => ?_
  have hGn : G.next = H.next + 3 := by rw [hG]; simp only [nx]
  have hg2 : G.get (H.next + 1 + 1) = some (.cells (eNodA .full dim [] all) 45) := by rw [hG]; exact AHeap.get_alloc_self (H := (H.alloc _).alloc _)
  have hg1 : ∃ Z : List AV, Z.length = 14 ∧ G.get (H.next + 1) = some (.cells Z 45) := by
    rw [hG, AHeap.get_alloc_ne (by simp only [nx]; omega)]
    exact ⟨_, rfl, AHeap.get_alloc_self (H := H.alloc _)⟩
  have hGe : AHeap.Ext H G := by rw [hG]; exact (AHeap.Ext.refl H).alloc.alloc.alloc
  obtain ⟨Z, hZ, hg1⟩ := hg1
  clear hG hx0
  unfold v66_1
  refine AW_forI (N := lists.length) (fun k F s => Fr.get F 14 = .i (k : Int) ∧ Fr.get F 13 = .i (lists.length : Int) ∧ Fr.get F 12 = .sl t (rL lists) ∧ Fr.get F 3 = .ptr (H.next + 1 + 1) 0 ∧ Fr.get F 2 = .ptr (H.next + 1) 0 ∧ (∃ ts, CpV H (H.next + 1 + 1) G.next k ⟨dim, lists, all⟩ ts s ∧ ∀ p ∈ ts, H.next + 3 ≤ p.1 ∧ p.1 ≠ G.next) ∧ s.get (H.next + 1) = some (.cells Z 45)) (by unfold maxLen; omega) (fun k F G h => ⟨h.1, h.2.1⟩)
    (F1 := [(14, .i ((0 : Nat) : Int)), (13, .i (lists.length : Int)), (12, .sl t (rL lists)), (3, .ptr (H.next + 1 + 1) 0), (2, .ptr (H.next + 1) 0)]) (H1 := (G.set (H.next + 1 + 1) (.cells (eNodA (.own G.next) dim [] all) 45)).alloc (.tok 0 83 1)) ?_ ?_ ?_ ?_
  · exact (GStep.fr (by simp [Fr.get])).trans (GStep.tokCell (H.next + 1 + 1) 1 45 83 1 hg2 rfl)
  · refine ⟨rfl, rfl, rfl, rfl, rfl, ⟨[], ⟨by omega, by omega, by omega, ?_, AHeap.get_alloc_self (H := G.set _ _), (hGe.set (by omega)).alloc, ⟨by simp, by simp, by simp⟩, rfl⟩, by simp⟩, ?_⟩
    · rw [AHeap.get_alloc_ne (by simp only [nx]; omega)]
      exact AHeap.get_set_self (by omega)
    · rw [AHeap.get_alloc_ne (by simp only [nx]; omega), AHeap.get_set_ne (by omega)]
      exact hg1
  · rintro k F s hk ⟨f14, f13, f12, f3, f2, ⟨ts, hinv, hids⟩, hs1⟩
    have hl1 := hn2 _ (List.getElem_mem hk)
    have hc := hinv.cell
    have ht := hinv.tok
    have hc1 := AHeap.lt hc
    have ht1 := AHeap.lt ht
    have hs1l := AHeap.lt hs1
    have hne1 := hinv.ne
    have hne' := Ne.symm hne1
    have hts : ts.length = k := by rw [← List.length_map (f := fun p : Nat × Nat × List Cel => p.2.2), hinv.of, List.length_take]; simp only; omega
    have hex := hinv.ext.next
    unfold eNodA at hc
    ((have hd := trivial; repeat' (first | ((first | refine GdK_st (fun hd => ?_) (fun hd => ?_) | refine GdK_sf (fun hd => ?_) (fun hd => ?_) | refine CondK_s (fun hd => ?_) (fun hd => ?_)) <;> (try simp only [hd])) | simp (disch := first | assumption | omega | (simp only [nx] <;> omega) | fail) only [hd, hQr, hQn, v66_0, ↓YA, YB, YC, YE, YF, YZ, ↓reduceIte, Nat.reduceEqDiff, Nat.reduceAdd, Nat.reduceMul, Nat.reduceLeDiff, Int.reduceToNat, Int.reduceLE, Int.reduceLT, Int.reduceGT, Int.reduceGE, Int.reduceAdd, Int.reduceSub, Int.reduceNeg, Int.reduceBEq, Int.reduceBNe, f14, f12, f3, f13, f2, hc])) <;> (try (have hd_ : True := hd; clear hd_ hd)))
    refine CallK.use (cloneV_sound .no lists[k] _ (by omega) (hne _ (List.getElem_mem hk))) ?_
    rintro r H' ⟨cap, tail, rfl, hcap, rfl⟩
    have ha1 := allLen_rA ts
    have hb1 : k + 1 ≤ maxLen := by unfold maxLen; omega
    have hb2 : (k + 1) * 24 ≤ 140737488355328 := by omega
    have ho1 : allLen 1 [[AV.arr s.next 0 lists[k].length cap]] = true := rfl
    ((have hd := trivial; repeat' (first | ((first | refine GdK_st (fun hd => ?_) (fun hd => ?_) | refine GdK_sf (fun hd => ?_) (fun hd => ?_) | refine CondK_s (fun hd => ?_) (fun hd => ?_)) <;> (try simp only [hd])) | simp (disch := first | assumption | omega | (simp only [nx] <;> omega) | fail) only [hd, hQr, hQn, v66_0, ↓YA, YB, YC, YE, YF, YZ, ↓reduceIte, Nat.reduceEqDiff, Nat.reduceAdd, Nat.reduceMul, Nat.reduceLeDiff, Int.reduceToNat, Int.reduceLE, Int.reduceLT, Int.reduceGT, Int.reduceGE, Int.reduceAdd, Int.reduceSub, Int.reduceNeg, Int.reduceBEq, Int.reduceBNe, f14, f12, f3, f13, f2, hc, ht, ha1, hb1, hb2, ho1, hts])) <;> (try (have hd_ : True := hd; clear hd_ hd)))
    have hsn : rA ts ++ [[AV.arr s.next 0 lists[k].length cap]] = rA (ts ++ [(s.next, cap, lists[k])]) := by simp
    have hlt := hinv.ls.lt
    refine ⟨⟨ts ++ [(s.next, cap, lists[k])], ⟨hinv.ne, hinv.lo, hinv.lo2, ?_, ?_, ((hinv.ext.alloc).set (by omega)).set (by omega), ?_, ?_⟩, ?_⟩, hs1⟩
    · rw [AHeap.get_set_self (by simp only [nx]; omega), hsn]; rfl
    · rw [AHeap.get_set_ne hne', AHeap.get_set_self (by simp only [nx]; omega)]
    · refine LsAt.snoc (tail := tail) (hinv.ls.keep fun p hp => ?_) ?_ (by omega) (fun p hp => by have := hlt p hp; omega)
      · have := hids p hp
        have := hlt p hp
        rw [AHeap.get_set_ne (by omega), AHeap.get_set_ne (by omega), AHeap.get_alloc_ne (by omega)]
      · rw [AHeap.get_set_ne (by omega), AHeap.get_set_ne (by omega)]; exact AHeap.get_alloc_self
    · rw [List.map_append, hinv.of, take_add_one' hk]; rfl
    · intro p hp
      rcases List.mem_append.1 hp with hp | hp
      · exact hids p hp
      · rw [List.mem_singleton] at hp; subst hp; exact ⟨by simp only; omega, by simp only; omega⟩
  · rintro F s ⟨f14, f13, f12, f3, f2, ⟨ts, hinv, hids⟩, hs1⟩
    have hc := hinv.cell
    have hc1 := AHeap.lt hc
    have hs1l := AHeap.lt hs1
    have hx := hinv.ext
    have hof := hinv.of
    simp only [List.take_length] at hof
    have hle : (eNodA (.own G.next) dim ts all).length = 14 := rfl
    have htk : (eNodA (.own G.next) dim ts all).take 14 = eNodA (.own G.next) dim ts all := rfl
    have hdz : Z.drop 14 = [] := by rw [List.drop_of_length_le (by omega)]
    have hlz : (14 : Nat) ≤ Z.length := by omega
    ((have hd := trivial; repeat' (first | ((first | refine GdK_st (fun hd => ?_) (fun hd => ?_) | refine GdK_sf (fun hd => ?_) (fun hd => ?_) | refine CondK_s (fun hd => ?_) (fun hd => ?_)) <;> (try simp only [hd])) | simp (disch := first | assumption | omega | (simp only [nx] <;> omega) | fail) only [hd, hQr, hQn, v66_0, ↓YA, YB, YC, YE, YF, YZ, ↓reduceIte, Nat.reduceEqDiff, Nat.reduceAdd, Nat.reduceMul, Nat.reduceLeDiff, Int.reduceToNat, Int.reduceLE, Int.reduceLT, Int.reduceGT, Int.reduceGE, Int.reduceAdd, Int.reduceSub, Int.reduceNeg, Int.reduceBEq, Int.reduceBNe, f3, f2, hc, hs1, hle, htk, hdz, hZ])) <;> (try (have hd_ : True := hd; clear hd_ hd)))
    exact fin_keep ⟨hx.set (by omega), .own G.next, ts, rfl, hinv.ls.keep fun p hp => by have := hids p hp; rw [AHeap.get_set_ne (by omega)], hof⟩
end Go.Proofs.Ytgnpihhakogeeaa

namespace Go.Proofs.Ytgnpihhakogeeaa
set_option linter.unusedSimpArgs false
set_option linter.unusedVariables false
open Go.RowKit

def mvM (M : List (Int × Int)) (c : Cel) : Cel := ⟨c.key, (aGet c.child M).getD 0, c.agg⟩
def mvMN (x : Shp) (M : List (Int × Int)) (n : Nod) : Nod := if lastB x n.dim = true then n else ⟨n.dim, n.lists.map fun l => l.map (mvM M), mvM M n.all⟩
/-- the map that a closure has -/
structure Look (pid mid : Nat) (M : List (Int × Int)) (H : AHeap) : Prop where
  p : H.get pid = some (.cells [.mp mid] 103)
  m : H.get mid = some (.map (.one (.int .i64)) (eMap kI AV.i M) false)
theorem Look.ext {pid mid : Nat} {M : List (Int × Int)} {H H' : AHeap} (h : Look pid mid M H) (hx : AHeap.Ext H H') : Look pid mid M H' := ⟨hx.get _ _ h.p, hx.get _ _ h.m⟩
theorem look_sound {pid mid : Nat} {M : List (Int × Int)} {H : AHeap} (h : Look pid mid M H) (c : Int) : Sound Try.prog 61 [.i c, .ptr pid 0] H (Pure H (.i ((aGet c M).getD 0))) := by
  have hp := h.p
  have hm := h.m
  refine fn_soundQ hE cf61 (Nat.le_of_ble_eq_true rfl) fun Q hQr hQn => ?_
  cases e : aGet c M with
  | none =>
    ((have hd := trivial; repeat' (first | ((first | refine GdK_st (fun hd => ?_) (fun hd => ?_) | refine GdK_sf (fun hd => ?_) (fun hd => ?_) | refine CondK_s (fun hd => ?_) (fun hd => ?_)) <;> (try simp only [hd])) | simp (disch := first | assumption | omega | (simp only [nx] <;> omega) | fail) only [hd, hQr, hQn, c61_0, ↓YA, YB, YC, YE, YF, YZ, ↓reduceIte, Nat.reduceEqDiff, Nat.reduceAdd, Nat.reduceMul, Nat.reduceLeDiff, Int.reduceToNat, Int.reduceLE, Int.reduceLT, Int.reduceGT, Int.reduceGE, Int.reduceAdd, Int.reduceSub, Int.reduceNeg, Int.reduceBEq, Int.reduceBNe, hp, hm, kI_of, mFind_map kI_eq, e, Option.map_none])) <;> (try (have hd_ : True := hd; clear hd_ hd)))
    exact fin_pure (by exact AXT) rfl
  | some v =>
    ((have hd := trivial; repeat' (first | ((first | refine GdK_st (fun hd => ?_) (fun hd => ?_) | refine GdK_sf (fun hd => ?_) (fun hd => ?_) | refine CondK_s (fun hd => ?_) (fun hd => ?_)) <;> (try simp only [hd])) | simp (disch := first | assumption | omega | (simp only [nx] <;> omega) | fail) only [hd, hQr, hQn, c61_0, ↓YA, YB, YC, YE, YF, YZ, ↓reduceIte, Nat.reduceEqDiff, Nat.reduceAdd, Nat.reduceMul, Nat.reduceLeDiff, Int.reduceToNat, Int.reduceLE, Int.reduceLT, Int.reduceGT, Int.reduceGE, Int.reduceAdd, Int.reduceSub, Int.reduceNeg, Int.reduceBEq, Int.reduceBNe, hp, hm, kI_of, mFind_map kI_eq, e])) <;> (try (have hd_ : True := hd; clear hd_ hd)))
    exact fin_pure (by exact AXT) rfl
theorem mv_list {f : Cel → Cel} {l : List Cel} {j : Nat} (h : j < l.length) : ∃ h2 : j < ((l.take j).map f ++ l.drop j).length, ((l.take j).map f ++ l.drop j)[j] = l[j] ∧ ((l.take j).map f ++ l.drop j).set j (f l[j]) = (l.take (j + 1)).map f ++ l.drop (j + 1) := by
  have h1 : ((l.take j).map f).length = j := by simp; omega
  refine ⟨by simp; omega, ?_, ?_⟩
  · rw [List.getElem_append_right (by omega), List.getElem_drop]
    congr 1
    omega
  · rw [List.set_append_right _ _ (by omega), h1, Nat.sub_self, List.drop_eq_getElem_cons h, List.set_cons_zero, take_map_snoc h]
    simp
/-- what a node with lists of its own is, when it is written no more -/
theorem frz_node {H : AHeap} {base : Nat} {tk : Tok} {dim : Int} {ts : List (Nat × Nat × List Cel)} {all : Cel} {D : Nat → Bool} (h : LsAt base ts H) (hD : ∀ p ∈ ts, D p.1 = true) : Frz H D (.agg (eNodA tk dim ts all)) (.agg (eNod .no ⟨dim, ts.map (·.2.2), all⟩)) := by
  refine .agg _ _ rfl (fun i x y hx hy => ?_)
  have e : eNod .no ⟨dim, ts.map (·.2.2), all⟩ = .i dim :: .sl .no (rL (ts.map (·.2.2))) :: eCel all := rfl
  rw [e] at hy
  unfold eNodA at hx
  match i with
  | 0 => simp at hx hy; subst hx hy; exact .refl _
  | 1 =>
    simp only [List.getElem?_cons_succ, List.getElem?_cons_zero, Option.some.injEq] at hx hy
    subst hx hy
    refine .sl _ _ _ (by simp) (fun i r r' h1 h2 => ?_) (fun i r r' j x y h1 h2 hx hy => ?_)
    · rw [List.getElem?_map] at h1 h2
      rw [List.getElem?_map] at h2
      cases hi : ts[i]? with
      | none => rw [hi] at h1; cases h1
      | some p => rw [hi] at h1 h2; simp at h1 h2; subst h1 h2; rfl
    · rw [List.getElem?_map] at h1 h2
      rw [List.getElem?_map] at h2
      cases hi : ts[i]? with
      | none => rw [hi] at h1; cases h1
      | some p =>
        rw [hi] at h1 h2
        simp only [Option.map_some, Option.some.injEq] at h1 h2
        subst h1 h2
        have hp := List.mem_of_getElem? hi
        cases j with
        | succ j => simp at hx
        | zero =>
          simp only [List.getElem?_cons_zero, Option.some.injEq] at hx hy
          subst hx hy
          obtain ⟨tail, hg⟩ := h.get p hp
          have hk := chunk_rC p.2.2 tail
          refine .arr p.1 0 12 p.2.2.length p.2.1 43 _ (rC p.2.2) (hD p hp) hg (by rw [List.length_append, rC_len]; omega) (by simp) (fun i r r' a b => ?_) (fun i r r' j x y a b c d => ?_)
          · rw [List.drop_zero, hk] at a; rw [a] at b; injection b with b; rw [b]
          · rw [List.drop_zero, hk] at a; rw [a] at b; injection b with b; subst b; rw [c] at d; injection d with d; subst d; exact .refl _
  | i + 2 => simp only [List.getElem?_cons_succ] at hx hy; rw [hx] at hy; injection hy with hy; subst hy; exact .refl _
/-- the end of a function whose result is such a node -/
theorem fin_node {H0 H : AHeap} {base : Nat} {tk : Tok} {dim : Int} {ts : List (Nat × Nat × List Cel)} {all : Cel} {n : Nod} (h : LsAt base ts H) (hb : H0.next ≤ base) (hx : AHeap.Ext H0 H) (hn : (⟨dim, ts.map (·.2.2), all⟩ : Nod) = n) : ∃ r2 H2, RStep (.agg (eNodA tk dim ts all)) H r2 H2 ∧ Pure H0 (.agg (eNod .no n)) r2 H2 := by
  subst hn
  refine fin_frz (frz_node (D := fun i => (ts.map (·.1)).contains i) h fun p hp => ?_) (fun i hi => ?_) hx
  · rw [List.contains_iff_mem]; exact List.mem_map.2 ⟨p, hp, rfl⟩
  · cases e : (ts.map (·.1)).contains i with
    | false => rfl
    | true =>
      rw [List.contains_iff_mem] at e
      obtain ⟨p, hp, rfl⟩ := List.mem_map.1 e
      have := h.lo p hp
      omega
/-- lists, of which the first are moved -/
structure MvLs (M : List (Int × Int)) (ts : List (Nat × Nat × List Cel)) (k : Nat) (G : AHeap) : Prop where
  get : ∀ i (h : i < ts.length), ∃ tail, G.get ts[i].1 = some (.cells ((rC (if i < k then ts[i].2.2.map (mvM M) else ts[i].2.2)).flatten ++ tail) 43)
set_option maxHeartbeats 8000000 in
theorem omove_sound {x : Shp} {M : List (Int × Int)} {pid mid : Nat} {H : AHeap} (tx t : Tok) (n : Nod) (hL : Look pid mid M H) (hn : smallL n.lists) (hne : ∀ c ∈ n.lists, c ≠ []) (hx : x.sizes.length ≤ 1000000) :
    Sound Try.prog 62 [.agg [.sl tx (rII x.sizes), .i x.measures], .agg (eNod t n), .fn 61 [] [.ptr pid 0]] H (Pure H (.agg (eNod .no (mvMN x M n)))) := by
  have hpl := AHeap.lt hL.p
  have hml := AHeap.lt hL.m
  refine fn_soundQ hEc vf62 (Nat.le_of_ble_eq_true rfl) fun Q hQr hQn => ?_
  ((have hd := trivial; repeat' (first | ((first | refine GdK_st (fun hd => ?_) (fun hd => ?_) | refine GdK_sf (fun hd => ?_) (fun hd => ?_) | refine CondK_s (fun hd => ?_) (fun hd => ?_)) <;> (try simp only [hd])) | simp (disch := first | assumption | omega | (simp only [nx] <;> omega) | fail) only [hd, hQr, hQn, v62_0, ↓YA, YB, YC, YE, YF, YZ, ↓reduceIte, Nat.reduceEqDiff, Nat.reduceAdd, Nat.reduceMul, Nat.reduceLeDiff, Int.reduceToNat, Int.reduceLE, Int.reduceLT, Int.reduceGT, Int.reduceGE, Int.reduceAdd, Int.reduceSub, Int.reduceNeg, Int.reduceBEq, Int.reduceBNe, YZw])) <;> (try (have hd_ : True := hd; clear hd_ hd)))
  have g3 : (((H.alloc (.cells [.sl tx (rII x.sizes), .i x.measures] 24)).alloc (.cells (eNod t n) 45)).alloc (.cells [.i 0, .sl .full [], .i 0, .i 0, .i 0, .i 0, .i 0, .i 0, .i 0, .i 0, .i 0, .i 0, .i 0, .i 0] 45)).get H.next = some (.cells [.sl tx (rII x.sizes), .i x.measures] 24) := by
    rw [AHeap.get_alloc_ne (by simp only [nx]; omega), AHeap.get_alloc_ne (by simp only [nx]; omega)]; exact AHeap.get_alloc_self
  have g4 : (((H.alloc (.cells [.sl tx (rII x.sizes), .i x.measures] 24)).alloc (.cells (eNod t n) 45)).alloc (.cells [.i 0, .sl .full [], .i 0, .i 0, .i 0, .i 0, .i 0, .i 0, .i 0, .i 0, .i 0, .i 0, .i 0, .i 0] 45)).get (H.next + 1) = some (.cells (eNod t n) 45) := by
    rw [AHeap.get_alloc_ne (by simp only [nx]; omega)]; exact AHeap.get_alloc_self (H := H.alloc _)
  have g6 : (((H.alloc (.cells [.sl tx (rII x.sizes), .i x.measures] 24)).alloc (.cells (eNod t n) 45)).alloc (.cells [.i 0, .sl .full [], .i 0, .i 0, .i 0, .i 0, .i 0, .i 0, .i 0, .i 0, .i 0, .i 0, .i 0, .i 0] 45)).get (H.next + 1 + 1) = some (.cells [.i 0, .sl .full [], .i 0, .i 0, .i 0, .i 0, .i 0, .i 0, .i 0, .i 0, .i 0, .i 0, .i 0, .i 0] 45) := AHeap.get_alloc_self (H := (H.alloc _).alloc _)
  have hx0 : AHeap.Ext H (((H.alloc (.cells [.sl tx (rII x.sizes), .i x.measures] 24)).alloc (.cells (eNod t n) 45)).alloc (.cells [.i 0, .sl .full [], .i 0, .i 0, .i 0, .i 0, .i 0, .i 0, .i 0, .i 0, .i 0, .i 0, .i 0, .i 0] 45)) := by exact AXT
  have hn0 : (((H.alloc (.cells [.sl tx (rII x.sizes), .i x.measures] 24)).alloc (.cells (eNod t n) 45)).alloc (.cells [.i 0, .sl .full [], .i 0, .i 0, .i 0, .i 0, .i 0, .i 0, .i 0, .i 0, .i 0, .i 0, .i 0, .i 0] 45)).next = H.next + 3 := by simp only [nx]
  generalize ((H.alloc (.cells [.sl tx (rII x.sizes), .i x.measures] 24)).alloc (.cells (eNod t n) 45)).alloc (.cells [.i 0, .sl .full [], .i 0, .i 0, .i 0, .i 0, .i 0, .i 0, .i 0, .i 0, .i 0, .i 0, .i 0, .i 0] 45) = G0 at *
  generalize hZ : [AV.i 0, AV.sl .full [], .i 0, .i 0, .i 0, .i 0, .i 0, .i 0, .i 0, .i 0, .i 0, .i 0, .i 0, .i 0] = Z at g6
  have hZl : Z.length = 14 := by rw [← hZ]; rfl
  have hdz : Z.drop 14 = [] := by rw [← hZ]; rfl
  clear hZ
  refine CallK.use (ncloneV_sound t n _ hn hne) ?_
  rintro r G1 ⟨hx1, tk, ts, rfl, hts, hof⟩
  rw [hn0] at hts
  have g3 := hx1.get _ _ g3
  have g4 := hx1.get _ _ g4
  have g6 := hx1.get _ _ g6
  have l3 := AHeap.lt g3
  have l4 := AHeap.lt g4
  have l6 := AHeap.lt g6
  have hle : (eNodA tk n.dim ts n.all).length = 14 := rfl
  have htk : (eNodA tk n.dim ts n.all).take 14 = eNodA tk n.dim ts n.all := rfl
  have hi0 : (eNodA tk n.dim ts n.all)[1]? = some (.sl tk (rA ts)) := rfl
  ((have hd := trivial; repeat' (first | ((first | refine GdK_st (fun hd => ?_) (fun hd => ?_) | refine GdK_sf (fun hd => ?_) (fun hd => ?_) | refine CondK_s (fun hd => ?_) (fun hd => ?_)) <;> (try simp only [hd])) | simp (disch := first | assumption | omega | (simp only [nx] <;> omega) | fail) only [hd, hQr, hQn, v62_0, ↓YA, YB, YC, YE, YF, YZ, ↓reduceIte, Nat.reduceEqDiff, Nat.reduceAdd, Nat.reduceMul, Nat.reduceLeDiff, Int.reduceToNat, Int.reduceLE, Int.reduceLT, Int.reduceGT, Int.reduceGE, Int.reduceAdd, Int.reduceSub, Int.reduceNeg, Int.reduceBEq, Int.reduceBNe, YZw, hle, g3, g4, hZl, hdz])) <;> (try (have hd_ : True := hd; clear hd_ hd)))
  have hxG : AHeap.Ext H (G1.alloc (.cells (eNodA tk n.dim ts n.all) 45)) := (hx0.trans hx1).alloc
  have g7 : (G1.alloc (.cells (eNodA tk n.dim ts n.all) 45)).get G1.next = some (.cells (eNodA tk n.dim ts n.all) 45) := AHeap.get_alloc_self
  have g3 : (G1.alloc (.cells (eNodA tk n.dim ts n.all) 45)).get _ = _ := ((AHeap.Ext.refl G1).alloc).get _ _ g3
  have g6 : (G1.alloc (.cells (eNodA tk n.dim ts n.all) 45)).get _ = _ := ((AHeap.Ext.refl G1).alloc).get _ _ g6
  have hts := hts.ext ((AHeap.Ext.refl G1).alloc (o := .cells (eNodA tk n.dim ts n.all) 45))
  have htl := hts.lt
  have hn1 : (G1.alloc (.cells (eNodA tk n.dim ts n.all) 45)).next = G1.next + 1 := rfl
  have hts7 : ∀ p ∈ ts, p.1 ≠ G1.next := fun p hp e => by
    obtain ⟨tail, h⟩ := hts.get p hp
    rw [e, g7] at h
    simp at h
  generalize G1.alloc (.cells (eNodA tk n.dim ts n.all) 45) = G2 at *
  (refine CallK.use (last_sound tx x n.dim _ hx) ?_; rintro _ _ ⟨rfl, k1, rfl⟩)
  have hb := bfd (lastB x n.dim)
  rcases hb with hb | hb
  · have hM : mvMN x M n = ⟨n.dim, n.lists.map fun l => l.map (mvM M), mvM M n.all⟩ := by unfold mvMN; rw [hb]; rfl
    rw [hM] at hQr hQn
    ((have hd := trivial; repeat' (first | ((first | refine GdK_st (fun hd => ?_) (fun hd => ?_) | refine GdK_sf (fun hd => ?_) (fun hd => ?_) | refine CondK_s (fun hd => ?_) (fun hd => ?_)) <;> (try simp only [hd])) | simp (disch := first | assumption | omega | (simp only [nx] <;> omega) | fail) only [hd, hQr, hQn, v62_0, ↓YA, YB, YC, YE, YF, YZ, ↓reduceIte, Nat.reduceEqDiff, Nat.reduceAdd, Nat.reduceMul, Nat.reduceLeDiff, Int.reduceToNat, Int.reduceLE, Int.reduceLT, Int.reduceGT, Int.reduceGE, Int.reduceAdd, Int.reduceSub, Int.reduceNeg, Int.reduceBEq, Int.reduceBNe, hb, g7, hi0])) <;> (try (have hd_ : True := hd; clear hd_ hd)))
    have hx3 : AHeap.Ext H (G2.bump k1) := hxG.bump
    have hL3 := hL.ext hx3
    have g7 : (G2.bump k1).get G1.next = _ := g7
    have g6 : (G2.bump k1).get (H.next + 1 + 1) = _ := g6
    have hts : LsAt (H.next + 3) ts (G2.bump k1) := hts.keep fun _ _ => rfl
    have htl : ∀ p ∈ ts, p.1 < (G2.bump k1).next := hts.lt
    generalize G2.bump k1 = G3 at *
    have hnd := hts.nd
    have htsl : ts.length = n.lists.length := by rw [← hof, List.length_map]
    have hts_len : ts.length ≤ maxLen := by have := hn.1; unfold maxLen; omega
    have hnl : ∀ p ∈ ts, p.2.2.length ≤ 1000000 := fun p hp => hn.2 _ (by rw [← hof]; exact List.mem_map.2 ⟨p, hp, rfl⟩)
    have hdis : ∀ i k (hi : i < ts.length) (hk : k < ts.length), i ≠ k → ts[i].1 ≠ ts[k].1 := fun i k hi hk hne e => by
      have hh := List.pairwise_iff_getElem.1 hnd
      rcases Nat.lt_or_gt_of_ne hne with h | h
      · exact hh i k (by simpa using hi) (by simpa using hk) h (by simpa using e)
      · exact hh k i (by simpa using hk) (by simpa using hi) h (by simpa using e.symm)
    refine AW_forI (N := ts.length) (fun k F S => Fr.get F 21 = .i (k : Int) ∧ Fr.get F 20 = .i (ts.length : Int) ∧ Fr.get F 19 = .sl tk (rA ts) ∧ Fr.get F 2 = .fn 61 [] [.ptr pid 0] ∧ Fr.get F 6 = .ptr (H.next + 1 + 1) 0 ∧ Fr.get F 7 = .ptr G1.next 0 ∧
      AHeap.Ext H S ∧ S.get G1.next = some (.cells (eNodA tk n.dim ts n.all) 45) ∧ S.get (H.next + 1 + 1) = some (.cells Z 45) ∧ MvLs M ts k S) hts_len (fun k F G h => ⟨h.1, h.2.1⟩) (GStep.refl _ _) ⟨rfl, by simp only [Fr.get, ↓reduceIte, Nat.reduceEqDiff], rfl, rfl, rfl, rfl, hx3, g7, g6, ⟨fun i hi => ?_⟩⟩ ?_ ?_
    · rw [if_neg (by omega)]
      exact hts.get _ (List.getElem_mem hi)
    · rintro k F S hk ⟨f21, f20, f19, f2, f6, f7, hxS, s7, s6, hS⟩
      have hp := List.getElem_mem hk
      have hlo := hts.lo _ hp
      have hne7 := hts7 _ hp
      obtain ⟨tail, hg⟩ := hS.get k hk
      rw [if_neg (by omega)] at hg
      have hll := hnl _ hp
      have hrk : (rA ts)[k]? = some [.arr ts[k].1 0 ts[k].2.2.length ts[k].2.1] := by simp [hk]
      have hlS := AHeap.lt hg
      have ls7 := AHeap.lt s7
      have ls6 := AHeap.lt s6
      ((have hd := trivial; repeat' (first | ((first | refine GdK_st (fun hd => ?_) (fun hd => ?_) | refine GdK_sf (fun hd => ?_) (fun hd => ?_) | refine CondK_s (fun hd => ?_) (fun hd => ?_)) <;> (try simp only [hd])) | simp (disch := first | assumption | omega | (simp only [nx] <;> omega) | fail) only [hd, hQr, hQn, v62_0, ↓YA, YB, YC, YE, YF, YZ, ↓reduceIte, Nat.reduceEqDiff, Nat.reduceAdd, Nat.reduceMul, Nat.reduceLeDiff, Int.reduceToNat, Int.reduceLE, Int.reduceLT, Int.reduceGT, Int.reduceGE, Int.reduceAdd, Int.reduceSub, Int.reduceNeg, Int.reduceBEq, Int.reduceBNe, f21, f20, f19, f2, f6, f7, hrk])) <;> (try (have hd_ : True := hd; clear hd_ hd)))
      generalize hid : ts[k].1 = id at *
      generalize hl : ts[k].2.2 = l at *
      generalize ts[k].2.1 = cap at *
      refine AW_forI (N := l.length) (fun j F S2 => Fr.get F 27 = .i (j : Int) ∧ Fr.get F 26 = .i (l.length : Int) ∧ Fr.get F 9 = .arr id 0 l.length cap ∧ Fr.get F 21 = .i (k : Int) ∧ Fr.get F 20 = .i (ts.length : Int) ∧ Fr.get F 19 = .sl tk (rA ts) ∧ Fr.get F 2 = .fn 61 [] [.ptr pid 0] ∧ Fr.get F 6 = .ptr (H.next + 1 + 1) 0 ∧ Fr.get F 7 = .ptr G1.next 0 ∧
        ExtB id S S2 ∧ S2.get id = some (.cells ((rC ((l.take j).map (mvM M) ++ l.drop j)).flatten ++ tail) 43)) (by unfold maxLen; omega) (fun k F G h => ⟨h.1, h.2.1⟩) (GStep.refl _ _) ⟨rfl, rfl, rfl, by simp only [Fr.get, ↓reduceIte, Nat.reduceEqDiff]; exact f21, by simp only [Fr.get, ↓reduceIte, Nat.reduceEqDiff]; exact f20, by simp only [Fr.get, ↓reduceIte, Nat.reduceEqDiff]; exact f19, by simp only [Fr.get, ↓reduceIte, Nat.reduceEqDiff]; exact f2, by simp only [Fr.get, ↓reduceIte, Nat.reduceEqDiff]; exact f6, by simp only [Fr.get, ↓reduceIte, Nat.reduceEqDiff]; exact f7, ExtB.refl _ _, by simpa using hg⟩ ?_ ?_
      · rintro j F S2 hj ⟨f27, f26, f9, f21, f20, f19, f2, f6, f7, hB, hg2⟩
        obtain ⟨h2, h3, h4⟩ := mv_list (f := mvM M) hj
        generalize hLj : (l.take j).map (mvM M) ++ l.drop j = L at *
        have hLl : L.length = l.length := by rw [← hLj]; simp; omega
        have c1 := rC_at (tail := tail) h2 (show 1 < 12 by omega)
        have c2 := rC_put (tail := tail) h2 ((aGet l[j].child M).getD 0)
        rw [h3] at c1 c2
        have hmv : (⟨l[j].key, (aGet l[j].child M).getD 0, l[j].agg⟩ : Cel) = mvM M l[j] := rfl
        rw [hmv, h4] at c2
        have c1 : ((rC L).flatten ++ tail)[j * 12 + 1]? = some (.i l[j].child) := c1
        have hcl : j * 12 + 1 + 1 ≤ ((rC L).flatten ++ tail).length := by rw [List.length_append, rC_len]; omega
        have hLk : Look pid mid M S2 := by
          have := hL.ext hxS
          exact ⟨hB.get _ _ (by omega) this.p, hB.get _ _ (by omega) this.m⟩
        generalize (rC L).flatten ++ tail = C at *
        have hj2 : (0 : Int) ≤ (j : Int) ∧ (j : Int) < (l.length : Int) := by omega
        ((have hd := trivial; repeat' (first | ((first | refine GdK_st (fun hd => ?_) (fun hd => ?_) | refine GdK_sf (fun hd => ?_) (fun hd => ?_) | refine CondK_s (fun hd => ?_) (fun hd => ?_)) <;> (try simp only [hd])) | simp (disch := first | assumption | omega | (simp only [nx] <;> omega) | fail) only [hd, hQr, hQn, v62_0, ↓YA, YB, YC, YE, YF, YZ, ↓reduceIte, Nat.reduceEqDiff, Nat.reduceAdd, Nat.reduceMul, Nat.reduceLeDiff, Int.reduceToNat, Int.reduceLE, Int.reduceLT, Int.reduceGT, Int.reduceGE, Int.reduceAdd, Int.reduceSub, Int.reduceNeg, Int.reduceBEq, Int.reduceBNe, f27, f26, f9, f21, f20, f19, f2, f6, f7, hg2, c1, hj2])) <;> (try (have hd_ : True := hd; clear hd_ hd)))
        (refine CallK.use (look_sound hLk l[j].child) ?_; rintro _ _ ⟨rfl, k2, rfl⟩)
        ((have hd := trivial; repeat' (first | ((first | refine GdK_st (fun hd => ?_) (fun hd => ?_) | refine GdK_sf (fun hd => ?_) (fun hd => ?_) | refine CondK_s (fun hd => ?_) (fun hd => ?_)) <;> (try simp only [hd])) | simp (disch := first | assumption | omega | (simp only [nx] <;> omega) | fail) only [hd, hQr, hQn, v62_0, ↓YA, YB, YC, YE, YF, YZ, ↓reduceIte, Nat.reduceEqDiff, Nat.reduceAdd, Nat.reduceMul, Nat.reduceLeDiff, Int.reduceToNat, Int.reduceLE, Int.reduceLT, Int.reduceGT, Int.reduceGE, Int.reduceAdd, Int.reduceSub, Int.reduceNeg, Int.reduceBEq, Int.reduceBNe, f27, f26, f9, f21, f20, f19, f2, f6, f7, hg2, c1, hj2, hcl])) <;> (try (have hd_ : True := hd; clear hd_ hd)))
        have hl2 := AHeap.lt hg2
        refine ⟨(hB.bump).set, ?_⟩
        rw [AHeap.get_set_self (by simp only [nx]; omega)]
        rw [← c2]
      · rintro F S2 ⟨f27, f26, f9, f21, f20, f19, f2, f6, f7, hB, hg2⟩
        ((have hd := trivial; repeat' (first | ((first | refine GdK_st (fun hd => ?_) (fun hd => ?_) | refine GdK_sf (fun hd => ?_) (fun hd => ?_) | refine CondK_s (fun hd => ?_) (fun hd => ?_)) <;> (try simp only [hd])) | simp (disch := first | assumption | omega | (simp only [nx] <;> omega) | fail) only [hd, hQr, hQn, v62_0, ↓YA, YB, YC, YE, YF, YZ, ↓reduceIte, Nat.reduceEqDiff, Nat.reduceAdd, Nat.reduceMul, Nat.reduceLeDiff, Int.reduceToNat, Int.reduceLE, Int.reduceLT, Int.reduceGT, Int.reduceGE, Int.reduceAdd, Int.reduceSub, Int.reduceNeg, Int.reduceBEq, Int.reduceBNe, f27, f26, f9, f21, f20, f19, f2, f6, f7])) <;> (try (have hd_ : True := hd; clear hd_ hd)))
        refine ⟨⟨Nat.le_trans hxS.next hB.next, fun i o e => hB.get i o (by have := AHeap.lt e; omega) (hxS.get i o e)⟩, hB.get _ _ (Ne.symm hne7) s7, hB.get _ _ (by omega) s6, ⟨fun i hi => ?_⟩⟩
        by_cases hik : i = k
        · subst hik
          rw [if_pos (by omega), hid, hl]
          rw [List.take_length, List.drop_length, List.append_nil] at hg2
          exact ⟨tail, hg2⟩
        · obtain ⟨tail2, h2⟩ := hS.get i hi
          refine ⟨tail2, ?_⟩
          have := hdis i k hi hk hik
          rw [hid] at this
          rw [hB.get _ _ this h2]
          by_cases hlt : i < k
          · rw [if_pos hlt, if_pos (by omega)]
          · rw [if_neg hlt, if_neg (by omega)]
    · rintro F S ⟨f21, f20, f19, f2, f6, f7, hxS, s7, s6, hS⟩
      have hi3 : (eNodA tk n.dim ts n.all)[3]? = some (.i n.all.child) := rfl
      have hput : ∀ v, (eNodA tk n.dim ts n.all).take 3 ++ [AV.i v] ++ (eNodA tk n.dim ts n.all).drop 4 = eNodA tk n.dim ts ⟨n.all.key, v, n.all.agg⟩ := fun v => rfl
      have ls7 := AHeap.lt s7
      have ls6 := AHeap.lt s6
      have l34 : 3 + 1 ≤ 14 := by omega
      have hle2 : ∀ a, (eNodA tk n.dim ts a).length = 14 := fun _ => rfl
      have htk2 : ∀ a, (eNodA tk n.dim ts a).take 14 = eNodA tk n.dim ts a := fun _ => rfl
      ((have hd := trivial; repeat' (first | ((first | refine GdK_st (fun hd => ?_) (fun hd => ?_) | refine GdK_sf (fun hd => ?_) (fun hd => ?_) | refine CondK_s (fun hd => ?_) (fun hd => ?_)) <;> (try simp only [hd])) | simp (disch := first | assumption | omega | (simp only [nx] <;> omega) | fail) only [hd, hQr, hQn, v62_0, ↓YA, YB, YC, YE, YF, YZ, ↓reduceIte, Nat.reduceEqDiff, Nat.reduceAdd, Nat.reduceMul, Nat.reduceLeDiff, Int.reduceToNat, Int.reduceLE, Int.reduceLT, Int.reduceGT, Int.reduceGE, Int.reduceAdd, Int.reduceSub, Int.reduceNeg, Int.reduceBEq, Int.reduceBNe, f21, f20, f19, f2, f6, f7, s7, hi3])) <;> (try (have hd_ : True := hd; clear hd_ hd)))
      (refine CallK.use (look_sound (hL.ext hxS) n.all.child) ?_; rintro _ _ ⟨rfl, k2, rfl⟩)
      have h67 : H.next + 1 + 1 ≠ G1.next := by omega
      ((have hd := trivial; repeat' (first | ((first | refine GdK_st (fun hd => ?_) (fun hd => ?_) | refine GdK_sf (fun hd => ?_) (fun hd => ?_) | refine CondK_s (fun hd => ?_) (fun hd => ?_)) <;> (try simp only [hd])) | simp (disch := first | assumption | omega | (simp only [nx] <;> omega) | fail) only [hd, hQr, hQn, v62_0, ↓YA, YB, YC, YE, YF, YZ, ↓reduceIte, Nat.reduceEqDiff, Nat.reduceAdd, Nat.reduceMul, Nat.reduceLeDiff, Int.reduceToNat, Int.reduceLE, Int.reduceLT, Int.reduceGT, Int.reduceGE, Int.reduceAdd, Int.reduceSub, Int.reduceNeg, Int.reduceBEq, Int.reduceBNe, f21, f20, f19, f2, f6, f7, s7, hi3, hle, hput, l34, hle2, htk2, s6, hZl, hdz])) <;> (try (have hd_ : True := hd; clear hd_ hd)))
      have hrA : ∀ a, eNodA tk n.dim ts a = eNodA tk n.dim (ts.map fun p => (p.1, p.2.1, p.2.2.map (mvM M))) a := fun a => by
        unfold eNodA
        congr 3
        simp only [List.map_map]
        exact List.map_congr_left fun p _ => by simp
      rw [hrA]
      refine fin_node (base := H.next + 3) ⟨fun p hp => ?_, fun p hp => ?_, ?_⟩ (by omega) (((hxS.bump).set (by omega)).set (by omega)) ?_
      · obtain ⟨q, hq, rfl⟩ := List.mem_map.1 hp
        obtain ⟨i, hi, rfl⟩ := List.getElem_of_mem hq
        obtain ⟨tail, h⟩ := hS.get i hi
        rw [if_pos hi] at h
        have hlo := hts.lo _ (List.getElem_mem hi)
        have hne7 := hts7 _ (List.getElem_mem hi)
        exact ⟨tail, by rw [AHeap.get_set_ne (by simp only; omega), AHeap.get_set_ne hne7]; exact h⟩
      · obtain ⟨q, hq, rfl⟩ := List.mem_map.1 hp
        exact hts.lo q hq
      · simpa [List.map_map, Function.comp_def] using hnd
      · rw [← hof]
        simp [mvM, Function.comp_def]
  · have hM : mvMN x M n = n := by unfold mvMN; rw [hb]; rfl
    rw [hM] at hQr hQn
    ((have hd := trivial; repeat' (first | ((first | refine GdK_st (fun hd => ?_) (fun hd => ?_) | refine GdK_sf (fun hd => ?_) (fun hd => ?_) | refine CondK_s (fun hd => ?_) (fun hd => ?_)) <;> (try simp only [hd])) | simp (disch := first | assumption | omega | (simp only [nx] <;> omega) | fail) only [hd, hQr, hQn, v62_0, ↓YA, YB, YC, YE, YF, YZ, ↓reduceIte, Nat.reduceEqDiff, Nat.reduceAdd, Nat.reduceMul, Nat.reduceLeDiff, Int.reduceToNat, Int.reduceLE, Int.reduceLT, Int.reduceGT, Int.reduceGE, Int.reduceAdd, Int.reduceSub, Int.reduceNeg, Int.reduceBEq, Int.reduceBNe, hb, g7, g6, hle, htk, hZl, hdz])) <;> (try (have hd_ : True := hd; clear hd_ hd)))
    exact fin_node (base := H.next + 3) ((hts.keep fun _ _ => rfl : LsAt (H.next + 3) ts (G2.bump k1)).keep fun p hp => by have := hts.lo p hp; rw [AHeap.get_set_ne (by omega)]) (by omega) ((hxG.bump).set (by omega)) (by rw [hof])
end Go.Proofs.Ytgnpihhakogeeaa

namespace Go.Proofs.Ytgnpihhakogeeaa
set_option linter.unusedSimpArgs false
set_option linter.unusedVariables false
open Go.RowKit

def plM (r : List Int) : Nat → List (Int × Int)
  | 0 => []
  | k + 1 => aSet (r.getD k 0) (k : Int) (plM r k)
theorem plM_get {n : Nat} {r : List Int} (hp : Plc n r) : ∀ k, k ≤ r.length → ∀ j (hj : j < k) (hr : j < r.length), aGet r[j] (plM r k) = some (j : Int)
  | 0, _, j, hj, _ => by omega
  | k + 1, hk, j, hj, hr => by
    have hkr : k < r.length := by omega
    have hgd : r.getD k 0 = r[k] := by rw [List.getD_eq_getElem?_getD, List.getElem?_eq_getElem hkr]; rfl
    rw [show plM r (k + 1) = aSet (r.getD k 0) (k : Int) (plM r k) from rfl, hgd, aGet_set]
    rcases Nat.lt_or_ge j k with h | h
    · have hne : r[j] ≠ r[k] := List.pairwise_iff_getElem.1 hp.nodup j k hr hkr h
      rw [if_neg hne]
      exact plM_get hp k (by omega) j h hr
    · obtain rfl : j = k := by omega
      rw [if_pos rfl]
theorem cel_ext {a b : Cel} (h1 : a.key = b.key) (h2 : a.child = b.child) (h3 : a.agg = b.agg) : a = b := by
  cases a; cases b; simp at h1 h2 h3; simp [h1, h2, h3]
theorem mv_same {x : Shp} {l : List Nod} {r ps : List Int} (h : Ord x l r ps) {i : Nat} (hi : i < r.length) : mvMN x (plM r (i + 1)) (nodAt l r[i]) = mvN x ps (nodAt l r[i]) := by
  have hb := bfd (lastB x (nodAt l r[i]).dim)
  rcases hb with hb | hb
  · have hc : ∀ c ∈ each (nodAt l r[i]), mvM (plM r (i + 1)) c = mvC true ps c := fun c hc => by
      obtain ⟨j, hj, hji, a, b⟩ := h.child hi hb hc
      refine cel_ext (by rw [mvC_key]; rfl) ?_ (by rw [mvC_agg]; rfl)
      rw [b]
      show (aGet c.child (plM r (i + 1))).getD 0 = _
      rw [a, plM_get h.plc (i + 1) (by omega) j (by omega) hj]
      rfl
    unfold mvMN mvN
    rw [hb]
    simp only [Bool.false_eq_true, if_false, Bool.not_false]
    rw [hc _ (by unfold each; simp)]
    congr 1
    refine List.map_congr_left fun c hcl => ?_
    unfold mvL
    exact List.map_congr_left fun d hd => hc d (by unfold each; exact List.mem_append_left _ (List.mem_flatten.2 ⟨c, hcl, hd⟩))
  · unfold mvMN mvN
    rw [hb]
    simp only [if_true, Bool.not_true]
    generalize nodAt l r[i] = n
    obtain ⟨d, ls, al⟩ := n
    simp only [mvC_false]
    congr 1
    unfold mvL
    rw [show mvC false ps = id from funext fun c => mvC_false ps c]
    simp
/-- what stands in order -/
def incB (r : List Int) : Bool := decide (r = (List.range r.length).map fun i : Nat => (i : Int))
theorem listsErr_ne {x : Shp} {dim : Int} : ∀ (ls : List (List Cel)) (p : Option Nat) (s : List Int), ls.length = s.length → listsErr x dim p s ls = 0 → ∀ c ∈ ls, c ≠ []
  | [], _, _, _, _ => by simp
  | l :: ls, p, [], h, _ => by simp at h
  | l :: ls, p, s :: ss, h, he => by
    have he : (if listErr0 x dim s l ≠ 0 then listErr0 x dim s l else if overN p l.length = true then 14 else listsErr x dim (some l.length) ss ls) = 0 := by
      cases p <;> exact he
    split at he
    · rename_i h1; exact absurd he h1
    · rename_i h1
      split at he
      · cases he
      · intro c hc
        rcases List.mem_cons.1 hc with rfl | hc
        · rintro rfl
          exact h1 (by unfold listErr0; simp)
        · exact listsErr_ne ls _ ss (by simpa using h) he c hc
theorem lists_ne {x : Shp} {n : Nod} (h : checkErr x n = 0) : ∀ c ∈ n.lists, c ≠ [] := by
  unfold checkErr at h
  simp only at h
  split at h
  · cases h
  · split at h
    · cases h
    · rename_i h1
      split at h
      · rename_i h2; exact absurd h h2
      · rename_i h2
        have h2' : listsErr x n.dim none (x.sizes.getD n.dim.toNat []) n.lists = 0 := by simpa using h2
        exact listsErr_ne n.lists none _ (by omega) h2'
end Go.Proofs.Ytgnpihhakogeeaa

namespace Go.Proofs.Ytgnpihhakogeeaa
set_option linter.unusedSimpArgs false
set_option linter.unusedVariables false
open Go.RowKit

/-- arguments of which more is known -/
theorem Sound.wknA {P : Program} {f : FuncId} {xs bs : List AV} {H : AHeap} {R : AV → AHeap → Prop} (h : Sound P f bs H R) (hl : xs.length = bs.length) (hw : ∀ (i : Nat) x y, xs[i]? = some x → bs[i]? = some y → Wkn x y) : Sound P f xs H R :=
  ⟨h.1, fun g w vs hW hV => h.2 g w vs hW ⟨by rw [← hl]; exact hV.1, fun i y u hy hu => by
    obtain ⟨x, hx⟩ := get_of_len hl hy
    exact (hV.2 i x u hx hu).wkn (hw i x y hx hy)⟩⟩
theorem wkn_tok (t : Tok) (rows : List (List AV)) : Wkn (.sl t rows) (.sl .no rows) :=
  .sl _ _ _ rfl (fun i r r' h h' => by rw [h] at h'; injection h' with h'; rw [h']) (fun i r r' j x y h h' hx hy => by rw [h] at h'; injection h' with h'; subst h'; rw [hx] at hy; injection hy with hy; subst hy; exact .refl _)
theorem load_sound' (t lt : Tok) (x : Shp) (l : List Nod) (H : AHeap) (hl : l.length ≤ 200000) (hn : ∀ n ∈ l, smallN n) : Sound Try.prog 14 [.agg [.sl t (rII x.sizes), .i x.measures], .sl lt (rN l)] H (LoadQ x l H) := by
  refine Sound.wknA (load_sound lt x l H hl hn) rfl fun i a b ha hb => ?_
  match i with
  | 0 =>
    simp only [List.getElem?_cons_zero, Option.some.injEq] at ha hb
    subst ha hb
    refine .agg _ _ rfl fun j p q hp hq => ?_
    have hq : ([.sl .no (rII x.sizes), .i x.measures] : List AV)[j]? = some q := hq
    match j with
    | 0 => simp at hp hq; subst hp hq; exact wkn_tok _ _
    | 1 => simp at hp hq; subst hp hq; exact .refl _
    | j + 2 => simp at hp
  | 1 => simp at ha hb; subst ha hb; exact .refl _
  | i + 2 => simp at ha
theorem incB_iff {r : List Int} : incB r = true ↔ ∀ i (h : i < r.length), r[i] = (i : Int) := by
  unfold incB
  rw [decide_eq_true_iff]
  constructor
  · intro h i hi
    have : r[i]? = ((List.range r.length).map fun i : Nat => (i : Int))[i]? := by rw [← h]
    rw [List.getElem?_eq_getElem hi] at this
    simpa [hi] using this
  · intro h
    refine List.ext_getElem (by simp) fun i h1 h2 => ?_
    rw [h i h1]; simp
theorem incB_false {r : List Int} {i : Nat} (h : i < r.length) (hne : r[i] ≠ (i : Int)) : incB r = false := by
  cases e : incB r with
  | false => rfl
  | true => exact absurd (incB_iff.1 e i h) hne
def isB (x : Shp) (l : List Nod) : Bool := wholeB x l && incB (ordR x l ((l.length : Int) - 1))
set_option maxHeartbeats 4000000 in
theorem ois_sound {H : AHeap} {aid : Nat} {x : Shp} {l : List Nod} (ha : ArA H aid x l) (hw : ArW x l) : Sound Try.prog 32 [.ptr aid 0] H (PureE H (.b (isB x l))) := by
  obtain ⟨p1, p2, p3⟩ := hw.bounds
  have hlen := hw.len
  have hpl := (ordR_plc hw.down ((l.length : Int) - 1)).len
  unfold isB
  refine fn_soundQ hE cf32 (Nat.le_of_ble_eq_true rfl) fun Q hQr hQn => ?_
  ((have hd := trivial; repeat' (first | ((first | refine GdK_st (fun hd => ?_) (fun hd => ?_) | refine GdK_sf (fun hd => ?_) (fun hd => ?_) | refine CondK_s (fun hd => ?_) (fun hd => ?_)) <;> (try simp only [hd])) | simp (disch := first | assumption | omega | (simp only [nx] <;> omega) | fail) only [hd, hQr, hQn, c32_0, ↓YA, YB, YC, YE, YF, YZ, ↓reduceIte, Nat.reduceEqDiff, Nat.reduceAdd, Nat.reduceMul, Nat.reduceLeDiff, Int.reduceToNat, Int.reduceLE, Int.reduceLT, Int.reduceGT, Int.reduceGE, Int.reduceAdd, Int.reduceSub, Int.reduceNeg, Int.reduceBEq, Int.reduceBNe])) <;> (try (have hd_ : True := hd; clear hd_ hd)))
  (refine CallK.use (awhole_sound ha hw) ?_; rintro _ _ ⟨rfl, k1, rfl⟩)
  have w1 := bfd (wholeB x l)
  rcases w1 with w1 | w1
  · rw [w1] at hQr hQn
    ((have hd := trivial; repeat' (first | ((first | refine GdK_st (fun hd => ?_) (fun hd => ?_) | refine GdK_sf (fun hd => ?_) (fun hd => ?_) | refine CondK_s (fun hd => ?_) (fun hd => ?_)) <;> (try simp only [hd])) | simp (disch := first | assumption | omega | (simp only [nx] <;> omega) | fail) only [hd, hQr, hQn, c32_0, ↓YA, YB, YC, YE, YF, YZ, ↓reduceIte, Nat.reduceEqDiff, Nat.reduceAdd, Nat.reduceMul, Nat.reduceLeDiff, Int.reduceToNat, Int.reduceLE, Int.reduceLT, Int.reduceGT, Int.reduceGE, Int.reduceAdd, Int.reduceSub, Int.reduceNeg, Int.reduceBEq, Int.reduceBNe, w1])) <;> (try (have hd_ : True := hd; clear hd_ hd)))
    exact fin_keep ⟨rfl, by exact AXT⟩
  rw [w1] at hQr hQn
  ((have hd := trivial; repeat' (first | ((first | refine GdK_st (fun hd => ?_) (fun hd => ?_) | refine GdK_sf (fun hd => ?_) (fun hd => ?_) | refine CondK_s (fun hd => ?_) (fun hd => ?_)) <;> (try simp only [hd])) | simp (disch := first | assumption | omega | (simp only [nx] <;> omega) | fail) only [hd, hQr, hQn, c32_0, ↓YA, YB, YC, YE, YF, YZ, ↓reduceIte, Nat.reduceEqDiff, Nat.reduceAdd, Nat.reduceMul, Nat.reduceLeDiff, Int.reduceToNat, Int.reduceLE, Int.reduceLT, Int.reduceGT, Int.reduceGE, Int.reduceAdd, Int.reduceSub, Int.reduceNeg, Int.reduceBEq, Int.reduceBNe, w1])) <;> (try (have hd_ : True := hd; clear hd_ hd)))
  (refine CallK.use (top_sound (ha.ext (AHeap.Ext.refl H).bump) p1 (by omega)) ?_; rintro _ H1 ⟨rfl, hx1⟩)
  have hx1 : AHeap.Ext H H1 := (AHeap.Ext.refl H).bump.trans hx1
  ((have hd := trivial; repeat' (first | ((first | refine GdK_st (fun hd => ?_) (fun hd => ?_) | refine GdK_sf (fun hd => ?_) (fun hd => ?_) | refine CondK_s (fun hd => ?_) (fun hd => ?_)) <;> (try simp only [hd])) | simp (disch := first | assumption | omega | (simp only [nx] <;> omega) | fail) only [hd, hQr, hQn, c32_0, ↓YA, YB, YC, YE, YF, YZ, ↓reduceIte, Nat.reduceEqDiff, Nat.reduceAdd, Nat.reduceMul, Nat.reduceLeDiff, Int.reduceToNat, Int.reduceLE, Int.reduceLT, Int.reduceGT, Int.reduceGE, Int.reduceAdd, Int.reduceSub, Int.reduceNeg, Int.reduceBEq, Int.reduceBNe])) <;> (try (have hd_ : True := hd; clear hd_ hd)))
  (refine CallK.use (ovisit_sound (ha.ext hx1) hw ((l.length : Int) - 1)) ?_; rintro _ _ ⟨rfl, k2, rfl⟩)
  generalize ordR x l ((l.length : Int) - 1) = R at *
  ((have hd := trivial; repeat' (first | ((first | refine GdK_st (fun hd => ?_) (fun hd => ?_) | refine GdK_sf (fun hd => ?_) (fun hd => ?_) | refine CondK_s (fun hd => ?_) (fun hd => ?_)) <;> (try simp only [hd])) | simp (disch := first | assumption | omega | (simp only [nx] <;> omega) | fail) only [hd, hQr, hQn, c32_0, ↓YA, YB, YC, YE, YF, YZ, ↓reduceIte, Nat.reduceEqDiff, Nat.reduceAdd, Nat.reduceMul, Nat.reduceLeDiff, Int.reduceToNat, Int.reduceLE, Int.reduceLT, Int.reduceGT, Int.reduceGE, Int.reduceAdd, Int.reduceSub, Int.reduceNeg, Int.reduceBEq, Int.reduceBNe])) <;> (try (have hd_ : True := hd; clear hd_ hd)))
  refine AW_for [11, 12] (σ := Unit) (fun (k : Nat) s => ∀ i (h : i < R.length), i < k → R[i] = (i : Int)) (fun k s => []) (fun k s => []) () (GStep.refl _ _) (by simp only [keep_nil, keep_cons, Fr.put, Fr.get, ↓reduceIte, Nat.reduceEqDiff]; rfl) (by intro k s; rfl) (by intro k s; rfl) (by rfl) (by unfold maxLen; omega) ?_ (by simp only [FrL_nil]) (by simp only [ObjL_nil]) ?_ ?_
  · intro i h h2; omega
  · (rintro k s G hk ht hG hn; try simp only [nx] at hn)
    by_cases e : R[k] = (k : Int)
    · have d1 : ((k : Int) != R[k]) = false := by rw [e]; simp
      ((have hd := trivial; repeat' (first | ((first | refine GdK_st (fun hd => ?_) (fun hd => ?_) | refine GdK_sf (fun hd => ?_) (fun hd => ?_) | refine CondK_s (fun hd => ?_) (fun hd => ?_)) <;> (try simp only [hd])) | simp (disch := first | assumption | omega | (simp only [nx] <;> omega) | fail) only [hd, hQr, hQn, c32_0, ↓YA, YB, YC, YE, YF, YZ, ↓reduceIte, Nat.reduceEqDiff, Nat.reduceAdd, Nat.reduceMul, Nat.reduceLeDiff, Int.reduceToNat, Int.reduceLE, Int.reduceLT, Int.reduceGT, Int.reduceGE, Int.reduceAdd, Int.reduceSub, Int.reduceNeg, Int.reduceBEq, Int.reduceBNe, d1])) <;> (try (have hd_ : True := hd; clear hd_ hd)))
      exact ⟨(), fun i h h2 => by
        by_cases e2 : i = k
        · subst e2; exact e
        · exact ht i h (by omega), by exact HXT⟩
    · have d1 : ((k : Int) != R[k]) = true := by simpa using Ne.symm e
      ((have hd := trivial; repeat' (first | ((first | refine GdK_st (fun hd => ?_) (fun hd => ?_) | refine GdK_sf (fun hd => ?_) (fun hd => ?_) | refine CondK_s (fun hd => ?_) (fun hd => ?_)) <;> (try simp only [hd])) | simp (disch := first | assumption | omega | (simp only [nx] <;> omega) | fail) only [hd, hQr, hQn, c32_0, ↓YA, YB, YC, YE, YF, YZ, ↓reduceIte, Nat.reduceEqDiff, Nat.reduceAdd, Nat.reduceMul, Nat.reduceLeDiff, Int.reduceToNat, Int.reduceLE, Int.reduceLT, Int.reduceGT, Int.reduceGE, Int.reduceAdd, Int.reduceSub, Int.reduceNeg, Int.reduceBEq, Int.reduceBNe, d1])) <;> (try (have hd_ : True := hd; clear hd_ hd)))
      exact fin_keep ⟨by rw [incB_false hk e]; rfl, (hx1.bump).trans hG.ext⟩
  · (rintro s G ht hG hn; try simp only [nx] at hn)
    ((have hd := trivial; repeat' (first | ((first | refine GdK_st (fun hd => ?_) (fun hd => ?_) | refine GdK_sf (fun hd => ?_) (fun hd => ?_) | refine CondK_s (fun hd => ?_) (fun hd => ?_)) <;> (try simp only [hd])) | simp (disch := first | assumption | omega | (simp only [nx] <;> omega) | fail) only [hd, hQr, hQn, c32_0, ↓YA, YB, YC, YE, YF, YZ, ↓reduceIte, Nat.reduceEqDiff, Nat.reduceAdd, Nat.reduceMul, Nat.reduceLeDiff, Int.reduceToNat, Int.reduceLE, Int.reduceLT, Int.reduceGT, Int.reduceGE, Int.reduceAdd, Int.reduceSub, Int.reduceNeg, Int.reduceBEq, Int.reduceBNe])) <;> (try (have hd_ : True := hd; clear hd_ hd)))
    exact fin_keep ⟨by rw [incB_iff.2 fun i h => ht i h h]; rfl, (hx1.bump).trans hG.ext⟩
theorem canon_nodes {x : Shp} {l : List Nod} (he : loadErr x l = 0) : ∀ n ∈ l, ∀ c ∈ n.lists, c ≠ [] := by
  intro n hn
  obtain ⟨i, hi, rfl⟩ := List.getElem_of_mem hn
  exact lists_ne (add_zero' ((load_all he).2 i hi)).1
def CanonQ (x : Shp) (C : List Nod) (H : AHeap) (r : AV) (H' : AHeap) : Prop := AHeap.Ext H H' ∧ ∃ id, r = .tup [.ptr id 0, .i 0] ∧ ArA H' id x C
set_option maxHeartbeats 8000000 in
theorem ocanon_sound {H : AHeap} {aid : Nat} {x : Shp} {l : List Nod} {C : List Nod} (ha : ArA H aid x l) (hw : ArW x l) (he : loadErr x l = 0) (top : Int) (hr : 0 ≤ top ∧ top < l.length) (hC : canN x l (ordR x l top) (plF l.length (ordR x l top) (ordR x l top).length) = C) :
    Sound Try.prog 30 [.ptr aid 0, .i top] H (CanonQ x C H) := by
  obtain ⟨p1, p2, p3⟩ := hw.bounds
  obtain ⟨b1, b2, b3, b4, b5⟩ := shpMay_bounds hw.may
  have hlen := hw.len
  have hO := ord_of hw.down top
  have hpl := hO.plc.len
  have hCs : ∀ n ∈ C, smallN n := by
    rw [← hC]
    intro n hn
    obtain ⟨a, _, rfl⟩ := List.mem_map.1 hn
    exact mv_small (nodAt_small a hw.small)
  have hCe : loadErr x C = 0 := by rw [← hC]; exact load_mv hO he (by omega)
  have hCl : C.length = (ordR x l top).length := by rw [← hC]; simp [canN]
  refine fn_soundQ hE cf30 (Nat.le_of_ble_eq_true rfl) fun Q hQr hQn => ?_
  obtain ⟨_, _, _, g1⟩ := ha.eAr
  ((have hd := trivial; repeat' (first | ((first | refine GdK_st (fun hd => ?_) (fun hd => ?_) | refine GdK_sf (fun hd => ?_) (fun hd => ?_) | refine CondK_s (fun hd => ?_) (fun hd => ?_)) <;> (try simp only [hd])) | simp (disch := first | assumption | omega | (simp only [nx] <;> omega) | fail) only [hd, hQr, hQn, c30_0, ↓YA, YB, YC, YE, YF, YZ, ↓reduceIte, Nat.reduceEqDiff, Nat.reduceAdd, Nat.reduceMul, Nat.reduceLeDiff, Int.reduceToNat, Int.reduceLE, Int.reduceLT, Int.reduceGT, Int.reduceGE, Int.reduceAdd, Int.reduceSub, Int.reduceNeg, Int.reduceBEq, Int.reduceBNe])) <;> (try (have hd_ : True := hd; clear hd_ hd)))
  refine CallK.use (shape_yes g1 hw.may) ?_
  rintro r H1 ⟨hx1, t1, rfl⟩
  have d1 : (x.measures == 0) = false := by rw [beq_eq_false_iff_ne]; omega
  have d2 : decide (top < 0) = false := by simp; omega
  have d3 : decide (top ≥ (l.length : Int)) = false := by simp; omega
  ((have hd := trivial; repeat' (first | ((first | refine GdK_st (fun hd => ?_) (fun hd => ?_) | refine GdK_sf (fun hd => ?_) (fun hd => ?_) | refine CondK_s (fun hd => ?_) (fun hd => ?_)) <;> (try simp only [hd])) | simp (disch := first | assumption | omega | (simp only [nx] <;> omega) | fail) only [hd, hQr, hQn, c30_0, ↓YA, YB, YC, YE, YF, YZ, ↓reduceIte, Nat.reduceEqDiff, Nat.reduceAdd, Nat.reduceMul, Nat.reduceLeDiff, Int.reduceToNat, Int.reduceLE, Int.reduceLT, Int.reduceGT, Int.reduceGE, Int.reduceAdd, Int.reduceSub, Int.reduceNeg, Int.reduceBEq, Int.reduceBNe, d1, d2])) <;> (try (have hd_ : True := hd; clear hd_ hd)))
  (refine CallK.use (alen_sound (ha.ext hx1) hw) ?_; rintro _ H2 ⟨rfl, hx2⟩)
  have hx2 := hx1.trans hx2
  ((have hd := trivial; repeat' (first | ((first | refine GdK_st (fun hd => ?_) (fun hd => ?_) | refine GdK_sf (fun hd => ?_) (fun hd => ?_) | refine CondK_s (fun hd => ?_) (fun hd => ?_)) <;> (try simp only [hd])) | simp (disch := first | assumption | omega | (simp only [nx] <;> omega) | fail) only [hd, hQr, hQn, c30_0, ↓YA, YB, YC, YE, YF, YZ, ↓reduceIte, Nat.reduceEqDiff, Nat.reduceAdd, Nat.reduceMul, Nat.reduceLeDiff, Int.reduceToNat, Int.reduceLE, Int.reduceLT, Int.reduceGT, Int.reduceGE, Int.reduceAdd, Int.reduceSub, Int.reduceNeg, Int.reduceBEq, Int.reduceBNe, d3])) <;> (try (have hd_ : True := hd; clear hd_ hd)))
  have gm : ((H2.alloc (.map (.one (.int .i64)) [] false)).alloc (.cells [.mp H2.next] 103)).get H2.next = some (.map (.one (.int .i64)) (eMap kI AV.i (plM (ordR x l top) 0)) false) := by
    rw [AHeap.get_alloc_ne (by simp only [nx]; omega)]; exact AHeap.get_alloc_self
  have gp : ((H2.alloc (.map (.one (.int .i64)) [] false)).alloc (.cells [.mp H2.next] 103)).get (H2.next + 1) = some (.cells [.mp H2.next] 103) := AHeap.get_alloc_self (H := H2.alloc _)
  have hx3 : AHeap.Ext H ((H2.alloc (.map (.one (.int .i64)) [] false)).alloc (.cells [.mp H2.next] 103)) := by exact AXT
  have hx2n := hx2.next
  generalize hmid : H2.next = mid at *
  generalize (H2.alloc (.map (.one (.int .i64)) [] false)).alloc (.cells [.mp mid] 103) = G3 at *
  (refine CallK.use (ovisit_sound (ha.ext hx3) hw top) ?_; rintro _ _ ⟨rfl, k3, rfl⟩)
  have hx4 : AHeap.Ext H (G3.bump k3) := hx3.bump
  have gm : (G3.bump k3).get mid = _ := gm
  have gp : (G3.bump k3).get (mid + 1) = _ := gp
  generalize G3.bump k3 = G4 at *
  have lm := AHeap.lt gm
  have lp := AHeap.lt gp
  have ha4 := ha.ext hx4
  have hal : aid < H.next := by obtain ⟨_, _, _, e⟩ := ha; exact AHeap.lt e
  have hal4 := hx4.next
  generalize hR : ordR x l top = R at *
  ((have hd := trivial; repeat' (first | ((first | refine GdK_st (fun hd => ?_) (fun hd => ?_) | refine GdK_sf (fun hd => ?_) (fun hd => ?_) | refine CondK_s (fun hd => ?_) (fun hd => ?_)) <;> (try simp only [hd])) | simp (disch := first | assumption | omega | (simp only [nx] <;> omega) | fail) only [hd, hQr, hQn, c30_0, ↓YA, YB, YC, YE, YF, YZ, ↓reduceIte, Nat.reduceEqDiff, Nat.reduceAdd, Nat.reduceMul, Nat.reduceLeDiff, Int.reduceToNat, Int.reduceLE, Int.reduceLT, Int.reduceGT, Int.reduceGE, Int.reduceAdd, Int.reduceSub, Int.reduceNeg, Int.reduceBEq, Int.reduceBNe])) <;> (try (have hd_ : True := hd; clear hd_ hd)))
  refine AW_forI (N := R.length) (fun k F S => Fr.get F 31 = .i (k : Int) ∧ Fr.get F 30 = .i (R.length : Int) ∧ Fr.get F 29 = .sl .no (rI R) ∧ Fr.get F 0 = .ptr aid 0 ∧ Fr.get F 6 = .ptr (mid + 1) 0 ∧ Fr.get F 7 = .fn 61 [] [.ptr (mid + 1) 0] ∧ Fr.get F 8 = .sl (.own G4.next) (rN (C.take k)) ∧
    S.get mid = some (.map (.one (.int .i64)) (eMap kI AV.i (plM R k)) false) ∧ S.get (mid + 1) = some (.cells [.mp mid] 103) ∧ S.get G4.next = some (.tok k 45 14) ∧ AHeap.Ext H S) (by unfold maxLen; omega) (fun k F G h => ⟨h.1, h.2.1⟩) (GStep.tok 8 45 14 rfl) ⟨rfl, rfl, rfl, rfl, rfl, rfl, rfl, by rw [AHeap.get_alloc_ne (by omega)]; exact gm, by rw [AHeap.get_alloc_ne (by omega)]; exact gp, AHeap.get_alloc_self (H := G4), hx4.alloc⟩ ?_ ?_
  · rintro k F G hk ⟨f31, f30, f29, f0, f6, f7, f8, hgm, hgp, hgt, hxG⟩
    have haG := ha.ext hxG
    have hRk := hO.plc.lo _ (List.getElem_mem hk)
    ((have hd := trivial; repeat' (first | ((first | refine GdK_st (fun hd => ?_) (fun hd => ?_) | refine GdK_sf (fun hd => ?_) (fun hd => ?_) | refine CondK_s (fun hd => ?_) (fun hd => ?_)) <;> (try simp only [hd])) | simp (disch := first | assumption | omega | (simp only [nx] <;> omega) | fail) only [hd, hQr, hQn, c30_0, ↓YA, YB, YC, YE, YF, YZ, ↓reduceIte, Nat.reduceEqDiff, Nat.reduceAdd, Nat.reduceMul, Nat.reduceLeDiff, Int.reduceToNat, Int.reduceLE, Int.reduceLT, Int.reduceGT, Int.reduceGE, Int.reduceAdd, Int.reduceSub, Int.reduceNeg, Int.reduceBEq, Int.reduceBNe, f31, f30, f29, f0, f6, f7, f8])) <;> (try (have hd_ : True := hd; clear hd_ hd)))
    refine CallK.use (anode_sound R[k] haG p1 hw.small) ?_
    rintro r G5 ⟨hx5, t5, rfl⟩
    have hgm := hx5.get _ _ hgm
    have hgt := hx5.get _ _ hgt
    have hgp := hx5.get _ _ hgp
    have haG := haG.ext hx5
    have hlm := AHeap.lt hgm
    have hlt := AHeap.lt hgt
    have hlp := AHeap.lt hgp
    have hgd : R.getD k 0 = R[k] := by rw [List.getD_eq_getElem?_getD, List.getElem?_eq_getElem hk]; rfl
    have ms1 := mSet_map (kf := kI) (vf := AV.i) kI_eq R[k] (k : Int) (plM R k)
    have hpl1 : aSet R[k] (k : Int) (plM R k) = plM R (k + 1) := by rw [← hgd]; rfl
    rw [hpl1] at ms1
    have hcs : (eNod t5 (nodAt l R[k])).length = 14 := rfl
    have hxG5 := hxG.trans hx5
    ((have hd := trivial; repeat' (first | ((first | refine GdK_st (fun hd => ?_) (fun hd => ?_) | refine GdK_sf (fun hd => ?_) (fun hd => ?_) | refine CondK_s (fun hd => ?_) (fun hd => ?_)) <;> (try simp only [hd])) | simp (disch := first | assumption | omega | (simp only [nx] <;> omega) | fail) only [hd, hQr, hQn, c30_0, ↓YA, YB, YC, YE, YF, YZ, ↓reduceIte, Nat.reduceEqDiff, Nat.reduceAdd, Nat.reduceMul, Nat.reduceLeDiff, Int.reduceToNat, Int.reduceLE, Int.reduceLT, Int.reduceGT, Int.reduceGE, Int.reduceAdd, Int.reduceSub, Int.reduceNeg, Int.reduceBEq, Int.reduceBNe, hgp, hgm, kI_of, ms1, f31, f30, f29, f0, f6, f7, f8])) <;> (try (have hd_ : True := hd; clear hd_ hd)))
    have hgn : ((G5.alloc (.cells (eNod t5 (nodAt l R[k])) 45)).set mid (.map (.one (.int .i64)) (eMap kI AV.i (plM R (k + 1))) false)).get G5.next = some (.cells (eNod t5 (nodAt l R[k])) 45) := by
      rw [AHeap.get_set_ne (by omega)]; exact AHeap.get_alloc_self
    have hgm6 : ((G5.alloc (.cells (eNod t5 (nodAt l R[k])) 45)).set mid (.map (.one (.int .i64)) (eMap kI AV.i (plM R (k + 1))) false)).get mid = some (.map (.one (.int .i64)) (eMap kI AV.i (plM R (k + 1))) false) := by
      rw [AHeap.get_set_self (by simp only [nx]; omega)]
    have hgt6 : ((G5.alloc (.cells (eNod t5 (nodAt l R[k])) 45)).set mid (.map (.one (.int .i64)) (eMap kI AV.i (plM R (k + 1))) false)).get G4.next = some (.tok k 45 14) := by
      rw [AHeap.get_set_ne (by omega), AHeap.get_alloc_ne (by omega)]; exact hgt
    have hgp6 : ((G5.alloc (.cells (eNod t5 (nodAt l R[k])) 45)).set mid (.map (.one (.int .i64)) (eMap kI AV.i (plM R (k + 1))) false)).get (mid + 1) = some (.cells [.mp mid] 103) := by
      rw [AHeap.get_set_ne (by omega), AHeap.get_alloc_ne (by omega)]; exact hgp
    have ha6 : ArA ((G5.alloc (.cells (eNod t5 (nodAt l R[k])) 45)).set mid (.map (.one (.int .i64)) (eMap kI AV.i (plM R (k + 1))) false)) aid x l := by
      obtain ⟨tok, nt, most, e⟩ := haG
      have := AHeap.lt e
      exact ⟨tok, nt, most, by rw [AHeap.get_set_ne (by omega), AHeap.get_alloc_ne (by omega)]; exact e⟩
    have hn6 : G4.next < ((G5.alloc (.cells (eNod t5 (nodAt l R[k])) 45)).set mid (.map (.one (.int .i64)) (eMap kI AV.i (plM R (k + 1))) false)).next := by simp only [nx]; omega
    have hx6 : AHeap.Ext H ((G5.alloc (.cells (eNod t5 (nodAt l R[k])) 45)).set mid (.map (.one (.int .i64)) (eMap kI AV.i (plM R (k + 1))) false)) := (hxG5.alloc).set (by omega)
    generalize (G5.alloc (.cells (eNod t5 (nodAt l R[k])) 45)).set mid (.map (.one (.int .i64)) (eMap kI AV.i (plM R (k + 1))) false) = G6 at *
    obtain ⟨_, _, _, g6⟩ := ha6.eAr
    refine CallK.use (shape_yes g6 hw.may) ?_
    rintro r G7 ⟨hx7, t7, rfl⟩
    have hgn := hx7.get _ _ hgn
    have hgm7 := hx7.get _ _ hgm6
    have hgt7 := hx7.get _ _ hgt6
    have hgp7 := hx7.get _ _ hgp6
    have hlt7 := AHeap.lt hgt7
    have hsm := nodAt_small R[k] hw.small
    have hne : ∀ c ∈ (nodAt l R[k]).lists, c ≠ [] := by
      have : ∃ a : Nat, ∃ h : a < l.length, nodAt l R[k] = l[a] := by
        obtain ⟨a, e⟩ : ∃ a : Nat, R[k] = a := ⟨R[k].toNat, by omega⟩
        have : a < l.length := by omega
        exact ⟨a, this, by rw [e, nodAt_nat this]⟩
      obtain ⟨a, h, e⟩ := this
      rw [e]
      exact canon_nodes he _ (List.getElem_mem h)
    have hCk : k < C.length := by omega
    have hmv : mvMN x (plM R (k + 1)) (nodAt l R[k]) = C[k] := by
      rw [mv_same hO hk]
      simp only [← hC, canN, List.getElem_map]
    have hx67 := hx6.trans hx7
    ((have hd := trivial; repeat' (first | ((first | refine GdK_st (fun hd => ?_) (fun hd => ?_) | refine GdK_sf (fun hd => ?_) (fun hd => ?_) | refine CondK_s (fun hd => ?_) (fun hd => ?_)) <;> (try simp only [hd])) | simp (disch := first | assumption | omega | (simp only [nx] <;> omega) | fail) only [hd, hQr, hQn, c30_0, ↓YA, YB, YC, YE, YF, YZ, ↓reduceIte, Nat.reduceEqDiff, Nat.reduceAdd, Nat.reduceMul, Nat.reduceLeDiff, Int.reduceToNat, Int.reduceLE, Int.reduceLT, Int.reduceGT, Int.reduceGE, Int.reduceAdd, Int.reduceSub, Int.reduceNeg, Int.reduceBEq, Int.reduceBNe, hgn, f31, f30, f29, f0, f6, f7, f8])) <;> (try (have hd_ : True := hd; clear hd_ hd)))
    refine CallK.use (omove_sound t7 t5 (nodAt l R[k]) ⟨hgp7, hgm7⟩ ⟨hsm.1, hsm.2.2⟩ hne (by omega)) ?_
    rintro _ _ ⟨rfl, k8, rfl⟩
    rw [hmv]
    have la1 := allLen_rN (C.take k)
    have la2 : allLen 14 [eNod .no C[k]] = true := rfl
    have lm1 : k + 1 ≤ maxLen := by unfold maxLen; omega
    have lm2 : (k + 1) * 128 ≤ 140737488355328 := by omega
    have hlk : (C.take k).length = k := by simp; omega
    have hsn : rN (C.take k) ++ [eNod .no C[k]] = rN (C.take (k + 1)) := by rw [take_add_one' hCk]; exact rN_snoc _ _
    generalize C[k] = ck at *
    generalize C.take k = D at *
    ((have hd := trivial; repeat' (first | ((first | refine GdK_st (fun hd => ?_) (fun hd => ?_) | refine GdK_sf (fun hd => ?_) (fun hd => ?_) | refine CondK_s (fun hd => ?_) (fun hd => ?_)) <;> (try simp only [hd])) | simp (disch := first | assumption | omega | (simp only [nx] <;> omega) | fail) only [hd, hQr, hQn, c30_0, ↓YA, YB, YC, YE, YF, YZ, ↓reduceIte, Nat.reduceEqDiff, Nat.reduceAdd, Nat.reduceMul, Nat.reduceLeDiff, Int.reduceToNat, Int.reduceLE, Int.reduceLT, Int.reduceGT, Int.reduceGE, Int.reduceAdd, Int.reduceSub, Int.reduceNeg, Int.reduceBEq, Int.reduceBNe, la1, la2, lm1, lm2, hlk, hgt7, f31, f30, f29, f0, f6, f7, f8])) <;> (try (have hd_ : True := hd; clear hd_ hd)))
    exact ⟨congrArg (AV.sl _) hsn, hgm7, hgp7, (hx67.bump).set (by omega)⟩
  · rintro F G ⟨f31, f30, f29, f0, f6, f7, f8, hgm, hgp, hgt, hxG⟩
    have haG := ha.ext hxG
    obtain ⟨_, _, _, g6⟩ := haG.eAr
    rw [← hCl, List.take_length] at f8
    ((have hd := trivial; repeat' (first | ((first | refine GdK_st (fun hd => ?_) (fun hd => ?_) | refine GdK_sf (fun hd => ?_) (fun hd => ?_) | refine CondK_s (fun hd => ?_) (fun hd => ?_)) <;> (try simp only [hd])) | simp (disch := first | assumption | omega | (simp only [nx] <;> omega) | fail) only [hd, hQr, hQn, c30_0, ↓YA, YB, YC, YE, YF, YZ, ↓reduceIte, Nat.reduceEqDiff, Nat.reduceAdd, Nat.reduceMul, Nat.reduceLeDiff, Int.reduceToNat, Int.reduceLE, Int.reduceLT, Int.reduceGT, Int.reduceGE, Int.reduceAdd, Int.reduceSub, Int.reduceNeg, Int.reduceBEq, Int.reduceBNe, f31, f30, f29, f0, f6, f7, f8])) <;> (try (have hd_ : True := hd; clear hd_ hd)))
    refine CallK.use (shape_yes g6 hw.may) ?_
    rintro r G7 ⟨hx7, t7, rfl⟩
    ((have hd := trivial; repeat' (first | ((first | refine GdK_st (fun hd => ?_) (fun hd => ?_) | refine GdK_sf (fun hd => ?_) (fun hd => ?_) | refine CondK_s (fun hd => ?_) (fun hd => ?_)) <;> (try simp only [hd])) | simp (disch := first | assumption | omega | (simp only [nx] <;> omega) | fail) only [hd, hQr, hQn, c30_0, ↓YA, YB, YC, YE, YF, YZ, ↓reduceIte, Nat.reduceEqDiff, Nat.reduceAdd, Nat.reduceMul, Nat.reduceLeDiff, Int.reduceToNat, Int.reduceLE, Int.reduceLT, Int.reduceGT, Int.reduceGE, Int.reduceAdd, Int.reduceSub, Int.reduceNeg, Int.reduceBEq, Int.reduceBNe, f31, f30, f29, f0, f6, f7, f8])) <;> (try (have hd_ : True := hd; clear hd_ hd)))
    have hxG7 := hxG.trans hx7
    refine CallK.use (load_sound' t7 _ x C _ (by omega) hCs) ?_
    rintro r G8 ⟨hx8, hr⟩
    rcases hr with ⟨h1, rfl⟩ | ⟨h1, id, rfl, h2⟩
    · exact absurd hCe h1
    · ((have hd := trivial; repeat' (first | ((first | refine GdK_st (fun hd => ?_) (fun hd => ?_) | refine GdK_sf (fun hd => ?_) (fun hd => ?_) | refine CondK_s (fun hd => ?_) (fun hd => ?_)) <;> (try simp only [hd])) | simp (disch := first | assumption | omega | (simp only [nx] <;> omega) | fail) only [hd, hQr, hQn, c30_0, ↓YA, YB, YC, YE, YF, YZ, ↓reduceIte, Nat.reduceEqDiff, Nat.reduceAdd, Nat.reduceMul, Nat.reduceLeDiff, Int.reduceToNat, Int.reduceLE, Int.reduceLT, Int.reduceGT, Int.reduceGE, Int.reduceAdd, Int.reduceSub, Int.reduceNeg, Int.reduceBEq, Int.reduceBNe])) <;> (try (have hd_ : True := hd; clear hd_ hd)))
      exact fin_keep ⟨hxG7.trans hx8, id, rfl, LoadQ.arw h2⟩
end Go.Proofs.Ytgnpihhakogeeaa

namespace Go.Proofs.Ytgnpihhakogeeaa
set_option linter.unusedSimpArgs false
set_option linter.unusedVariables false
open Go.RowKit

theorem len_no {H : AHeap} : Sound Try.prog 56 [.sc (.pointer none)] H (PureE H (.i 0)) := by
  refine fn_soundQ hE cf56 (Nat.le_of_ble_eq_true rfl) fun Q hQr hQn => ?_
  ((have hd := trivial; repeat' (first | ((first | refine GdK_st (fun hd => ?_) (fun hd => ?_) | refine GdK_sf (fun hd => ?_) (fun hd => ?_) | refine CondK_s (fun hd => ?_) (fun hd => ?_)) <;> (try simp only [hd])) | simp (disch := first | assumption | omega | (simp only [nx] <;> omega) | fail) only [hd, hQr, hQn, c56_0, ↓YA, YB, YC, YE, YF, YZ, ↓reduceIte, Nat.reduceEqDiff, Nat.reduceAdd, Nat.reduceMul, Nat.reduceLeDiff, Int.reduceToNat, Int.reduceLE, Int.reduceLT, Int.reduceGT, Int.reduceGE, Int.reduceAdd, Int.reduceSub, Int.reduceNeg, Int.reduceBEq, Int.reduceBNe])) <;> (try (have hd_ : True := hd; clear hd_ hd)))
  (refine CallK.use (there_no (.inl rfl)) ?_; rintro _ H1 ⟨rfl, hx1⟩)
  ((have hd := trivial; repeat' (first | ((first | refine GdK_st (fun hd => ?_) (fun hd => ?_) | refine GdK_sf (fun hd => ?_) (fun hd => ?_) | refine CondK_s (fun hd => ?_) (fun hd => ?_)) <;> (try simp only [hd])) | simp (disch := first | assumption | omega | (simp only [nx] <;> omega) | fail) only [hd, hQr, hQn, c56_0, ↓YA, YB, YC, YE, YF, YZ, ↓reduceIte, Nat.reduceEqDiff, Nat.reduceAdd, Nat.reduceMul, Nat.reduceLeDiff, Int.reduceToNat, Int.reduceLE, Int.reduceLT, Int.reduceGT, Int.reduceGE, Int.reduceAdd, Int.reduceSub, Int.reduceNeg, Int.reduceBEq, Int.reduceBNe])) <;> (try (have hd_ : True := hd; clear hd_ hd)))
  exact fin_keep ⟨rfl, by exact AXT⟩
theorem whole_no {H : AHeap} : Sound Try.prog 55 [.sc (.pointer none)] H (PureE H (.b false)) := by
  refine fn_soundQ hE cf55 (Nat.le_of_ble_eq_true rfl) fun Q hQr hQn => ?_
  ((have hd := trivial; repeat' (first | ((first | refine GdK_st (fun hd => ?_) (fun hd => ?_) | refine GdK_sf (fun hd => ?_) (fun hd => ?_) | refine CondK_s (fun hd => ?_) (fun hd => ?_)) <;> (try simp only [hd])) | simp (disch := first | assumption | omega | (simp only [nx] <;> omega) | fail) only [hd, hQr, hQn, c55_0, ↓YA, YB, YC, YE, YF, YZ, ↓reduceIte, Nat.reduceEqDiff, Nat.reduceAdd, Nat.reduceMul, Nat.reduceLeDiff, Int.reduceToNat, Int.reduceLE, Int.reduceLT, Int.reduceGT, Int.reduceGE, Int.reduceAdd, Int.reduceSub, Int.reduceNeg, Int.reduceBEq, Int.reduceBNe])) <;> (try (have hd_ : True := hd; clear hd_ hd)))
  (refine CallK.use (there_no (.inl rfl)) ?_; rintro _ H1 ⟨rfl, hx1⟩)
  ((have hd := trivial; repeat' (first | ((first | refine GdK_st (fun hd => ?_) (fun hd => ?_) | refine GdK_sf (fun hd => ?_) (fun hd => ?_) | refine CondK_s (fun hd => ?_) (fun hd => ?_)) <;> (try simp only [hd])) | simp (disch := first | assumption | omega | (simp only [nx] <;> omega) | fail) only [hd, hQr, hQn, c55_0, ↓YA, YB, YC, YE, YF, YZ, ↓reduceIte, Nat.reduceEqDiff, Nat.reduceAdd, Nat.reduceMul, Nat.reduceLeDiff, Int.reduceToNat, Int.reduceLE, Int.reduceLT, Int.reduceGT, Int.reduceGE, Int.reduceAdd, Int.reduceSub, Int.reduceNeg, Int.reduceBEq, Int.reduceBNe])) <;> (try (have hd_ : True := hd; clear hd_ hd)))
  exact fin_keep ⟨rfl, by exact AXT⟩
theorem ocanon_no {H : AHeap} (top : Int) : Sound Try.prog 30 [.sc (.pointer none), .i top] H (PureE H (.tup [.sc (.pointer none), .i 1])) := by
  refine fn_soundQ hE cf30 (Nat.le_of_ble_eq_true rfl) fun Q hQr hQn => ?_
  ((have hd := trivial; repeat' (first | ((first | refine GdK_st (fun hd => ?_) (fun hd => ?_) | refine GdK_sf (fun hd => ?_) (fun hd => ?_) | refine CondK_s (fun hd => ?_) (fun hd => ?_)) <;> (try simp only [hd])) | simp (disch := first | assumption | omega | (simp only [nx] <;> omega) | fail) only [hd, hQr, hQn, c30_0, ↓YA, YB, YC, YE, YF, YZ, ↓reduceIte, Nat.reduceEqDiff, Nat.reduceAdd, Nat.reduceMul, Nat.reduceLeDiff, Int.reduceToNat, Int.reduceLE, Int.reduceLT, Int.reduceGT, Int.reduceGE, Int.reduceAdd, Int.reduceSub, Int.reduceNeg, Int.reduceBEq, Int.reduceBNe])) <;> (try (have hd_ : True := hd; clear hd_ hd)))
  (refine CallK.use (shape_no (.inl rfl)) ?_; rintro _ H1 ⟨rfl, hx1⟩)
  ((have hd := trivial; repeat' (first | ((first | refine GdK_st (fun hd => ?_) (fun hd => ?_) | refine GdK_sf (fun hd => ?_) (fun hd => ?_) | refine CondK_s (fun hd => ?_) (fun hd => ?_)) <;> (try simp only [hd])) | simp (disch := first | assumption | omega | (simp only [nx] <;> omega) | fail) only [hd, hQr, hQn, c30_0, ↓YA, YB, YC, YE, YF, YZ, ↓reduceIte, Nat.reduceEqDiff, Nat.reduceAdd, Nat.reduceMul, Nat.reduceLeDiff, Int.reduceToNat, Int.reduceLE, Int.reduceLT, Int.reduceGT, Int.reduceGE, Int.reduceAdd, Int.reduceSub, Int.reduceNeg, Int.reduceBEq, Int.reduceBNe])) <;> (try (have hd_ : True := hd; clear hd_ hd)))
  exact fin_keep ⟨rfl, by exact AXT⟩
theorem ovisit_no {H : AHeap} (top : Int) : Sound Try.prog 31 [.sc (.pointer none), .i top] H (PureE H (.sl .full [])) := by
  refine fn_soundQ hE cf31 (Nat.le_of_ble_eq_true rfl) fun Q hQr hQn => ?_
  by_cases c : top < 0
  · have d1 : decide (top < 0) = true := by simpa using c
    ((have hd := trivial; repeat' (first | ((first | refine GdK_st (fun hd => ?_) (fun hd => ?_) | refine GdK_sf (fun hd => ?_) (fun hd => ?_) | refine CondK_s (fun hd => ?_) (fun hd => ?_)) <;> (try simp only [hd])) | simp (disch := first | assumption | omega | (simp only [nx] <;> omega) | fail) only [hd, hQr, hQn, c31_0, ↓YA, YB, YC, YE, YF, YZ, ↓reduceIte, Nat.reduceEqDiff, Nat.reduceAdd, Nat.reduceMul, Nat.reduceLeDiff, Int.reduceToNat, Int.reduceLE, Int.reduceLT, Int.reduceGT, Int.reduceGE, Int.reduceAdd, Int.reduceSub, Int.reduceNeg, Int.reduceBEq, Int.reduceBNe, d1])) <;> (try (have hd_ : True := hd; clear hd_ hd)))
    exact fin_keep ⟨rfl, by exact AXT⟩
  · have d1 : decide (top < 0) = false := by simpa using c
    have d2 : decide (top ≥ 0) = true := by simp; omega
    ((have hd := trivial; repeat' (first | ((first | refine GdK_st (fun hd => ?_) (fun hd => ?_) | refine GdK_sf (fun hd => ?_) (fun hd => ?_) | refine CondK_s (fun hd => ?_) (fun hd => ?_)) <;> (try simp only [hd])) | simp (disch := first | assumption | omega | (simp only [nx] <;> omega) | fail) only [hd, hQr, hQn, c31_0, ↓YA, YB, YC, YE, YF, YZ, ↓reduceIte, Nat.reduceEqDiff, Nat.reduceAdd, Nat.reduceMul, Nat.reduceLeDiff, Int.reduceToNat, Int.reduceLE, Int.reduceLT, Int.reduceGT, Int.reduceGE, Int.reduceAdd, Int.reduceSub, Int.reduceNeg, Int.reduceBEq, Int.reduceBNe, d1])) <;> (try (have hd_ : True := hd; clear hd_ hd)))
    (refine CallK.use (len_no) ?_; rintro _ H1 ⟨rfl, hx1⟩)
    ((have hd := trivial; repeat' (first | ((first | refine GdK_st (fun hd => ?_) (fun hd => ?_) | refine GdK_sf (fun hd => ?_) (fun hd => ?_) | refine CondK_s (fun hd => ?_) (fun hd => ?_)) <;> (try simp only [hd])) | simp (disch := first | assumption | omega | (simp only [nx] <;> omega) | fail) only [hd, hQr, hQn, c31_0, ↓YA, YB, YC, YE, YF, YZ, ↓reduceIte, Nat.reduceEqDiff, Nat.reduceAdd, Nat.reduceMul, Nat.reduceLeDiff, Int.reduceToNat, Int.reduceLE, Int.reduceLT, Int.reduceGT, Int.reduceGE, Int.reduceAdd, Int.reduceSub, Int.reduceNeg, Int.reduceBEq, Int.reduceBNe, d2])) <;> (try (have hd_ : True := hd; clear hd_ hd)))
    exact fin_keep ⟨rfl, by exact AXT⟩
theorem ois_no {H : AHeap} : Sound Try.prog 32 [.sc (.pointer none)] H (PureE H (.b false)) := by
  refine fn_soundQ hE cf32 (Nat.le_of_ble_eq_true rfl) fun Q hQr hQn => ?_
  ((have hd := trivial; repeat' (first | ((first | refine GdK_st (fun hd => ?_) (fun hd => ?_) | refine GdK_sf (fun hd => ?_) (fun hd => ?_) | refine CondK_s (fun hd => ?_) (fun hd => ?_)) <;> (try simp only [hd])) | simp (disch := first | assumption | omega | (simp only [nx] <;> omega) | fail) only [hd, hQr, hQn, c32_0, ↓YA, YB, YC, YE, YF, YZ, ↓reduceIte, Nat.reduceEqDiff, Nat.reduceAdd, Nat.reduceMul, Nat.reduceLeDiff, Int.reduceToNat, Int.reduceLE, Int.reduceLT, Int.reduceGT, Int.reduceGE, Int.reduceAdd, Int.reduceSub, Int.reduceNeg, Int.reduceBEq, Int.reduceBNe])) <;> (try (have hd_ : True := hd; clear hd_ hd)))
  (refine CallK.use (whole_no) ?_; rintro _ H1 ⟨rfl, hx1⟩)
  ((have hd := trivial; repeat' (first | ((first | refine GdK_st (fun hd => ?_) (fun hd => ?_) | refine GdK_sf (fun hd => ?_) (fun hd => ?_) | refine CondK_s (fun hd => ?_) (fun hd => ?_)) <;> (try simp only [hd])) | simp (disch := first | assumption | omega | (simp only [nx] <;> omega) | fail) only [hd, hQr, hQn, c32_0, ↓YA, YB, YC, YE, YF, YZ, ↓reduceIte, Nat.reduceEqDiff, Nat.reduceAdd, Nat.reduceMul, Nat.reduceLeDiff, Int.reduceToNat, Int.reduceLE, Int.reduceLT, Int.reduceGT, Int.reduceGE, Int.reduceAdd, Int.reduceSub, Int.reduceNeg, Int.reduceBEq, Int.reduceBNe])) <;> (try (have hd_ : True := hd; clear hd_ hd)))
  exact fin_keep ⟨rfl, by exact AXT⟩
theorem ocanon_out {H : AHeap} {aid : Nat} {x : Shp} {l : List Nod} (ha : ArA H aid x l) (hw : ArW x l) (top : Int) (hr : ¬ (0 ≤ top ∧ top < l.length)) : Sound Try.prog 30 [.ptr aid 0, .i top] H (PureE H (.tup [.sc (.pointer none), .i 9])) := by
  obtain ⟨b1, b2, b3, b4, b5⟩ := shpMay_bounds hw.may
  refine fn_soundQ hE cf30 (Nat.le_of_ble_eq_true rfl) fun Q hQr hQn => ?_
  obtain ⟨_, _, _, g1⟩ := ha.eAr
  ((have hd := trivial; repeat' (first | ((first | refine GdK_st (fun hd => ?_) (fun hd => ?_) | refine GdK_sf (fun hd => ?_) (fun hd => ?_) | refine CondK_s (fun hd => ?_) (fun hd => ?_)) <;> (try simp only [hd])) | simp (disch := first | assumption | omega | (simp only [nx] <;> omega) | fail) only [hd, hQr, hQn, c30_0, ↓YA, YB, YC, YE, YF, YZ, ↓reduceIte, Nat.reduceEqDiff, Nat.reduceAdd, Nat.reduceMul, Nat.reduceLeDiff, Int.reduceToNat, Int.reduceLE, Int.reduceLT, Int.reduceGT, Int.reduceGE, Int.reduceAdd, Int.reduceSub, Int.reduceNeg, Int.reduceBEq, Int.reduceBNe])) <;> (try (have hd_ : True := hd; clear hd_ hd)))
  refine CallK.use (shape_yes g1 hw.may) ?_
  rintro r H1 ⟨hx1, t1, rfl⟩
  have d1 : (x.measures == 0) = false := by rw [beq_eq_false_iff_ne]; omega
  by_cases c : top < 0
  · have d2 : decide (top < 0) = true := by simpa using c
    ((have hd := trivial; repeat' (first | ((first | refine GdK_st (fun hd => ?_) (fun hd => ?_) | refine GdK_sf (fun hd => ?_) (fun hd => ?_) | refine CondK_s (fun hd => ?_) (fun hd => ?_)) <;> (try simp only [hd])) | simp (disch := first | assumption | omega | (simp only [nx] <;> omega) | fail) only [hd, hQr, hQn, c30_0, ↓YA, YB, YC, YE, YF, YZ, ↓reduceIte, Nat.reduceEqDiff, Nat.reduceAdd, Nat.reduceMul, Nat.reduceLeDiff, Int.reduceToNat, Int.reduceLE, Int.reduceLT, Int.reduceGT, Int.reduceGE, Int.reduceAdd, Int.reduceSub, Int.reduceNeg, Int.reduceBEq, Int.reduceBNe, d1, d2])) <;> (try (have hd_ : True := hd; clear hd_ hd)))
    exact fin_keep ⟨rfl, by exact AXT⟩
  · have d2 : decide (top < 0) = false := by simpa using c
    have d3 : decide (top ≥ (l.length : Int)) = true := by simp; omega
    ((have hd := trivial; repeat' (first | ((first | refine GdK_st (fun hd => ?_) (fun hd => ?_) | refine GdK_sf (fun hd => ?_) (fun hd => ?_) | refine CondK_s (fun hd => ?_) (fun hd => ?_)) <;> (try simp only [hd])) | simp (disch := first | assumption | omega | (simp only [nx] <;> omega) | fail) only [hd, hQr, hQn, c30_0, ↓YA, YB, YC, YE, YF, YZ, ↓reduceIte, Nat.reduceEqDiff, Nat.reduceAdd, Nat.reduceMul, Nat.reduceLeDiff, Int.reduceToNat, Int.reduceLE, Int.reduceLT, Int.reduceGT, Int.reduceGE, Int.reduceAdd, Int.reduceSub, Int.reduceNeg, Int.reduceBEq, Int.reduceBNe, d1, d2])) <;> (try (have hd_ : True := hd; clear hd_ hd)))
    (refine CallK.use (alen_sound (ha.ext hx1) hw) ?_; rintro _ H2 ⟨rfl, hx2⟩)
    have hx2 := hx1.trans hx2
    ((have hd := trivial; repeat' (first | ((first | refine GdK_st (fun hd => ?_) (fun hd => ?_) | refine GdK_sf (fun hd => ?_) (fun hd => ?_) | refine CondK_s (fun hd => ?_) (fun hd => ?_)) <;> (try simp only [hd])) | simp (disch := first | assumption | omega | (simp only [nx] <;> omega) | fail) only [hd, hQr, hQn, c30_0, ↓YA, YB, YC, YE, YF, YZ, ↓reduceIte, Nat.reduceEqDiff, Nat.reduceAdd, Nat.reduceMul, Nat.reduceLeDiff, Int.reduceToNat, Int.reduceLE, Int.reduceLT, Int.reduceGT, Int.reduceGE, Int.reduceAdd, Int.reduceSub, Int.reduceNeg, Int.reduceBEq, Int.reduceBNe, d3])) <;> (try (have hd_ : True := hd; clear hd_ hd)))
    exact fin_keep ⟨rfl, by exact AXT⟩
theorem listSame_rel {α : Type} {p : α → α → Bool} : ∀ {l m : List α}, listSame p l m = true → l.length = m.length ∧ ∀ (i : Nat) a b, l[i]? = some a → m[i]? = some b → p a b = true
  | [], [], _ => ⟨rfl, fun i a b h => by simp at h⟩
  | a :: l, b :: m, h => by
    simp only [listSame, Bool.and_eq_true] at h
    obtain ⟨h1, h2⟩ := listSame_rel h.2
    refine ⟨by simp [h1], fun i x y hx hy => ?_⟩
    cases i with
    | zero => simp at hx hy; subst hx hy; exact h.1
    | succ i => simp at hx hy; exact h2 i x y hx hy
  | [], _ :: _, h => by simp [listSame] at h
  | _ :: _, [], h => by simp [listSame] at h
def wknB : Nat → AV → AV → Bool
  | 0, _, _ => false
  | n + 1, a, b => match a, b with
    | .sl _ r, .sl .no r' => listSame (listSame (wknB n)) r r'
    | .agg cs, .agg ds => listSame (wknB n) cs ds
    | .tup cs, .tup ds => listSame (wknB n) cs ds
    | a, b => AV.same (n + 1) a b
theorem wknB_ok : ∀ {n : Nat} {a b : AV}, wknB n a b = true → Wkn a b
  | 0, _, _, h => by simp [wknB] at h
  | n + 1, a, b, h => by
    unfold wknB at h
    split at h
    · obtain ⟨h1, h2⟩ := listSame_rel h
      exact .sl _ _ _ h1 (fun i r r' a b => (listSame_rel (h2 i r r' a b)).1) (fun i r r' j x y a b c d => wknB_ok ((listSame_rel (h2 i r r' a b)).2 j x y c d))
    · obtain ⟨h1, h2⟩ := listSame_rel h
      exact .agg _ _ h1 fun i x y a b => wknB_ok (h2 i x y a b)
    · obtain ⟨h1, h2⟩ := listSame_rel h
      exact .tup _ _ h1 fun i x y a b => wknB_ok (h2 i x y a b)
    · rw [AV.same_ok h]; exact .refl _
/-- the example: a node alone -/
def shp0 : Shp := ⟨[[1]], 1⟩
def cel1 : Cel := ⟨0, 0, ⟨1, 0, 0, 0, 0, 0, 0, 0, 0, 0⟩⟩
def nod1 : Nod := ⟨0, [[cel1]], cel1⟩
set_option maxHeartbeats 2000000 in
theorem awake33 (H : AHeap) : Sound Try.prog 29 [] H (PureE H (.b true)) := by
  have hle : loadErr shp0 [nod1] = 0 := by decide
  have hsm : ∀ n ∈ [nod1], smallN n := by
    intro n hn
    rw [List.mem_singleton] at hn
    subst hn
    exact ⟨by decide, by decide, fun l hl => by
      have : l = [cel1] := by simpa [nod1] using hl
      subst this; decide⟩
  obtain ⟨wa, da⟩ := load_w hle (by decide) hsm
  refine fn_soundQ hE cf29 (Nat.le_of_ble_eq_true rfl) fun Q hQr hQn => ?_
  ((have hd := trivial; repeat' (first | ((first | refine GdK_st (fun hd => ?_) (fun hd => ?_) | refine GdK_sf (fun hd => ?_) (fun hd => ?_) | refine CondK_s (fun hd => ?_) (fun hd => ?_)) <;> (try simp only [hd])) | simp (disch := first | assumption | omega | (simp only [nx] <;> omega) | fail) only [hd, hQr, hQn, c29_0, ↓YA, YB, YC, YE, YF, YZ, ↓reduceIte, Nat.reduceEqDiff, Nat.reduceAdd, Nat.reduceMul, Nat.reduceLeDiff, Int.reduceToNat, Int.reduceLE, Int.reduceLT, Int.reduceGT, Int.reduceGE, Int.reduceAdd, Int.reduceSub, Int.reduceNeg, Int.reduceBEq, Int.reduceBNe])) <;> (try (have hd_ : True := hd; clear hd_ hd)))
  refine CallK.use (Sound.wknA (load_sound .no shp0 [nod1] _ (by decide) hsm) rfl fun i a b ha hb => ?_) ?_
  · match i with
    | 0 => simp only [List.getElem?_cons_zero, Option.some.injEq] at ha hb; subst ha hb; exact wknB_ok (n := 10) rfl
    | 1 => simp only [List.getElem?_cons_zero, List.getElem?_cons_succ, Option.some.injEq] at ha hb; subst ha hb; exact wknB_ok (n := 10) rfl
    | i + 2 => simp at ha
  rintro r G1 ⟨hx1, hr⟩
  rcases hr with ⟨h1, rfl⟩ | ⟨h1, id, rfl, h2⟩
  · exact absurd hle h1
  have ha := LoadQ.arw h2
  have hx1 : AHeap.Ext H G1 := ((AHeap.Ext.refl H).alloc).trans hx1
  ((have hd := trivial; repeat' (first | ((first | refine GdK_st (fun hd => ?_) (fun hd => ?_) | refine GdK_sf (fun hd => ?_) (fun hd => ?_) | refine CondK_s (fun hd => ?_) (fun hd => ?_)) <;> (try simp only [hd])) | simp (disch := first | assumption | omega | (simp only [nx] <;> omega) | fail) only [hd, hQr, hQn, c29_0, ↓YA, YB, YC, YE, YF, YZ, ↓reduceIte, Nat.reduceEqDiff, Nat.reduceAdd, Nat.reduceMul, Nat.reduceLeDiff, Int.reduceToNat, Int.reduceLE, Int.reduceLT, Int.reduceGT, Int.reduceGE, Int.reduceAdd, Int.reduceSub, Int.reduceNeg, Int.reduceBEq, Int.reduceBNe])) <;> (try (have hd_ : True := hd; clear hd_ hd)))
  (refine CallK.use (ovisit_sound ha wa 0) ?_; rintro _ _ ⟨rfl, k1, rfl⟩)
  have hO : ordR shp0 [nod1] 0 = [0] := by decide
  rw [hO]
  ((have hd := trivial; repeat' (first | ((first | refine GdK_st (fun hd => ?_) (fun hd => ?_) | refine GdK_sf (fun hd => ?_) (fun hd => ?_) | refine CondK_s (fun hd => ?_) (fun hd => ?_)) <;> (try simp only [hd])) | simp (disch := first | assumption | omega | (simp only [nx] <;> omega) | fail) only [hd, hQr, hQn, c29_0, ↓YA, YB, YC, YE, YF, YZ, ↓reduceIte, Nat.reduceEqDiff, Nat.reduceAdd, Nat.reduceMul, Nat.reduceLeDiff, Int.reduceToNat, Int.reduceLE, Int.reduceLT, Int.reduceGT, Int.reduceGE, Int.reduceAdd, Int.reduceSub, Int.reduceNeg, Int.reduceBEq, Int.reduceBNe])) <;> (try (have hd_ : True := hd; clear hd_ hd)))
  (refine CallK.use (ints_sound .no .full [0] [0] _ (by decide)) ?_; rintro _ _ ⟨rfl, k2, rfl⟩)
  have d1 : decide (([0] : List Int) = [0]) = true := by decide
  ((have hd := trivial; repeat' (first | ((first | refine GdK_st (fun hd => ?_) (fun hd => ?_) | refine GdK_sf (fun hd => ?_) (fun hd => ?_) | refine CondK_s (fun hd => ?_) (fun hd => ?_)) <;> (try simp only [hd])) | simp (disch := first | assumption | omega | (simp only [nx] <;> omega) | fail) only [hd, hQr, hQn, c29_0, ↓YA, YB, YC, YE, YF, YZ, ↓reduceIte, Nat.reduceEqDiff, Nat.reduceAdd, Nat.reduceMul, Nat.reduceLeDiff, Int.reduceToNat, Int.reduceLE, Int.reduceLT, Int.reduceGT, Int.reduceGE, Int.reduceAdd, Int.reduceSub, Int.reduceNeg, Int.reduceBEq, Int.reduceBNe, d1])) <;> (try (have hd_ : True := hd; clear hd_ hd)))
  (refine CallK.use (ois_sound ((ha.ext (AHeap.Ext.refl G1).bump).ext (AHeap.Ext.refl _).bump) wa) ?_; rintro _ H2 ⟨rfl, hx2⟩)
  have hI : isB shp0 [nod1] = true := by decide
  ((have hd := trivial; repeat' (first | ((first | refine GdK_st (fun hd => ?_) (fun hd => ?_) | refine GdK_sf (fun hd => ?_) (fun hd => ?_) | refine CondK_s (fun hd => ?_) (fun hd => ?_)) <;> (try simp only [hd])) | simp (disch := first | assumption | omega | (simp only [nx] <;> omega) | fail) only [hd, hQr, hQn, c29_0, ↓YA, YB, YC, YE, YF, YZ, ↓reduceIte, Nat.reduceEqDiff, Nat.reduceAdd, Nat.reduceMul, Nat.reduceLeDiff, Int.reduceToNat, Int.reduceLE, Int.reduceLT, Int.reduceGT, Int.reduceGE, Int.reduceAdd, Int.reduceSub, Int.reduceNeg, Int.reduceBEq, Int.reduceBNe, hI])) <;> (try (have hd_ : True := hd; clear hd_ hd)))
  exact fin_keep ⟨rfl, (hx1.bump.bump).trans hx2⟩
def incK (r : List Int) (k : Nat) : Bool := (r.take k) == (List.range k).map fun i : Nat => (i : Int)
@[simp] theorem incK_zero (r : List Int) : incK r 0 = true := by simp [incK]
theorem incK_step {r : List Int} {k : Nat} (hk : k < r.length) : incK r (k + 1) = (incK r k && (k : Int) == r[k]) := by
  unfold incK
  rw [take_add_one' hk, List.range_succ, List.map_append, Bool.eq_iff_iff]
  simp only [beq_iff_eq, Bool.and_eq_true, List.map_cons, List.map_nil]
  constructor
  · intro h
    have := List.append_inj h (by simp; omega)
    exact ⟨this.1, by have := this.2; simp at this; exact this.symm⟩
  · rintro ⟨h1, h2⟩
    rw [h1, h2]
theorem incK_all (r : List Int) : incK r r.length = incB r := by
  unfold incK incB
  rw [List.take_length, Bool.eq_iff_iff]
  simp
set_option maxHeartbeats 8000000 in
set_option maxRecDepth 100000 in
theorem orderVisits_sound (x : Shp) (l : List Nod) (top : Int) (H : AHeap) : Sound Try.prog 6 [.agg (eShp x), .sl .no (rN l), .i top] H fun r _ => r = .b true := by
  refine fn_soundQ hE cf6 (Nat.le_of_ble_eq_true rfl) fun Q hQr hQn => ?_
  ((have hd := trivial; repeat' (first | ((first | refine GdK_st (fun hd => ?_) (fun hd => ?_) | refine GdK_sf (fun hd => ?_) (fun hd => ?_) | refine CondK_s (fun hd => ?_) (fun hd => ?_)) <;> (try simp only [hd])) | simp (disch := first | assumption | omega | (simp only [nx] <;> omega) | fail) only [hd, hQr, hQn, c6_0, ↓YA, YB, YC, YE, YF, YZ, ↓reduceIte, Nat.reduceEqDiff, Nat.reduceAdd, Nat.reduceMul, Nat.reduceLeDiff, Int.reduceToNat, Int.reduceLE, Int.reduceLT, Int.reduceGT, Int.reduceGE, Int.reduceAdd, Int.reduceSub, Int.reduceNeg, Int.reduceBEq, Int.reduceBNe])) <;> (try (have hd_ : True := hd; clear hd_ hd)))
  (refine CallK.use (small_sound x _) ?_; rintro _ _ ⟨rfl, k1, rfl⟩)
  have s1 := bfc (small x)
  rcases s1 with s1 | s1
  · ((have hd := trivial; repeat' (first | ((first | refine GdK_st (fun hd => ?_) (fun hd => ?_) | refine GdK_sf (fun hd => ?_) (fun hd => ?_) | refine CondK_s (fun hd => ?_) (fun hd => ?_)) <;> (try simp only [hd])) | simp (disch := first | assumption | omega | (simp only [nx] <;> omega) | fail) only [hd, hQr, hQn, c6_0, ↓YA, YB, YC, YE, YF, YZ, ↓reduceIte, Nat.reduceEqDiff, Nat.reduceAdd, Nat.reduceMul, Nat.reduceLeDiff, Int.reduceToNat, Int.reduceLE, Int.reduceLT, Int.reduceGT, Int.reduceGE, Int.reduceAdd, Int.reduceSub, Int.reduceNeg, Int.reduceBEq, Int.reduceBNe, s1])) <;> (try (have hd_ : True := hd; clear hd_ hd)))
    (refine CallK.use (awake33 _) ?_; rintro _ H2 ⟨rfl, hx2⟩)
    ((have hd := trivial; repeat' (first | ((first | refine GdK_st (fun hd => ?_) (fun hd => ?_) | refine GdK_sf (fun hd => ?_) (fun hd => ?_) | refine CondK_s (fun hd => ?_) (fun hd => ?_)) <;> (try simp only [hd])) | simp (disch := first | assumption | omega | (simp only [nx] <;> omega) | fail) only [hd, hQr, hQn, c6_0, ↓YA, YB, YC, YE, YF, YZ, ↓reduceIte, Nat.reduceEqDiff, Nat.reduceAdd, Nat.reduceMul, Nat.reduceLeDiff, Int.reduceToNat, Int.reduceLE, Int.reduceLT, Int.reduceGT, Int.reduceGE, Int.reduceAdd, Int.reduceSub, Int.reduceNeg, Int.reduceBEq, Int.reduceBNe])) <;> (try (have hd_ : True := hd; clear hd_ hd)))
    exact fin_keep rfl
  ((have hd := trivial; repeat' (first | ((first | refine GdK_st (fun hd => ?_) (fun hd => ?_) | refine GdK_sf (fun hd => ?_) (fun hd => ?_) | refine CondK_s (fun hd => ?_) (fun hd => ?_)) <;> (try simp only [hd])) | simp (disch := first | assumption | omega | (simp only [nx] <;> omega) | fail) only [hd, hQr, hQn, c6_0, ↓YA, YB, YC, YE, YF, YZ, ↓reduceIte, Nat.reduceEqDiff, Nat.reduceAdd, Nat.reduceMul, Nat.reduceLeDiff, Int.reduceToNat, Int.reduceLE, Int.reduceLT, Int.reduceGT, Int.reduceGE, Int.reduceAdd, Int.reduceSub, Int.reduceNeg, Int.reduceBEq, Int.reduceBNe, s1])) <;> (try (have hd_ : True := hd; clear hd_ hd)))
  refine CallK.use (few_sound .no l 15 _ (by omega)) ?_
  rintro r H1 ⟨hx1, b1, rfl, f1⟩
  cases b1 with
  | false =>
    ((have hd := trivial; repeat' (first | ((first | refine GdK_st (fun hd => ?_) (fun hd => ?_) | refine GdK_sf (fun hd => ?_) (fun hd => ?_) | refine CondK_s (fun hd => ?_) (fun hd => ?_)) <;> (try simp only [hd])) | simp (disch := first | assumption | omega | (simp only [nx] <;> omega) | fail) only [hd, hQr, hQn, c6_0, ↓YA, YB, YC, YE, YF, YZ, ↓reduceIte, Nat.reduceEqDiff, Nat.reduceAdd, Nat.reduceMul, Nat.reduceLeDiff, Int.reduceToNat, Int.reduceLE, Int.reduceLT, Int.reduceGT, Int.reduceGE, Int.reduceAdd, Int.reduceSub, Int.reduceNeg, Int.reduceBEq, Int.reduceBNe])) <;> (try (have hd_ : True := hd; clear hd_ hd)))
    (refine CallK.use (awake33 _) ?_; rintro _ H2 ⟨rfl, hx2⟩)
    ((have hd := trivial; repeat' (first | ((first | refine GdK_st (fun hd => ?_) (fun hd => ?_) | refine GdK_sf (fun hd => ?_) (fun hd => ?_) | refine CondK_s (fun hd => ?_) (fun hd => ?_)) <;> (try simp only [hd])) | simp (disch := first | assumption | omega | (simp only [nx] <;> omega) | fail) only [hd, hQr, hQn, c6_0, ↓YA, YB, YC, YE, YF, YZ, ↓reduceIte, Nat.reduceEqDiff, Nat.reduceAdd, Nat.reduceMul, Nat.reduceLeDiff, Int.reduceToNat, Int.reduceLE, Int.reduceLT, Int.reduceGT, Int.reduceGE, Int.reduceAdd, Int.reduceSub, Int.reduceNeg, Int.reduceBEq, Int.reduceBNe])) <;> (try (have hd_ : True := hd; clear hd_ hd)))
    exact fin_keep rfl
  | true =>
  have f1 := f1 rfl
  have hl := f1.1
  have hs1 := f1.small
  have ga := hx1.ext.get _ _ (by simp only [AHeap.get_bump]; exact AHeap.get_alloc_self : ((H.alloc (.cells (eShp x) 24)).bump k1).get H.next = some (.cells (eShp x) 24))
  ((have hd := trivial; repeat' (first | ((first | refine GdK_st (fun hd => ?_) (fun hd => ?_) | refine GdK_sf (fun hd => ?_) (fun hd => ?_) | refine CondK_s (fun hd => ?_) (fun hd => ?_)) <;> (try simp only [hd])) | simp (disch := first | assumption | omega | (simp only [nx] <;> omega) | fail) only [hd, hQr, hQn, c6_0, ↓YA, YB, YC, YE, YF, YZ, ↓reduceIte, Nat.reduceEqDiff, Nat.reduceAdd, Nat.reduceMul, Nat.reduceLeDiff, Int.reduceToNat, Int.reduceLE, Int.reduceLT, Int.reduceGT, Int.reduceGE, Int.reduceAdd, Int.reduceSub, Int.reduceNeg, Int.reduceBEq, Int.reduceBNe, ga])) <;> (try (have hd_ : True := hd; clear hd_ hd)))
  refine CallK.use (load_sound .no x l _ (by omega) hs1) ?_
  rintro r H3 ⟨hx3, hr⟩
  have ga3 := hx3.get _ _ ga
  obtain ⟨r1, hr1⟩ : ∃ r1, r = .tup [r1, .i (loadErr x l)] ∧ ((loadErr x l ≠ 0 ∧ r1 = .sc (.pointer none)) ∨ (loadErr x l = 0 ∧ ∃ id, r1 = .ptr id 0 ∧ ArNew x l 131072 H1 H3 id)) := by
    rcases hr with ⟨h1, rfl⟩ | ⟨h1, id, rfl, h2⟩
    · exact ⟨_, rfl, .inl ⟨h1, rfl⟩⟩
    · exact ⟨_, by rw [h1], .inr ⟨h1, id, rfl, h2⟩⟩
  obtain ⟨rfl, ha⟩ := hr1
  clear hr
  rcases ha with ⟨e1, rfl⟩ | ⟨e1, ia, rfl, ha'⟩
  · have d1 : (loadErr x l != 0) = true := by simpa using e1
    ((have hd := trivial; repeat' (first | ((first | refine GdK_st (fun hd => ?_) (fun hd => ?_) | refine GdK_sf (fun hd => ?_) (fun hd => ?_) | refine CondK_s (fun hd => ?_) (fun hd => ?_)) <;> (try simp only [hd])) | simp (disch := first | assumption | omega | (simp only [nx] <;> omega) | fail) only [hd, hQr, hQn, c6_0, ↓YA, YB, YC, YE, YF, YZ, ↓reduceIte, Nat.reduceEqDiff, Nat.reduceAdd, Nat.reduceMul, Nat.reduceLeDiff, Int.reduceToNat, Int.reduceLE, Int.reduceLT, Int.reduceGT, Int.reduceGE, Int.reduceAdd, Int.reduceSub, Int.reduceNeg, Int.reduceBEq, Int.reduceBNe, d1])) <;> (try (have hd_ : True := hd; clear hd_ hd)))
    (refine CallK.use (ocanon_no top) ?_; rintro _ H4 ⟨rfl, hx4⟩)
    ((have hd := trivial; repeat' (first | ((first | refine GdK_st (fun hd => ?_) (fun hd => ?_) | refine GdK_sf (fun hd => ?_) (fun hd => ?_) | refine CondK_s (fun hd => ?_) (fun hd => ?_)) <;> (try simp only [hd])) | simp (disch := first | assumption | omega | (simp only [nx] <;> omega) | fail) only [hd, hQr, hQn, c6_0, ↓YA, YB, YC, YE, YF, YZ, ↓reduceIte, Nat.reduceEqDiff, Nat.reduceAdd, Nat.reduceMul, Nat.reduceLeDiff, Int.reduceToNat, Int.reduceLE, Int.reduceLT, Int.reduceGT, Int.reduceGE, Int.reduceAdd, Int.reduceSub, Int.reduceNeg, Int.reduceBEq, Int.reduceBNe, d1])) <;> (try (have hd_ : True := hd; clear hd_ hd)))
    (refine CallK.use (ovisit_no top) ?_; rintro _ H5 ⟨rfl, hx5⟩)
    have d2 : (((0 : Nat) : Int) == 0) = true := by decide
    ((have hd := trivial; repeat' (first | ((first | refine GdK_st (fun hd => ?_) (fun hd => ?_) | refine GdK_sf (fun hd => ?_) (fun hd => ?_) | refine CondK_s (fun hd => ?_) (fun hd => ?_)) <;> (try simp only [hd])) | simp (disch := first | assumption | omega | (simp only [nx] <;> omega) | fail) only [hd, hQr, hQn, c6_0, ↓YA, YB, YC, YE, YF, YZ, ↓reduceIte, Nat.reduceEqDiff, Nat.reduceAdd, Nat.reduceMul, Nat.reduceLeDiff, Int.reduceToNat, Int.reduceLE, Int.reduceLT, Int.reduceGT, Int.reduceGE, Int.reduceAdd, Int.reduceSub, Int.reduceNeg, Int.reduceBEq, Int.reduceBNe, d2])) <;> (try (have hd_ : True := hd; clear hd_ hd)))
    (refine CallK.use (ois_no) ?_; rintro _ H6 ⟨rfl, hx6⟩)
    ((have hd := trivial; repeat' (first | ((first | refine GdK_st (fun hd => ?_) (fun hd => ?_) | refine GdK_sf (fun hd => ?_) (fun hd => ?_) | refine CondK_s (fun hd => ?_) (fun hd => ?_)) <;> (try simp only [hd])) | simp (disch := first | assumption | omega | (simp only [nx] <;> omega) | fail) only [hd, hQr, hQn, c6_0, ↓YA, YB, YC, YE, YF, YZ, ↓reduceIte, Nat.reduceEqDiff, Nat.reduceAdd, Nat.reduceMul, Nat.reduceLeDiff, Int.reduceToNat, Int.reduceLE, Int.reduceLT, Int.reduceGT, Int.reduceGE, Int.reduceAdd, Int.reduceSub, Int.reduceNeg, Int.reduceBEq, Int.reduceBNe])) <;> (try (have hd_ : True := hd; clear hd_ hd)))
    (refine CallK.use (awake33 _) ?_; rintro _ H7 ⟨rfl, hx7⟩)
    ((have hd := trivial; repeat' (first | ((first | refine GdK_st (fun hd => ?_) (fun hd => ?_) | refine GdK_sf (fun hd => ?_) (fun hd => ?_) | refine CondK_s (fun hd => ?_) (fun hd => ?_)) <;> (try simp only [hd])) | simp (disch := first | assumption | omega | (simp only [nx] <;> omega) | fail) only [hd, hQr, hQn, c6_0, ↓YA, YB, YC, YE, YF, YZ, ↓reduceIte, Nat.reduceEqDiff, Nat.reduceAdd, Nat.reduceMul, Nat.reduceLeDiff, Int.reduceToNat, Int.reduceLE, Int.reduceLT, Int.reduceGT, Int.reduceGE, Int.reduceAdd, Int.reduceSub, Int.reduceNeg, Int.reduceBEq, Int.reduceBNe])) <;> (try (have hd_ : True := hd; clear hd_ hd)))
    exact fin_keep rfl
  obtain ⟨wa, da⟩ := load_w e1 (by omega) hs1
  have ha := LoadQ.arw ha'
  have d1 : (loadErr x l != 0) = false := by simpa using e1
  obtain ⟨p1, p2, p3⟩ := wa.bounds
  have hO := ord_of wa.down top
  generalize hC : canN x l (ordR x l top) (plF l.length (ordR x l top) (ordR x l top).length) = C at *
  have e2 : loadErr x l = 0 := e1
  have hCs : ∀ n ∈ C, smallN n := by
    rw [← hC]
    intro n hn
    obtain ⟨a, _, rfl⟩ := List.mem_map.1 hn
    exact mv_small (nodAt_small a hs1)
  have hCl : C.length = (ordR x l top).length := by rw [← hC]; simp [canN]
  have hpl := hO.plc.len
  have hpl2 := (ordR_plc wa.down ((l.length : Int) - 1)).len
  have hb1 : (-9223372036854775808 : Int) ≤ (l.length : Int) - 1 := by omega
  have hdd : decide (ordR x l top = ordR x l top) = true := by simp
  have mid : ∀ (G : AHeap) (F : Fr) (K : AHeap → Prop), True := fun _ _ _ => trivial
  clear mid
  by_cases hr : 0 ≤ top ∧ top < l.length
  · have t1 : decide (top < 0) = false := by simp; omega
    have t2 : decide (top ≥ (l.length : Int)) = false := by simp; omega
    ((have hd := trivial; repeat' (first | ((first | refine GdK_st (fun hd => ?_) (fun hd => ?_) | refine GdK_sf (fun hd => ?_) (fun hd => ?_) | refine CondK_s (fun hd => ?_) (fun hd => ?_)) <;> (try simp only [hd])) | simp (disch := first | assumption | omega | (simp only [nx] <;> omega) | fail) only [hd, hQr, hQn, c6_0, ↓YA, YB, YC, YE, YF, YZ, ↓reduceIte, Nat.reduceEqDiff, Nat.reduceAdd, Nat.reduceMul, Nat.reduceLeDiff, Int.reduceToNat, Int.reduceLE, Int.reduceLT, Int.reduceGT, Int.reduceGE, Int.reduceAdd, Int.reduceSub, Int.reduceNeg, Int.reduceBEq, Int.reduceBNe, d1])) <;> (try (have hd_ : True := hd; clear hd_ hd)))
    refine CallK.use (ocanon_sound ha wa e1 top hr hC) ?_
    rintro r H4 ⟨hx4, ib, rfl, hb⟩
    have ha4 := ha.ext hx4
    have ga4 := hx4.get _ _ ga3
    ((have hd := trivial; repeat' (first | ((first | refine GdK_st (fun hd => ?_) (fun hd => ?_) | refine GdK_sf (fun hd => ?_) (fun hd => ?_) | refine CondK_s (fun hd => ?_) (fun hd => ?_)) <;> (try simp only [hd])) | simp (disch := first | assumption | omega | (simp only [nx] <;> omega) | fail) only [hd, hQr, hQn, c6_0, ↓YA, YB, YC, YE, YF, YZ, ↓reduceIte, Nat.reduceEqDiff, Nat.reduceAdd, Nat.reduceMul, Nat.reduceLeDiff, Int.reduceToNat, Int.reduceLE, Int.reduceLT, Int.reduceGT, Int.reduceGE, Int.reduceAdd, Int.reduceSub, Int.reduceNeg, Int.reduceBEq, Int.reduceBNe, d1, ga4])) <;> (try (have hd_ : True := hd; clear hd_ hd)))
    (refine CallK.use (loads_sound .no x l _ (by omega) hs1) ?_; rintro _ _ ⟨rfl, k4, rfl⟩)
    ((have hd := trivial; repeat' (first | ((first | refine GdK_st (fun hd => ?_) (fun hd => ?_) | refine GdK_sf (fun hd => ?_) (fun hd => ?_) | refine CondK_s (fun hd => ?_) (fun hd => ?_)) <;> (try simp only [hd])) | simp (disch := first | assumption | omega | (simp only [nx] <;> omega) | fail) only [hd, hQr, hQn, c6_0, ↓YA, YB, YC, YE, YF, YZ, ↓reduceIte, Nat.reduceEqDiff, Nat.reduceAdd, Nat.reduceMul, Nat.reduceLeDiff, Int.reduceToNat, Int.reduceLE, Int.reduceLT, Int.reduceGT, Int.reduceGE, Int.reduceAdd, Int.reduceSub, Int.reduceNeg, Int.reduceBEq, Int.reduceBNe, d1, ga4])) <;> (try (have hd_ : True := hd; clear hd_ hd)))
    (refine CallK.use (ovisit_sound (ha4.ext (AHeap.Ext.refl H4).bump) wa top) ?_; rintro _ _ ⟨rfl, k5, rfl⟩)
    ((have hd := trivial; repeat' (first | ((first | refine GdK_st (fun hd => ?_) (fun hd => ?_) | refine GdK_sf (fun hd => ?_) (fun hd => ?_) | refine CondK_s (fun hd => ?_) (fun hd => ?_)) <;> (try simp only [hd])) | simp (disch := first | assumption | omega | (simp only [nx] <;> omega) | fail) only [hd, hQr, hQn, c6_0, ↓YA, YB, YC, YE, YF, YZ, ↓reduceIte, Nat.reduceEqDiff, Nat.reduceAdd, Nat.reduceMul, Nat.reduceLeDiff, Int.reduceToNat, Int.reduceLE, Int.reduceLT, Int.reduceGT, Int.reduceGE, Int.reduceAdd, Int.reduceSub, Int.reduceNeg, Int.reduceBEq, Int.reduceBNe, d1, ga4])) <;> (try (have hd_ : True := hd; clear hd_ hd)))
    (refine CallK.use (rvis_sound .no top _ (by omega) (by omega) hs1 da wa.down) ?_; rintro _ _ ⟨rfl, k6, rfl⟩)
    ((have hd := trivial; repeat' (first | ((first | refine GdK_st (fun hd => ?_) (fun hd => ?_) | refine GdK_sf (fun hd => ?_) (fun hd => ?_) | refine CondK_s (fun hd => ?_) (fun hd => ?_)) <;> (try simp only [hd])) | simp (disch := first | assumption | omega | (simp only [nx] <;> omega) | fail) only [hd, hQr, hQn, c6_0, ↓YA, YB, YC, YE, YF, YZ, ↓reduceIte, Nat.reduceEqDiff, Nat.reduceAdd, Nat.reduceMul, Nat.reduceLeDiff, Int.reduceToNat, Int.reduceLE, Int.reduceLT, Int.reduceGT, Int.reduceGE, Int.reduceAdd, Int.reduceSub, Int.reduceNeg, Int.reduceBEq, Int.reduceBNe, d1, ga4])) <;> (try (have hd_ : True := hd; clear hd_ hd)))
    (refine CallK.use (ints_sound .no .no (ordR x l top) (ordR x l top) _ (by omega)) ?_; rintro _ _ ⟨rfl, k7, rfl⟩)
    ((have hd := trivial; repeat' (first | ((first | refine GdK_st (fun hd => ?_) (fun hd => ?_) | refine GdK_sf (fun hd => ?_) (fun hd => ?_) | refine CondK_s (fun hd => ?_) (fun hd => ?_)) <;> (try simp only [hd])) | simp (disch := first | assumption | omega | (simp only [nx] <;> omega) | fail) only [hd, hQr, hQn, c6_0, ↓YA, YB, YC, YE, YF, YZ, ↓reduceIte, Nat.reduceEqDiff, Nat.reduceAdd, Nat.reduceMul, Nat.reduceLeDiff, Int.reduceToNat, Int.reduceLE, Int.reduceLT, Int.reduceGT, Int.reduceGE, Int.reduceAdd, Int.reduceSub, Int.reduceNeg, Int.reduceBEq, Int.reduceBNe, hdd, ga4])) <;> (try (have hd_ : True := hd; clear hd_ hd)))
    (refine CallK.use (rwhole_sound .no x l _ (by omega) (by omega) hs1 da) ?_; rintro _ _ ⟨rfl, k8, rfl⟩)
    ((have hd := trivial; repeat' (first | ((first | refine GdK_st (fun hd => ?_) (fun hd => ?_) | refine GdK_sf (fun hd => ?_) (fun hd => ?_) | refine CondK_s (fun hd => ?_) (fun hd => ?_)) <;> (try simp only [hd])) | simp (disch := first | assumption | omega | (simp only [nx] <;> omega) | fail) only [hd, hQr, hQn, c6_0, ↓YA, YB, YC, YE, YF, YZ, ↓reduceIte, Nat.reduceEqDiff, Nat.reduceAdd, Nat.reduceMul, Nat.reduceLeDiff, Int.reduceToNat, Int.reduceLE, Int.reduceLT, Int.reduceGT, Int.reduceGE, Int.reduceAdd, Int.reduceSub, Int.reduceNeg, Int.reduceBEq, Int.reduceBNe, ga4, hb1])) <;> (try (have hd_ : True := hd; clear hd_ hd)))
    (refine CallK.use (rvis_sound .no ((l.length : Int) - 1) _ (by omega) (by omega) hs1 da wa.down) ?_; rintro _ _ ⟨rfl, k9, rfl⟩)
    ((have hd := trivial; repeat' (first | ((first | refine GdK_st (fun hd => ?_) (fun hd => ?_) | refine GdK_sf (fun hd => ?_) (fun hd => ?_) | refine CondK_s (fun hd => ?_) (fun hd => ?_)) <;> (try simp only [hd])) | simp (disch := first | assumption | omega | (simp only [nx] <;> omega) | fail) only [hd, hQr, hQn, c6_0, ↓YA, YB, YC, YE, YF, YZ, ↓reduceIte, Nat.reduceEqDiff, Nat.reduceAdd, Nat.reduceMul, Nat.reduceLeDiff, Int.reduceToNat, Int.reduceLE, Int.reduceLT, Int.reduceGT, Int.reduceGE, Int.reduceAdd, Int.reduceSub, Int.reduceNeg, Int.reduceBEq, Int.reduceBNe, ga4])) <;> (try (have hd_ : True := hd; clear hd_ hd)))
    have hxb : AHeap.Ext H4 ((((((H4.bump k4).bump k5).bump k6).bump k7).bump k8).bump k9) := by exact AXT
    have hIs : isB x l = (wholeB x l && incB (ordR x l ((l.length : Int) - 1))) := rfl
    generalize hR : ordR x l ((l.length : Int) - 1) = R at *
    generalize (((((H4.bump k4).bump k5).bump k6).bump k7).bump k8).bump k9 = G9 at *
    have ga9 := hxb.get _ _ ga4
    have ha9 := ha4.ext hxb
    have hb9 := hb.ext hxb
    refine AW_for [1, 2, 3, 7, 9, 10, 81, 82] (σ := Unit) (fun (k : Nat) s => True) (fun k s => [(11, .b (wholeB x l && incK R k))]) (fun k s => []) () (GStep.refl _ _) (by simp only [keep_nil, keep_cons, Fr.put, Fr.get, ↓reduceIte, Nat.reduceEqDiff]; rfl) (by intro k s; rfl) (by intro k s; rfl) (by rfl) (by unfold maxLen; omega) ?_ (by simp only [FrL_nil, FrL_cons, Fr.put, Fr.get, ↓reduceIte, Nat.reduceEqDiff, and_self] <;> simp) (by simp only [ObjL_nil]) ?_ ?_
    · trivial
    · (rintro k s G hk ht hG hn; try simp only [nx] at hn)
      have hst := incK_step hk
      have hbb := bfd (wholeB x l && incK R k)
      rcases hbb with hbb | hbb
      · ((have hd := trivial; repeat' (first | ((first | refine GdK_st (fun hd => ?_) (fun hd => ?_) | refine GdK_sf (fun hd => ?_) (fun hd => ?_) | refine CondK_s (fun hd => ?_) (fun hd => ?_)) <;> (try simp only [hd])) | simp (disch := first | assumption | omega | (simp only [nx] <;> omega) | fail) only [hd, hQr, hQn, c6_0, ↓YA, YB, YC, YE, YF, YZ, ↓reduceIte, Nat.reduceEqDiff, Nat.reduceAdd, Nat.reduceMul, Nat.reduceLeDiff, Int.reduceToNat, Int.reduceLE, Int.reduceLT, Int.reduceGT, Int.reduceGE, Int.reduceAdd, Int.reduceSub, Int.reduceNeg, Int.reduceBEq, Int.reduceBNe, hbb])) <;> (try (have hd_ : True := hd; clear hd_ hd)))
        exact ⟨(), by rw [hst, ← Bool.and_assoc, hbb]; rfl, by exact HXT⟩
      · ((have hd := trivial; repeat' (first | ((first | refine GdK_st (fun hd => ?_) (fun hd => ?_) | refine GdK_sf (fun hd => ?_) (fun hd => ?_) | refine CondK_s (fun hd => ?_) (fun hd => ?_)) <;> (try simp only [hd])) | simp (disch := first | assumption | omega | (simp only [nx] <;> omega) | fail) only [hd, hQr, hQn, c6_0, ↓YA, YB, YC, YE, YF, YZ, ↓reduceIte, Nat.reduceEqDiff, Nat.reduceAdd, Nat.reduceMul, Nat.reduceLeDiff, Int.reduceToNat, Int.reduceLE, Int.reduceLT, Int.reduceGT, Int.reduceGE, Int.reduceAdd, Int.reduceSub, Int.reduceNeg, Int.reduceBEq, Int.reduceBNe, hbb])) <;> (try (have hd_ : True := hd; clear hd_ hd)))
        exact ⟨(), by rw [hst, ← Bool.and_assoc, hbb, Bool.true_and], by exact HXT⟩
    · (rintro s G ht hG hn; try simp only [nx] at hn)
      have hxG : AHeap.Ext G9 G := hG.ext
      have gaG := hxG.get _ _ ga9
      have haG := ha9.ext hxG
      have hbG := hb9.ext hxG
      rw [incK_all, ← hIs]
      ((have hd := trivial; repeat' (first | ((first | refine GdK_st (fun hd => ?_) (fun hd => ?_) | refine GdK_sf (fun hd => ?_) (fun hd => ?_) | refine CondK_s (fun hd => ?_) (fun hd => ?_)) <;> (try simp only [hd])) | simp (disch := first | assumption | omega | (simp only [nx] <;> omega) | fail) only [hd, hQr, hQn, c6_0, ↓YA, YB, YC, YE, YF, YZ, ↓reduceIte, Nat.reduceEqDiff, Nat.reduceAdd, Nat.reduceMul, Nat.reduceLeDiff, Int.reduceToNat, Int.reduceLE, Int.reduceLT, Int.reduceGT, Int.reduceGE, Int.reduceAdd, Int.reduceSub, Int.reduceNeg, Int.reduceBEq, Int.reduceBNe, gaG])) <;> (try (have hd_ : True := hd; clear hd_ hd)))
      (refine CallK.use (ois_sound haG wa) ?_; rintro _ H5 ⟨rfl, hx5⟩)
      have ga5 := hx5.get _ _ gaG
      have hb5 := hbG.ext hx5
      ((have hd := trivial; repeat' (first | ((first | refine GdK_st (fun hd => ?_) (fun hd => ?_) | refine GdK_sf (fun hd => ?_) (fun hd => ?_) | refine CondK_s (fun hd => ?_) (fun hd => ?_)) <;> (try simp only [hd])) | simp (disch := first | assumption | omega | (simp only [nx] <;> omega) | fail) only [hd, hQr, hQn, c6_0, ↓YA, YB, YC, YE, YF, YZ, ↓reduceIte, Nat.reduceEqDiff, Nat.reduceAdd, Nat.reduceMul, Nat.reduceLeDiff, Int.reduceToNat, Int.reduceLE, Int.reduceLT, Int.reduceGT, Int.reduceGE, Int.reduceAdd, Int.reduceSub, Int.reduceNeg, Int.reduceBEq, Int.reduceBNe, ga5, t1, t2])) <;> (try (have hd_ : True := hd; clear hd_ hd)))
      (refine CallK.use (nodes_sound hb5 p1 (by omega) hCs) ?_; rintro _ _ ⟨rfl, k10, rfl⟩)
      ((have hd := trivial; repeat' (first | ((first | refine GdK_st (fun hd => ?_) (fun hd => ?_) | refine GdK_sf (fun hd => ?_) (fun hd => ?_) | refine CondK_s (fun hd => ?_) (fun hd => ?_)) <;> (try simp only [hd])) | simp (disch := first | assumption | omega | (simp only [nx] <;> omega) | fail) only [hd, hQr, hQn, c6_0, ↓YA, YB, YC, YE, YF, YZ, ↓reduceIte, Nat.reduceEqDiff, Nat.reduceAdd, Nat.reduceMul, Nat.reduceLeDiff, Int.reduceToNat, Int.reduceLE, Int.reduceLT, Int.reduceGT, Int.reduceGE, Int.reduceAdd, Int.reduceSub, Int.reduceNeg, Int.reduceBEq, Int.reduceBNe, ga5])) <;> (try (have hd_ : True := hd; clear hd_ hd)))
      (refine CallK.use (canon_sound .no top _ (by omega) (by omega) (by omega) hs1 da wa.down) ?_; rintro _ _ ⟨rfl, k11, rfl⟩)
      rw [show canonR x l (ordR x l top) = C from hC]
      ((have hd := trivial; repeat' (first | ((first | refine GdK_st (fun hd => ?_) (fun hd => ?_) | refine GdK_sf (fun hd => ?_) (fun hd => ?_) | refine CondK_s (fun hd => ?_) (fun hd => ?_)) <;> (try simp only [hd])) | simp (disch := first | assumption | omega | (simp only [nx] <;> omega) | fail) only [hd, hQr, hQn, c6_0, ↓YA, YB, YC, YE, YF, YZ, ↓reduceIte, Nat.reduceEqDiff, Nat.reduceAdd, Nat.reduceMul, Nat.reduceLeDiff, Int.reduceToNat, Int.reduceLE, Int.reduceLT, Int.reduceGT, Int.reduceGE, Int.reduceAdd, Int.reduceSub, Int.reduceNeg, Int.reduceBEq, Int.reduceBNe, ga5])) <;> (try (have hd_ : True := hd; clear hd_ hd)))
      (refine CallK.use (rall_sound .no .no C C _ (by omega) hCs) ?_; rintro _ _ ⟨rfl, k12, rfl⟩)
      have d9 : decide (C = C) = true := by simp
      ((have hd := trivial; repeat' (first | ((first | refine GdK_st (fun hd => ?_) (fun hd => ?_) | refine GdK_sf (fun hd => ?_) (fun hd => ?_) | refine CondK_s (fun hd => ?_) (fun hd => ?_)) <;> (try simp only [hd])) | simp (disch := first | assumption | omega | (simp only [nx] <;> omega) | fail) only [hd, hQr, hQn, c6_0, ↓YA, YB, YC, YE, YF, YZ, ↓reduceIte, Nat.reduceEqDiff, Nat.reduceAdd, Nat.reduceMul, Nat.reduceLeDiff, Int.reduceToNat, Int.reduceLE, Int.reduceLT, Int.reduceGT, Int.reduceGE, Int.reduceAdd, Int.reduceSub, Int.reduceNeg, Int.reduceBEq, Int.reduceBNe, d9])) <;> (try (have hd_ : True := hd; clear hd_ hd)))
      (refine CallK.use (awake33 _) ?_; rintro _ H7 ⟨rfl, hx7⟩)
      ((have hd := trivial; repeat' (first | ((first | refine GdK_st (fun hd => ?_) (fun hd => ?_) | refine GdK_sf (fun hd => ?_) (fun hd => ?_) | refine CondK_s (fun hd => ?_) (fun hd => ?_)) <;> (try simp only [hd])) | simp (disch := first | assumption | omega | (simp only [nx] <;> omega) | fail) only [hd, hQr, hQn, c6_0, ↓YA, YB, YC, YE, YF, YZ, ↓reduceIte, Nat.reduceEqDiff, Nat.reduceAdd, Nat.reduceMul, Nat.reduceLeDiff, Int.reduceToNat, Int.reduceLE, Int.reduceLT, Int.reduceGT, Int.reduceGE, Int.reduceAdd, Int.reduceSub, Int.reduceNeg, Int.reduceBEq, Int.reduceBNe])) <;> (try (have hd_ : True := hd; clear hd_ hd)))
      exact fin_keep rfl
  · ((have hd := trivial; repeat' (first | ((first | refine GdK_st (fun hd => ?_) (fun hd => ?_) | refine GdK_sf (fun hd => ?_) (fun hd => ?_) | refine CondK_s (fun hd => ?_) (fun hd => ?_)) <;> (try simp only [hd])) | simp (disch := first | assumption | omega | (simp only [nx] <;> omega) | fail) only [hd, hQr, hQn, c6_0, ↓YA, YB, YC, YE, YF, YZ, ↓reduceIte, Nat.reduceEqDiff, Nat.reduceAdd, Nat.reduceMul, Nat.reduceLeDiff, Int.reduceToNat, Int.reduceLE, Int.reduceLT, Int.reduceGT, Int.reduceGE, Int.reduceAdd, Int.reduceSub, Int.reduceNeg, Int.reduceBEq, Int.reduceBNe, d1])) <;> (try (have hd_ : True := hd; clear hd_ hd)))
    (refine CallK.use (ocanon_out ha wa top hr) ?_; rintro _ H4 ⟨rfl, hx4⟩)
    have ha4 := ha.ext hx4
    have ga4 := hx4.get _ _ ga3
    ((have hd := trivial; repeat' (first | ((first | refine GdK_st (fun hd => ?_) (fun hd => ?_) | refine GdK_sf (fun hd => ?_) (fun hd => ?_) | refine CondK_s (fun hd => ?_) (fun hd => ?_)) <;> (try simp only [hd])) | simp (disch := first | assumption | omega | (simp only [nx] <;> omega) | fail) only [hd, hQr, hQn, c6_0, ↓YA, YB, YC, YE, YF, YZ, ↓reduceIte, Nat.reduceEqDiff, Nat.reduceAdd, Nat.reduceMul, Nat.reduceLeDiff, Int.reduceToNat, Int.reduceLE, Int.reduceLT, Int.reduceGT, Int.reduceGE, Int.reduceAdd, Int.reduceSub, Int.reduceNeg, Int.reduceBEq, Int.reduceBNe, d1, ga4])) <;> (try (have hd_ : True := hd; clear hd_ hd)))
    (refine CallK.use (loads_sound .no x l _ (by omega) hs1) ?_; rintro _ _ ⟨rfl, k4, rfl⟩)
    ((have hd := trivial; repeat' (first | ((first | refine GdK_st (fun hd => ?_) (fun hd => ?_) | refine GdK_sf (fun hd => ?_) (fun hd => ?_) | refine CondK_s (fun hd => ?_) (fun hd => ?_)) <;> (try simp only [hd])) | simp (disch := first | assumption | omega | (simp only [nx] <;> omega) | fail) only [hd, hQr, hQn, c6_0, ↓YA, YB, YC, YE, YF, YZ, ↓reduceIte, Nat.reduceEqDiff, Nat.reduceAdd, Nat.reduceMul, Nat.reduceLeDiff, Int.reduceToNat, Int.reduceLE, Int.reduceLT, Int.reduceGT, Int.reduceGE, Int.reduceAdd, Int.reduceSub, Int.reduceNeg, Int.reduceBEq, Int.reduceBNe, d1, ga4])) <;> (try (have hd_ : True := hd; clear hd_ hd)))
    (refine CallK.use (ovisit_sound (ha4.ext (AHeap.Ext.refl H4).bump) wa top) ?_; rintro _ _ ⟨rfl, k5, rfl⟩)
    ((have hd := trivial; repeat' (first | ((first | refine GdK_st (fun hd => ?_) (fun hd => ?_) | refine GdK_sf (fun hd => ?_) (fun hd => ?_) | refine CondK_s (fun hd => ?_) (fun hd => ?_)) <;> (try simp only [hd])) | simp (disch := first | assumption | omega | (simp only [nx] <;> omega) | fail) only [hd, hQr, hQn, c6_0, ↓YA, YB, YC, YE, YF, YZ, ↓reduceIte, Nat.reduceEqDiff, Nat.reduceAdd, Nat.reduceMul, Nat.reduceLeDiff, Int.reduceToNat, Int.reduceLE, Int.reduceLT, Int.reduceGT, Int.reduceGE, Int.reduceAdd, Int.reduceSub, Int.reduceNeg, Int.reduceBEq, Int.reduceBNe, d1, ga4])) <;> (try (have hd_ : True := hd; clear hd_ hd)))
    (refine CallK.use (rvis_sound .no top _ (by omega) (by omega) hs1 da wa.down) ?_; rintro _ _ ⟨rfl, k6, rfl⟩)
    ((have hd := trivial; repeat' (first | ((first | refine GdK_st (fun hd => ?_) (fun hd => ?_) | refine GdK_sf (fun hd => ?_) (fun hd => ?_) | refine CondK_s (fun hd => ?_) (fun hd => ?_)) <;> (try simp only [hd])) | simp (disch := first | assumption | omega | (simp only [nx] <;> omega) | fail) only [hd, hQr, hQn, c6_0, ↓YA, YB, YC, YE, YF, YZ, ↓reduceIte, Nat.reduceEqDiff, Nat.reduceAdd, Nat.reduceMul, Nat.reduceLeDiff, Int.reduceToNat, Int.reduceLE, Int.reduceLT, Int.reduceGT, Int.reduceGE, Int.reduceAdd, Int.reduceSub, Int.reduceNeg, Int.reduceBEq, Int.reduceBNe, d1, ga4])) <;> (try (have hd_ : True := hd; clear hd_ hd)))
    (refine CallK.use (ints_sound .no .no (ordR x l top) (ordR x l top) _ (by omega)) ?_; rintro _ _ ⟨rfl, k7, rfl⟩)
    ((have hd := trivial; repeat' (first | ((first | refine GdK_st (fun hd => ?_) (fun hd => ?_) | refine GdK_sf (fun hd => ?_) (fun hd => ?_) | refine CondK_s (fun hd => ?_) (fun hd => ?_)) <;> (try simp only [hd])) | simp (disch := first | assumption | omega | (simp only [nx] <;> omega) | fail) only [hd, hQr, hQn, c6_0, ↓YA, YB, YC, YE, YF, YZ, ↓reduceIte, Nat.reduceEqDiff, Nat.reduceAdd, Nat.reduceMul, Nat.reduceLeDiff, Int.reduceToNat, Int.reduceLE, Int.reduceLT, Int.reduceGT, Int.reduceGE, Int.reduceAdd, Int.reduceSub, Int.reduceNeg, Int.reduceBEq, Int.reduceBNe, hdd, ga4])) <;> (try (have hd_ : True := hd; clear hd_ hd)))
    (refine CallK.use (rwhole_sound .no x l _ (by omega) (by omega) hs1 da) ?_; rintro _ _ ⟨rfl, k8, rfl⟩)
    ((have hd := trivial; repeat' (first | ((first | refine GdK_st (fun hd => ?_) (fun hd => ?_) | refine GdK_sf (fun hd => ?_) (fun hd => ?_) | refine CondK_s (fun hd => ?_) (fun hd => ?_)) <;> (try simp only [hd])) | simp (disch := first | assumption | omega | (simp only [nx] <;> omega) | fail) only [hd, hQr, hQn, c6_0, ↓YA, YB, YC, YE, YF, YZ, ↓reduceIte, Nat.reduceEqDiff, Nat.reduceAdd, Nat.reduceMul, Nat.reduceLeDiff, Int.reduceToNat, Int.reduceLE, Int.reduceLT, Int.reduceGT, Int.reduceGE, Int.reduceAdd, Int.reduceSub, Int.reduceNeg, Int.reduceBEq, Int.reduceBNe, ga4, hb1])) <;> (try (have hd_ : True := hd; clear hd_ hd)))
    (refine CallK.use (rvis_sound .no ((l.length : Int) - 1) _ (by omega) (by omega) hs1 da wa.down) ?_; rintro _ _ ⟨rfl, k9, rfl⟩)
    ((have hd := trivial; repeat' (first | ((first | refine GdK_st (fun hd => ?_) (fun hd => ?_) | refine GdK_sf (fun hd => ?_) (fun hd => ?_) | refine CondK_s (fun hd => ?_) (fun hd => ?_)) <;> (try simp only [hd])) | simp (disch := first | assumption | omega | (simp only [nx] <;> omega) | fail) only [hd, hQr, hQn, c6_0, ↓YA, YB, YC, YE, YF, YZ, ↓reduceIte, Nat.reduceEqDiff, Nat.reduceAdd, Nat.reduceMul, Nat.reduceLeDiff, Int.reduceToNat, Int.reduceLE, Int.reduceLT, Int.reduceGT, Int.reduceGE, Int.reduceAdd, Int.reduceSub, Int.reduceNeg, Int.reduceBEq, Int.reduceBNe, ga4])) <;> (try (have hd_ : True := hd; clear hd_ hd)))
    have hxb : AHeap.Ext H4 ((((((H4.bump k4).bump k5).bump k6).bump k7).bump k8).bump k9) := by exact AXT
    have hIs : isB x l = (wholeB x l && incB (ordR x l ((l.length : Int) - 1))) := rfl
    generalize hR : ordR x l ((l.length : Int) - 1) = R at *
    generalize (((((H4.bump k4).bump k5).bump k6).bump k7).bump k8).bump k9 = G9 at *
    have ga9 := hxb.get _ _ ga4
    have ha9 := ha4.ext hxb
    refine AW_for [1, 2, 3, 7, 9, 10, 81, 82] (σ := Unit) (fun (k : Nat) s => True) (fun k s => [(11, .b (wholeB x l && incK R k))]) (fun k s => []) () (GStep.refl _ _) (by simp only [keep_nil, keep_cons, Fr.put, Fr.get, ↓reduceIte, Nat.reduceEqDiff]; rfl) (by intro k s; rfl) (by intro k s; rfl) (by rfl) (by unfold maxLen; omega) ?_ (by simp only [FrL_nil, FrL_cons, Fr.put, Fr.get, ↓reduceIte, Nat.reduceEqDiff, and_self] <;> simp) (by simp only [ObjL_nil]) ?_ ?_
    · trivial
    · (rintro k s G hk ht hG hn; try simp only [nx] at hn)
      have hst := incK_step hk
      have hbb := bfd (wholeB x l && incK R k)
      rcases hbb with hbb | hbb
      · ((have hd := trivial; repeat' (first | ((first | refine GdK_st (fun hd => ?_) (fun hd => ?_) | refine GdK_sf (fun hd => ?_) (fun hd => ?_) | refine CondK_s (fun hd => ?_) (fun hd => ?_)) <;> (try simp only [hd])) | simp (disch := first | assumption | omega | (simp only [nx] <;> omega) | fail) only [hd, hQr, hQn, c6_0, ↓YA, YB, YC, YE, YF, YZ, ↓reduceIte, Nat.reduceEqDiff, Nat.reduceAdd, Nat.reduceMul, Nat.reduceLeDiff, Int.reduceToNat, Int.reduceLE, Int.reduceLT, Int.reduceGT, Int.reduceGE, Int.reduceAdd, Int.reduceSub, Int.reduceNeg, Int.reduceBEq, Int.reduceBNe, hbb])) <;> (try (have hd_ : True := hd; clear hd_ hd)))
        exact ⟨(), by rw [hst, ← Bool.and_assoc, hbb]; rfl, by exact HXT⟩
      · ((have hd := trivial; repeat' (first | ((first | refine GdK_st (fun hd => ?_) (fun hd => ?_) | refine GdK_sf (fun hd => ?_) (fun hd => ?_) | refine CondK_s (fun hd => ?_) (fun hd => ?_)) <;> (try simp only [hd])) | simp (disch := first | assumption | omega | (simp only [nx] <;> omega) | fail) only [hd, hQr, hQn, c6_0, ↓YA, YB, YC, YE, YF, YZ, ↓reduceIte, Nat.reduceEqDiff, Nat.reduceAdd, Nat.reduceMul, Nat.reduceLeDiff, Int.reduceToNat, Int.reduceLE, Int.reduceLT, Int.reduceGT, Int.reduceGE, Int.reduceAdd, Int.reduceSub, Int.reduceNeg, Int.reduceBEq, Int.reduceBNe, hbb])) <;> (try (have hd_ : True := hd; clear hd_ hd)))
        exact ⟨(), by rw [hst, ← Bool.and_assoc, hbb, Bool.true_and], by exact HXT⟩
    · (rintro s G ht hG hn; try simp only [nx] at hn)
      have hxG : AHeap.Ext G9 G := hG.ext
      have haG := ha9.ext hxG
      rw [incK_all, ← hIs]
      ((have hd := trivial; repeat' (first | ((first | refine GdK_st (fun hd => ?_) (fun hd => ?_) | refine GdK_sf (fun hd => ?_) (fun hd => ?_) | refine CondK_s (fun hd => ?_) (fun hd => ?_)) <;> (try simp only [hd])) | simp (disch := first | assumption | omega | (simp only [nx] <;> omega) | fail) only [hd, hQr, hQn, c6_0, ↓YA, YB, YC, YE, YF, YZ, ↓reduceIte, Nat.reduceEqDiff, Nat.reduceAdd, Nat.reduceMul, Nat.reduceLeDiff, Int.reduceToNat, Int.reduceLE, Int.reduceLT, Int.reduceGT, Int.reduceGE, Int.reduceAdd, Int.reduceSub, Int.reduceNeg, Int.reduceBEq, Int.reduceBNe])) <;> (try (have hd_ : True := hd; clear hd_ hd)))
      (refine CallK.use (ois_sound haG wa) ?_; rintro _ H5 ⟨rfl, hx5⟩)
      by_cases c : top < 0
      · have d2 : decide (top < 0) = true := by simpa using c
        ((have hd := trivial; repeat' (first | ((first | refine GdK_st (fun hd => ?_) (fun hd => ?_) | refine GdK_sf (fun hd => ?_) (fun hd => ?_) | refine CondK_s (fun hd => ?_) (fun hd => ?_)) <;> (try simp only [hd])) | simp (disch := first | assumption | omega | (simp only [nx] <;> omega) | fail) only [hd, hQr, hQn, c6_0, ↓YA, YB, YC, YE, YF, YZ, ↓reduceIte, Nat.reduceEqDiff, Nat.reduceAdd, Nat.reduceMul, Nat.reduceLeDiff, Int.reduceToNat, Int.reduceLE, Int.reduceLT, Int.reduceGT, Int.reduceGE, Int.reduceAdd, Int.reduceSub, Int.reduceNeg, Int.reduceBEq, Int.reduceBNe, d2])) <;> (try (have hd_ : True := hd; clear hd_ hd)))
        (refine CallK.use (awake33 _) ?_; rintro _ H7 ⟨rfl, hx7⟩)
        ((have hd := trivial; repeat' (first | ((first | refine GdK_st (fun hd => ?_) (fun hd => ?_) | refine GdK_sf (fun hd => ?_) (fun hd => ?_) | refine CondK_s (fun hd => ?_) (fun hd => ?_)) <;> (try simp only [hd])) | simp (disch := first | assumption | omega | (simp only [nx] <;> omega) | fail) only [hd, hQr, hQn, c6_0, ↓YA, YB, YC, YE, YF, YZ, ↓reduceIte, Nat.reduceEqDiff, Nat.reduceAdd, Nat.reduceMul, Nat.reduceLeDiff, Int.reduceToNat, Int.reduceLE, Int.reduceLT, Int.reduceGT, Int.reduceGE, Int.reduceAdd, Int.reduceSub, Int.reduceNeg, Int.reduceBEq, Int.reduceBNe])) <;> (try (have hd_ : True := hd; clear hd_ hd)))
        exact fin_keep rfl
      · have d2 : decide (top < 0) = false := by simpa using c
        have d3 : decide (top ≥ (l.length : Int)) = true := by simp; omega
        ((have hd := trivial; repeat' (first | ((first | refine GdK_st (fun hd => ?_) (fun hd => ?_) | refine GdK_sf (fun hd => ?_) (fun hd => ?_) | refine CondK_s (fun hd => ?_) (fun hd => ?_)) <;> (try simp only [hd])) | simp (disch := first | assumption | omega | (simp only [nx] <;> omega) | fail) only [hd, hQr, hQn, c6_0, ↓YA, YB, YC, YE, YF, YZ, ↓reduceIte, Nat.reduceEqDiff, Nat.reduceAdd, Nat.reduceMul, Nat.reduceLeDiff, Int.reduceToNat, Int.reduceLE, Int.reduceLT, Int.reduceGT, Int.reduceGE, Int.reduceAdd, Int.reduceSub, Int.reduceNeg, Int.reduceBEq, Int.reduceBNe, d2, d3])) <;> (try (have hd_ : True := hd; clear hd_ hd)))
        (refine CallK.use (awake33 _) ?_; rintro _ H7 ⟨rfl, hx7⟩)
        ((have hd := trivial; repeat' (first | ((first | refine GdK_st (fun hd => ?_) (fun hd => ?_) | refine GdK_sf (fun hd => ?_) (fun hd => ?_) | refine CondK_s (fun hd => ?_) (fun hd => ?_)) <;> (try simp only [hd])) | simp (disch := first | assumption | omega | (simp only [nx] <;> omega) | fail) only [hd, hQr, hQn, c6_0, ↓YA, YB, YC, YE, YF, YZ, ↓reduceIte, Nat.reduceEqDiff, Nat.reduceAdd, Nat.reduceMul, Nat.reduceLeDiff, Int.reduceToNat, Int.reduceLE, Int.reduceLT, Int.reduceGT, Int.reduceGE, Int.reduceAdd, Int.reduceSub, Int.reduceNeg, Int.reduceBEq, Int.reduceBNe])) <;> (try (have hd_ : True := hd; clear hd_ hd)))
        exact fin_keep rfl
end Go.Proofs.Ytgnpihhakogeeaa
