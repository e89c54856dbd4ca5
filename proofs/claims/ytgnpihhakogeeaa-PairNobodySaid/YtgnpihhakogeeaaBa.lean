/- The abstract machine is sound: append. -/
import Derived.Test.YtgnpihhakogeeaaB9
import Derived.Laws.BytesString
namespace Go.Proofs.Ytgnpihhakogeeaa
set_option linter.unusedSimpArgs false
set_option linter.unusedVariables false
open Go.RowKit

section
variable {P : Program} {g g' : Gh} {H H' : AHeap} {w w' : World} {N : Nat} {F : Fr} {a : Act}
theorem set_tok (hW : WR g H w) {id n n' cap' b' E sz : Nat} {carr' : Array Value} (hget : H.get id = some (.tok n E sz)) (hn : n < n') (hother : ∀ x, x < w.heap.size → ¬ Owns g id (.tok n E sz) x → w'.heap[x]? = w.heap[x]?)
    (hcell : ∀ x j, g.RO x j → w'.cell? ⟨x, j, none⟩ = w.cell? ⟨x, j, none⟩) (hb' : w.heap.size ≤ b' ∨ Owns g id (.tok n E sz) b') (hbl : w'.heap[b']? = some (.cells carr' E (0, 0))) (hcs : carr'.size = cap' * sz) (hnc : n' ≤ cap') (hcm : cap' ≤ maxLen)
    (hsz : w.heap.size ≤ w'.heap.size) (h1 : w'.os = w.os) (h2 : w'.tape = w.tape) (h3 : w'.output = w.output) :
    WR (g.tok id n' cap' b' sz) (H.set id (.tok n' E sz)) w' ∧ Stp g H w (g.tok id n' cap' b' sz) (H.set id (.tok n' E sz)) w' := by
  have hlt := AHeap.lt hget
  obtain ⟨cap, b, hτ, hnc0, hcm0, hblk⟩ := hW.obj id _ hget
  have hle : g.le (g.tok id n' cap' b' sz) w w' := le_tok hW (fun fr c x h => by rw [hτ] at h; simp at h; exact .inl (by omega)) hcell
  have hlt' : b' < w'.heap.size := (Array.getElem?_eq_some_iff.1 hbl).1
  have hg2 : ∀ i x, (H.set id (.tok n' E sz)).get i = some x → (i = id ∧ x = .tok n' E sz) ∨ (i ≠ id ∧ H.get i = some x) := by
    intro i x h
    by_cases e : i = id
    · subst e; rw [AHeap.get_set_self hlt] at h; injection h with h; exact .inl ⟨rfl, h.symm⟩
    · rw [AHeap.get_set_ne e] at h; exact .inr ⟨e, h⟩
  have hown : ∀ i o x, i ≠ id → (Owns (g.tok id n' cap' b' sz) i o x ↔ Owns g i o x) := fun i o x hne => Owns.le (by simp [Gh.tok, hne]) rfl
  have hnew : ∀ x, Owns (g.tok id n' cap' b' sz) id (.tok n' E sz) x → x = b' := by
    rintro x ⟨fr, c, h, hc⟩
    simp [Gh.tok] at h
    omega
  have hapart : ∀ i o x, i ≠ id → H.get i = some o → Owns g i o x → x ≠ b' := by
    rintro i o x hne hi ho rfl
    rcases hb' with hb' | hb'
    · have := hW.bd i o _ hi ho; omega
    · exact hne (hW.inj i id o _ _ hi hget ho hb')
  have hkeep : ∀ i o x, i ≠ id → H.get i = some o → Owns g i o x → w'.heap[x]? = w.heap[x]? := by
    intro i o x hne hi ho
    exact hother x (hW.bd i o x hi ho) (fun hx => hne (hW.inj i id o _ x hi hget ho hx))
  refine ⟨⟨fun i x h => ?_, fun i i' x x' y k1 k2 k3 k4 => ?_, fun i hi => ?_, fun i x y k1 k2 => ?_, fun x j h => ?_⟩, ⟨hle, Nat.le_refl _, h1, h2, h3, hsz, fun x hx hn' => hother x hx (fun ho => hn' ⟨id, _, hget, ho⟩), fun x hx ⟨i, o, k1, k2⟩ => ?_, fun x j hx h => by
      rcases h with h | ⟨rfl, _⟩
      · exact .inl h
      · rcases hb' with hb' | hb'
        · omega
        · exact .inr ⟨id, _, hget, hb'⟩⟩⟩
  · rcases hg2 i x h with ⟨rfl, rfl⟩ | ⟨hne, h⟩
    · refine ⟨cap', b', by simp [Gh.tok], hnc, hcm, fun _ => ⟨carr', hbl, hcs, fun j hj hr => ?_⟩⟩
      rcases hr with hr | ⟨_, hr, _⟩
      · rcases hb' with hb' | ⟨fr, c, ho, hc⟩
        · have := hW.ro _ _ hr; omega
        · rw [hτ] at ho
          simp at ho
          obtain ⟨rfl, rfl, rfl⟩ := ho
          obtain ⟨_, _, _, h9⟩ := hblk hc
          exact h9 j (Nat.le_trans (Nat.mul_le_mul_right _ (by omega)) hj) hr
      · omega
    · refine (hW.obj i x h).mono hle (fun y hy => hkeep i x y hne h hy) (fun y j hy hr => ?_) (by simp [Gh.tok, hne]) rfl (fun _ => rfl)
      rcases hr with hr | ⟨rfl, _⟩
      · exact hr
      · exact absurd rfl (hapart i x _ hne h hy)
  · rcases hg2 i x k1 with ⟨e1, e2⟩ | ⟨hne, k1⟩
    · rcases hg2 i' x' k2 with ⟨e3, _⟩ | ⟨hne2, k2⟩
      · omega
      · have e := hnew y (by have h := k3; rw [e1, e2] at h; exact h)
        exact absurd e (hapart i' x' y hne2 k2 ((hown i' x' y hne2).1 k4))
    · rcases hg2 i' x' k2 with ⟨e3, e4⟩ | ⟨hne2, k2⟩
      · have e := hnew y (by have h := k4; rw [e3, e4] at h; exact h)
        exact absurd e (hapart i x y hne k1 ((hown i x y hne).1 k3))
      · exact hW.inj i i' x x' y k1 k2 ((hown i x y hne).1 k3) ((hown i' x' y hne2).1 k4)
  · have h := hW.dom i hi
    simp only [AHeap.next_set] at hi
    refine ⟨h.1, ?_, h.2.2⟩
    simp [Gh.tok, h.2.1]; omega
  · rcases hg2 i x k1 with ⟨rfl, rfl⟩ | ⟨hne, k1⟩
    · rw [hnew y k2]; exact hlt'
    · have := hW.bd i x y k1 ((hown i x y hne).1 k2); omega
  · rcases h with h | ⟨rfl, _⟩
    · have := hW.ro x j h; omega
    · exact hlt'
  · rcases hg2 i o k1 with ⟨rfl, rfl⟩ | ⟨hne, k1⟩
    · rw [hnew x k2] at hx ⊢
      rcases hb' with hb' | hb'
      · omega
      · exact ⟨i, _, hget, hb'⟩
    · exact ⟨i, o, k1, (hown i o x hne).1 k2⟩
/-- an object that is set to what it is -/
theorem set_same (hW : WR g H w) {id : Nat} {o : AObj} (hget : H.get id = some o) : WR g (H.set id o) w ∧ Stp g H w g (H.set id o) w := by
  have hlt := AHeap.lt hget
  have e : ∀ i x, (H.set id o).get i = some x ↔ H.get i = some x := by
    intro i x
    by_cases e : i = id
    · subst e; rw [AHeap.get_set_self hlt, hget]
    · rw [AHeap.get_set_ne e]
  refine ⟨⟨fun i x h => hW.obj i x ((e i x).1 h), fun i i' x x' b h1 h2 => hW.inj i i' x x' b ((e _ _).1 h1) ((e _ _).1 h2), hW.dom, fun i x b h => hW.bd i x b ((e _ _).1 h), hW.ro⟩, ⟨.refl _ _, Nat.le_refl _, rfl, rfl, rfl, Nat.le_refl _, fun _ _ _ => rfl, fun b _ ⟨i, x, h1, h2⟩ => ⟨i, x, (e _ _).1 h1, h2⟩, fun _ _ _ h => .inl h⟩⟩
theorem chunk_flat (sz : Nat) : ∀ (n : Nat) (cs : List AV), n * sz ≤ cs.length → (chunk sz n cs).flatten = cs.take (n * sz) ∧ (chunk sz n cs).length = n ∧ ∀ r ∈ chunk sz n cs, r.length = sz
  | 0, cs, _ => by simp [chunk]
  | n + 1, cs, h => by
    have e : (n + 1) * sz = sz + n * sz := by rw [Nat.add_mul]; omega
    obtain ⟨h1, h2, h3⟩ := chunk_flat sz n (cs.drop sz) (by simp; omega)
    refine ⟨?_, by simp [chunk, h2], fun r hr => ?_⟩
    · simp only [chunk, List.flatten_cons, h1, e]
      rw [List.take_add]
    · simp only [chunk, List.mem_cons] at hr
      rcases hr with rfl | hr
      · simp; omega
      · exact h3 r hr
/-- what is appended, as it lies -/
theorem src_ok (hW : WR g H w) {sz : Nat} {x : AV} {u : Value} {xs : List (List AV)} (hx : VR g w x u) (hr : rowsIn H sz x = some xs) (hl : allLen sz xs = true) :
    ∃ A c news, u = .slice A xs.length c ∧ VRs g w xs.flatten news ∧ news.length = xs.length * sz ∧ (∀ r ∈ xs, r.length = sz ∧ ∀ y ∈ r, y.one = true) ∧ (xs ≠ [] → ∃ ad, A = some ad ∧ ∀ j v, news[j]? = some v → w.cell? (ad.add j) = some v) := by
  have hlen : ∀ r ∈ xs, r.length = sz := fun r hr => by simpa using List.all_eq_true.1 hl r hr
  cases hx with
  | sl tok rows A c sz' b o f hc hm hA hsz hcell hv ht =>
    simp only [rowsIn, Option.some.injEq] at hr
    subst hr
    obtain ⟨A', c', sz2, b', o', ys, e, _, _, hA', hsz', hV, hcell', _⟩ := vr_cells (VR.sl tok rows A c sz' b o f hc hm hA hsz hcell hv ht)
    injection e with e1 e2 e3
    subst e1 e3
    refine ⟨A, c, ys, rfl, hV, by rw [← hV.1, flatLen hlen], fun r hr => ⟨hlen r hr, (hsz' r hr).2⟩, fun hne => ⟨_, hA' hne, fun j v hj => ?_⟩⟩
    rw [addr_add]
    exact (hcell' j v hj).1
  | arr id off len cap b hid hc hm =>
    simp only [rowsIn] at hr
    cases ho : H.get id with
    | none => rw [ho] at hr; cases hr
    | some ob =>
      rw [ho] at hr
      cases ob with
      | tok n E s => cases hr
      | map kk es d => cases hr
      | cells cs E =>
        simp only at hr
        split at hr
        · rename_i hle
          injection hr with hr
          subst hr
          obtain ⟨b', carr, h1, h2, h3, h4, h5⟩ := hW.obj id _ ho
          rw [hid] at h1
          injection h1 with h1
          subst h1
          obtain ⟨k1, k2, k3⟩ := chunk_flat sz len (cs.drop off) (by simp; omega)
          have hcl : cs.length = carr.size := by have := h3.1; simpa using this
          refine ⟨_, cap, (carr.toList.drop off).take (len * sz), by rw [k2], ?_, by rw [k2]; simp; omega, fun r hr => ⟨k3 r hr, fun y hy => ?_⟩, fun _ => ⟨_, rfl, fun j v hj => ?_⟩⟩
          · rw [k1]; exact (h3.drop off).take _
          · have : y ∈ (chunk sz len (cs.drop off)).flatten := List.mem_flatten.2 ⟨r, hr, hy⟩
            rw [k1] at this
            exact h4 y (List.mem_of_mem_drop (List.mem_of_mem_take this))
          · rw [addr_add]
            rw [List.getElem?_take] at hj
            split at hj
            · rw [List.getElem?_drop] at hj
              simp only [World.cell?, h2]
              simpa using hj
            · cases hj
        · cases hr
  | _ => cases hr
theorem bytesA_flat : ∀ {rows : List (List AV)} {ns : List Int}, bytesA rows = some ns → rows.flatten = ns.map (fun n => AV.sc (.int .u8 n)) ∧ rows.length = ns.length ∧ allLen 1 rows = true
  | [], ns, h => by simp only [bytesA, Option.some.injEq] at h; subst h; exact ⟨rfl, rfl, rfl⟩
  | r :: rs, ns, h => by
    simp only [bytesA] at h
    split at h
    · rename_i n ns' h1 h2
      simp only [Option.some.injEq] at h
      subst h
      obtain ⟨k1, k2, k3⟩ := bytesA_flat h2
      unfold byteRow at h1
      split at h1
      · simp only [Option.some.injEq] at h1
        subst h1
        exact ⟨by simp [k1], by simp [k2], by simpa [allLen] using k3⟩
      · cases h1
    · cases h
theorem sob_ok (hW : WR g H w) {src dst e : TypeId} {x v : AV} {u : Value} (h1 : P.underlying src = some (.slice e)) (h2 : P.underlying dst = some .string) (h3 : P.underlying e = some (.int .u8)) (hx : VR g w x u) (he : AOp.ev F H (.sob (.c x)) = some (v, H')) : DoesV P g H w (convert src dst u) v H' := by
  simp only [AOp.ev, AX.ev] at he
  split at he
  · rename_i rows hr
    split at he
    · rename_i ns hb
      simp only [Option.some.injEq, Prod.mk.injEq] at he
      obtain ⟨rfl, rfl⟩ := he
      obtain ⟨k1, k2, k3⟩ := bytesA_flat hb
      obtain ⟨A, c, news, rfl, hV, hnl, _, hcell⟩ := src_ok hW hx hr k3
      rw [k1] at hV
      have hnews : news = ns.map (Value.int .u8) := by
        refine List.ext_getElem? fun i => ?_
        by_cases hi : i < ns.length
        · have hi2 : i < news.length := by have := hV.1; simp at this; omega
          have hv := hV.2 i (.sc (.int .u8 ns[i])) news[i] (by simp [hi]) (List.getElem?_eq_getElem hi2)
          rw [List.getElem?_eq_getElem hi2]
          generalize news[i] = q at hv
          cases hv
          simp [hi]
        · rw [List.getElem?_eq_none (by have := hV.1; simp at this; omega), List.getElem?_eq_none (by simp; omega)]
      refine .here (u := .string (strOf ns)) ?_ (.sc _) hW
      rw [run_convert_bytes_string w src dst e A _ c h1 h3 h2]
      cases A with
      | none =>
        have : rows = [] := by
          by_cases hn : rows = []
          · exact hn
          · obtain ⟨ad, h, _⟩ := hcell hn; cases h
        subst this
        simp only [bytesA, Option.some.injEq] at hb
        subst hb
        simp [Conv.bytesToString, strOf, Sem.run_pure]
      | some ad =>
        refine run_bytesToString w ad _ c ns ?_
        rw [k2, ← hnews]
        have hll : ns.length = news.length := by rw [hnews]; simp
        rw [hll]
        refine run_loadCells_list w ad news fun j v hj => ?_
        have hne : rows ≠ [] := by
          intro h
          subst h
          have := (List.getElem?_eq_some_iff.1 hj).1
          rw [← hll, ← k2] at this
          simp at this
        obtain ⟨ad', h, hc⟩ := hcell hne
        injection h with h
        subst h
        exact hc j v hj
    · cases he
  · cases he
theorem append_none (t ty e : TypeId) (i : TypeInfo) (ht : P.underlying t = some (.slice e)) (hi : P.info? e = some i) (A B : Option Addr) (n c d : Nat) (hnc : n ≤ c) : (Builtin.append_ #[t, t] ty #[.slice A n c, .slice B 0 d]).run P w = .ok (.slice A n c) w := by
  cases A <;> cases B <;> simp [Builtin.append_, run_underlying ht, sizeOf, typeInfo, hi, Builtin.lenOf, Builtin.firstCells, hnc, storeCells, loadCells, loadCellsFrom]
/-- a row that was just made, by append -/
theorem own_new {E sz n : Nat} {v : Value} {xs : List Value} {base : Nat} (h : w'.ownsRow base E sz v n xs) (hn : 0 < n) : ∃ b cap carr, v = .slice (some ⟨b, 0, none⟩) n cap ∧ base ≤ b ∧ w'.heap[b]? = some (.cells carr E (0, 0)) ∧ n ≤ cap ∧ cap ≤ maxLen ∧ carr.size = cap * sz ∧ carr.toList.take (n * sz) = xs ∧ xs.length = n * sz := by
  rcases h.2 with ⟨_, h0⟩ | ⟨b, cap, carr, h1, h2, h3, h4, h5, h6, h7⟩
  · omega
  · exact ⟨b, cap, carr, h1, h2, h3, h4, h5, h6, h7, h.1⟩
theorem row_cells {b E : Nat} {carr : Array Value} {xs : List Value} {m : Nat} (hb : w'.heap[b]? = some (.cells carr E (0, 0))) (ht : carr.toList.take m = xs) (hl : xs.length = m) (j : Nat) (u : Value) (hj : xs[j]? = some u) : w'.cell? ⟨b, 0 + j, none⟩ = some u ∧ j < m := by
  have hjl : j < m := by rw [← hl]; exact (List.getElem?_eq_some_iff.1 hj).1
  rw [← ht, List.getElem?_take, if_pos hjl] at hj
  refine ⟨?_, hjl⟩
  simp only [World.cell?, hb, Nat.zero_add]
  simpa using hj
/-- append where there is no room -/
theorem append_grow {t ty e : TypeId} {i : TypeInfo} {z : Value} {A : Option Addr} {n c : Nat} {olds : List Value} {ad : Addr} {m d : Nat} {news : List Value} (ht : P.underlying t = some (.slice e)) (hi : P.info? e = some i) (hz : i.zero = some z) (hzs : z.cells.size = i.size) (h0 : 0 < i.size)
    (holds : olds.length = n * i.size) (hA : (A = none ∧ n = 0 ∧ c = 0) ∨ ∃ bd, A = some bd ∧ ∀ j v, olds[j]? = some v → w.cell? (bd.add j) = some v) (hnews : news.length = m * i.size) (hn : ∀ j v, news[j]? = some v → w.cell? (ad.add j) = some v) (h1 : ∀ v ∈ news, v.oneCell' = true) (hm : 0 < m) (hc : c < n + m) (h63 : n + m ≤ maxLen) (hby : (n + m) * i.bytes ≤ 140737488355328) :
    ∃ v' w', (Builtin.append_ #[t, t] ty #[.slice A n c, .slice (some ad) m d]).run P w = .ok v' w' ∧ w'.ownsRow w.heap.size e i.size v' (n + m) (olds ++ news) ∧ w.grownBy w' none := by
  rcases hA with ⟨rfl, rfl, rfl⟩ | ⟨bd, rfl, hold⟩
  · have e0 : olds = [] := List.eq_nil_of_length_eq_zero (by simpa using holds)
    subst e0
    obtain ⟨v', w', h3, h4, h5, h6, h7⟩ := run_append_own_at (P := P) w w.heap.size t ty e i z i.size i.bytes ht hi hz rfl rfl hzs h0 (.slice none 0 0) 0 [] (World.ownsRow_nil _ _ _ _) ad m d news hnews hn h1 h63 hby (Nat.le_refl _)
    exact ⟨v', w', h3, h4, h5⟩
  · exact run_append_arg_grows (P := P) w t ty e i z i.size i.bytes ht hi hz rfl rfl hzs h0 bd n c olds holds hold ad m d news hnews hn hc h63 hby
theorem app_ok (hW : WR g H w) {t ty e : TypeId} {i : TypeInfo} {z : Value} {x y v : AV} {u r : Value} (ht : P.underlying t = some (.slice e)) (hi : P.info? e = some i) (hz : i.zero = some z) (h0 : 0 < i.size) (hzs : z.cells.size = i.size) (hx : VR g w x u) (hy : VR g w y r)
    (he : AOp.ev F H (.app e i.size i.bytes (.c x) (.c y)) = some (v, H')) : DoesV P g H w (Builtin.append_ #[t, t] ty #[u, r]) v H' := by
  simp only [AOp.ev, AX.ev] at he
  split at he
  case h_2 => cases he
  rename_i tok rows xs hro
  split at he
  case isFalse => cases he
  rename_i hcond
  obtain ⟨hal, h63, hby, hrl⟩ := hcond
  obtain ⟨B, d, news, hB, hnV, hnl, hn1, hnA⟩ := src_ok hW hy hro hal
  obtain ⟨A, c, szr, b, o, olds, hA, hrc, hcm, hAad, hr1, hrV, hrcell, htok⟩ := vr_cells hx
  subst hA hB
  have hrl' : ∀ q ∈ rows, q.length = i.size := fun q hq => by simpa using List.all_eq_true.1 hrl q hq
  have hr1' : ∀ q ∈ rows, q.length = i.size ∧ ∀ y ∈ q, y.one = true := fun q hq => ⟨hrl' q hq, (hr1 q hq).2⟩
  have hol : olds.length = rows.length * i.size := by rw [← hrV.1, flatLen hrl']
  have hall : ∀ q ∈ rows ++ xs, q.length = i.size ∧ ∀ y ∈ q, y.one = true := by
    intro q hq
    rcases List.mem_append.1 hq with hq | hq
    · exact hr1' q hq
    · exact hn1 q hq
  have hcellsV : VRs g w (rows ++ xs).flatten (olds ++ news) := by rw [List.flatten_append]; exact hrV.app hnV
  have hnone : ∀ v ∈ news, v.oneCell' = true := hnV.ones (fun y hy => by
    obtain ⟨q, hq, hyq⟩ := List.mem_flatten.1 hy
    exact (hn1 q hq).2 y hyq)
  have hold : A = none ∧ rows.length = 0 ∨ ∃ bd, A = some bd ∧ ∀ j v, olds[j]? = some v → w.cell? (bd.add j) = some v := by
    cases A with
    | none =>
      refine .inl ⟨rfl, ?_⟩
      rcases rows with _ | ⟨q, rows⟩
      · rfl
      · have := hAad (by simp); cases this
    | some bd =>
      refine .inr ⟨bd, rfl, fun j v hj => ?_⟩
      have hne : rows ≠ [] := by
        rintro rfl
        simp at hol
        subst hol
        simp at hj
      have := hAad hne
      injection this with this
      subst this
      rw [addr_add]
      exact (hrcell j v hj).1
  -- nothing is appended
  have hempty : xs = [] → ∀ tk, TokOk g tk rows.length A c → DoesV P g H w (Builtin.append_ #[t, t] ty #[.slice A rows.length c, .slice B xs.length d]) (.sl tk rows) H := by
    rintro rfl tk htk
    refine .here (u := .slice A rows.length c) (append_none t ty e i ht hi A B rows.length c d hrc) ?_ hW
    cases hx with
    | sl _ _ _ _ sz' b' o' f hc' hm' hA' hsz' hcell' hv' ht' => exact .sl tk rows A c sz' b' o' f hc' hm' hA' hsz' hcell' hv' htk
  -- a new block
  have hgrow : xs ≠ [] → c < rows.length + xs.length → (A = none → c = 0) → ∃ b' cap' carr' w', (Builtin.append_ #[t, t] ty #[.slice A rows.length c, .slice B xs.length d]).run P w = .ok (.slice (some ⟨b', 0, none⟩) (rows.length + xs.length) cap') w' ∧ w.grownBy w' none ∧ w.heap.size ≤ b' ∧ w'.heap[b']? = some (.cells carr' e (0, 0)) ∧ carr'.size = cap' * i.size ∧ rows.length + xs.length ≤ cap' ∧ cap' ≤ maxLen ∧
      (∀ g', g.le g' w w' → (∀ j, j < (rows.length + xs.length) * i.size → g'.RO b' j) → ∀ tk, TokOk g' tk (rows.length + xs.length) (some ⟨b', 0, none⟩) cap' → VR g' w' (.sl tk (rows ++ xs)) (.slice (some ⟨b', 0, none⟩) (rows.length + xs.length) cap')) := by
    intro hne hlt hcn
    obtain ⟨ad, rfl, had⟩ := hnA hne
    have hm0 : 0 < xs.length := List.length_pos_iff.2 hne
    obtain ⟨v', w', k1, k2, k3⟩ := append_grow (P := P) (ty := ty) (d := d) ht hi hz hzs h0 hol (by
      rcases hold with ⟨h1, h2⟩ | h1
      · exact .inl ⟨h1, h2, hcn h1⟩
      · exact .inr h1) hnl had hnone hm0 hlt h63 hby
    obtain ⟨b', cap', carr', rfl, q1, q2, q3, q4, q5, q6, q7⟩ := own_new k2 (by omega)
    refine ⟨b', cap', carr', w', k1, k3, q1, q2, q5, q3, q4, fun g' hle hRO tk htk => ?_⟩
    have hlen : rows.length + xs.length = (rows ++ xs).length := by simp
    rw [hlen] at htk ⊢
    refine vr_rows (xs := olds ++ news) tk hall (hcellsV.mono hle) (fun j u hj => ?_) (by omega) q4 htk
    obtain ⟨z1, z2⟩ := row_cells q2 q6 q7 j u hj
    exact ⟨z1, by rw [Nat.zero_add]; exact hRO j z2⟩
  cases tok with
  | no =>
    simp only at he
    split at he
    · simp only [Option.some.injEq, Prod.mk.injEq] at he
      obtain ⟨rfl, rfl⟩ := he
      exact hempty rfl .no trivial
    · cases he
  | full =>
    have hcf : c = rows.length := htok
    simp only at he
    split at he
    · simp only [Option.some.injEq, Prod.mk.injEq] at he
      obtain ⟨rfl, rfl⟩ := he
      exact hempty rfl .full htok
    · rename_i hne
      simp only [Option.some.injEq, Prod.mk.injEq] at he
      obtain ⟨rfl, rfl⟩ := he
      have hne' : xs ≠ [] := fun h => hne h
      have hm0 : 0 < xs.length := List.length_pos_iff.2 hne'
      obtain ⟨b', cap', carr', w', k1, k2, k3, k4, k5, k6, k7, k8⟩ := hgrow hne' (by omega) (fun hA => by
        rcases hold with ⟨_, h⟩ | ⟨bd, h, _⟩
        · omega
        · rw [hA] at h; cases h)
      obtain ⟨q1, q2⟩ := new_tok (n := rows.length + xs.length) (sz := i.size) hW k2 k3 k4 k5 k6 k7
      refine ⟨_, w', _, k1, k8 _ q2.le (fun j hj => .inr ⟨rfl, hj, by omega⟩) (.own H.next) ⟨_, cap', b', by simp [Gh.tok], Nat.le_refl _, fun _ => ⟨rfl, fun _ => rfl⟩⟩, q1, q2⟩
  | own id =>
    simp only at he
    cases hid : H.get id with
    | none => rw [hid] at he; cases he
    | some ob =>
      rw [hid] at he
      cases ob with
      | cells cs E => cases he
      | map kk es dl => cases he
      | tok n E' sz' =>
        simp only at he
        split at he
        · rename_i hcd
          obtain ⟨rfl, rfl, rfl⟩ := hcd
          simp only [Option.some.injEq, Prod.mk.injEq] at he
          obtain ⟨rfl, rfl⟩ := he
          obtain ⟨cap, blk, hτ, hncap, hcapm, hblk⟩ := hW.obj id _ hid
          obtain ⟨fr, cap2, blk2, hτ2, hfr, htk⟩ := htok
          rw [hτ] at hτ2
          simp at hτ2
          obtain ⟨rfl, rfl, rfl⟩ := hτ2
          obtain ⟨rfl, hAb⟩ := htk rfl
          by_cases hxe : xs = []
          · subst hxe
            obtain ⟨q1, q2⟩ := set_same hW hid
            obtain ⟨u', w', g', k1, k2, k3, k4⟩ := hempty rfl (.own id) ⟨_, _, _, hτ, Nat.le_refl _, fun _ => ⟨rfl, hAb⟩⟩
            have e1 : (Builtin.append_ #[t, t] ty #[.slice A rows.length c, .slice B ([] : List (List AV)).length d]).run P w = .ok (.slice A rows.length c) w := append_none t ty E' i ht hi A B rows.length c d hrc
            rw [e1] at k1
            injection k1 with k1 k1'
            subst k1 k1'
            refine ⟨_, w, g, e1, ?_, by simpa using q1, by simpa using q2⟩
            simp only [List.append_nil]
            cases hx with
            | sl _ _ _ _ sz' b' o' f hc' hm' hA' hsz' hcell' hv' ht' => exact .sl _ rows A c sz' b' o' f hc' hm' hA' hsz' hcell' hv' ⟨_, _, _, hτ, Nat.le_refl _, fun _ => ⟨rfl, hAb⟩⟩
          · have hm0 : 0 < xs.length := List.length_pos_iff.2 hxe
            by_cases hroom : rows.length + xs.length ≤ c
            · -- there is room
              obtain ⟨ad, rfl, had⟩ := hnA hxe
              have hc0 : 0 < c := by omega
              have hAe := hAb hc0
              subst hAe
              obtain ⟨carr, j1, j2, j3⟩ := hblk hc0
              have hfit : rows.length * i.size + news.length ≤ carr.size := by
                rw [hnl, j2, ← Nat.add_mul]; exact Nat.mul_le_mul_right _ hroom
              have hrun := run_append_room (P := P) w t ty E' i ht hi blk rows.length c carr j1 ad xs.length d news hnl had hnone hroom hfit
              have hnew : ∀ j, (carr.toList.take (rows.length * i.size) ++ news ++ carr.toList.drop (rows.length * i.size + news.length)).toArray[j]? = if j < rows.length * i.size then carr[j]? else if j < rows.length * i.size + news.length then news[j - rows.length * i.size]? else carr[j]? := by
                intro j
                have hlt : (carr.toList.take (rows.length * i.size)).length = rows.length * i.size := by simp; omega
                simp only [List.getElem?_toArray]
                split
                · rename_i hj
                  rw [List.append_assoc, List.getElem?_append_left (by omega), List.getElem?_take, if_pos hj]
                  simp
                · rename_i hj
                  split
                  · rename_i hj2
                    rw [List.append_assoc, List.getElem?_append_right (by omega), hlt, List.getElem?_append_left (by omega)]
                  · rename_i hj2
                    rw [List.getElem?_append_right (by simp; omega)]
                    simp only [List.length_append, hlt, List.getElem?_drop]
                    rw [show rows.length * i.size + news.length + (j - (rows.length * i.size + news.length)) = j by omega]
                    simp
              generalize hN : (carr.toList.take (rows.length * i.size) ++ news ++ carr.toList.drop (rows.length * i.size + news.length)).toArray = nc at hrun hnew
              have hncs : nc.size = carr.size := by
                rw [← hN]; simp; omega
              have hbl := setRow_heap w blk carr nc E' (0, 0) j1
              have hcellold : ∀ x j, g.RO x j → (w.setRow blk nc).cell? ⟨x, j, none⟩ = w.cell? ⟨x, j, none⟩ := by
                intro x j hr
                by_cases hxb : x = blk
                · subst hxb
                  have hj : j < rows.length * i.size := by
                    rcases Nat.lt_or_ge j (rows.length * i.size) with h | h
                    · exact h
                    · exact absurd hr (j3 j h)
                  simp only [World.cell?, hbl, j1]
                  rw [hnew j, if_pos hj]
                · exact cell?_block (setRow_other w blk x nc hxb) j
              obtain ⟨q1, q2⟩ := set_tok (n' := rows.length + xs.length) (cap' := c) (b' := blk) hW hid (by omega) (fun x _ hx => setRow_other w blk x nc (fun hxb => hx (by subst hxb; exact ⟨_, _, hτ, hc0⟩))) hcellold (.inr ⟨_, _, hτ, hc0⟩) hbl (by rw [hncs, j2]) hroom hcm (by simp [World.setRow]) rfl rfl rfl
              refine ⟨_, _, _, hrun, ?_, q1, q2⟩
              have hlen : rows.length + xs.length = (rows ++ xs).length := by simp
              have holdV : ∀ (j : Nat) (v : Value), olds[j]? = some v → carr[j]? = some v := by
                intro j v hj
                have hne : rows ≠ [] := by
                  rintro rfl
                  simp at hol
                  subst hol
                  simp at hj
                have hb := hAad hne
                injection hb with hb
                injection hb with hb1 hb2
                subst hb1 hb2
                have := (hrcell j v hj).1
                simp only [World.cell?, j1, Nat.zero_add] at this
                simpa using this
              suffices hv : VR (g.tok id (rows.length + xs.length) c blk i.size) (w.setRow blk nc) (.sl (.own id) (rows ++ xs)) (.slice (some ⟨blk, 0, none⟩) (rows ++ xs).length c) by
                rw [List.length_append] at hv; exact hv
              refine vr_rows (xs := olds ++ news) (.own id) hall (hcellsV.mono q2.le) (fun j v hj => ?_) (by rw [← hlen]; exact hroom) hcm ⟨rows.length + xs.length, c, blk, by simp [Gh.tok], by simp, fun _ => ⟨rfl, fun _ => rfl⟩⟩
              have hjl : j < (rows.length + xs.length) * i.size := by
                have := (List.getElem?_eq_some_iff.1 hj).1
                rw [List.length_append, hol, hnl, ← Nat.add_mul] at this; exact this
              refine ⟨?_, .inr ⟨rfl, by rw [Nat.zero_add]; exact hjl, hc0⟩⟩
              simp only [World.cell?, hbl, Nat.zero_add]
              have : nc[j]? = some v := by
                rw [hnew j]
                by_cases hj1 : j < rows.length * i.size
                · rw [if_pos hj1]
                  rw [List.getElem?_append_left (by omega)] at hj
                  exact holdV j v hj
                · rw [if_neg hj1]
                  rw [List.getElem?_append_right (by omega), hol] at hj
                  rw [if_pos (by have := (List.getElem?_eq_some_iff.1 hj).1; omega)]
                  exact hj
              simpa using this
            · -- a new block
              obtain ⟨b', cap', carr', w', k1, k2, k3, k4, k5, k6, k7, k8⟩ := hgrow hxe (by omega) (fun hA => by
                rcases Nat.eq_zero_or_pos c with h | h
                · exact h
                · have := hAb h; rw [hA] at this; cases this)
              obtain ⟨q1, q2⟩ := set_tok (n' := rows.length + xs.length) (cap' := cap') (b' := b') hW hid (by omega) (fun x hx _ => k2.block x hx (by simp)) (fun x j hr => cell?_block (k2.block x (hW.ro x j hr) (by simp)) j) (.inl k3) k4 k5 k6 k7 k2.size k2.os k2.tape k2.output
              exact ⟨_, w', _, k1, k8 _ q2.le (fun j hj => .inr ⟨rfl, hj, by omega⟩) (.own id) ⟨_, cap', b', by simp [Gh.tok], Nat.le_refl _, fun _ => ⟨rfl, fun _ => rfl⟩⟩, q1, q2⟩
        · cases he
end
end Go.Proofs.Ytgnpihhakogeeaa
