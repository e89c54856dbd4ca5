/- The abstract machine is sound: maps that are written. -/
import Derived.Test.YtgnpihhakogeeaaBb
namespace Go.Proofs.Ytgnpihhakogeeaa
set_option linter.unusedSimpArgs false
set_option linter.unusedVariables false
open Go.RowKit

theorem bits_sk {k : SK} {v : Value} (h : k.is v = true) (n : Nat) : Instr.sameBits n v v = true := by
  cases k <;> cases v <;> simp [SK.is] at h <;> cases n <;> simp [Instr.sameBits]
  · exact (ba_beq _ _).2 rfl
  · exact (ba_beq _ _).2 rfl
theorem bits_key {kk : KK} {v : Value} (h : kk.isKey v) : Instr.sameBits 10000 v v = true := by
  cases kk with
  | one k => exact bits_sk h _
  | row ks =>
    obtain ⟨vs, rfl, h1, h2⟩ := h
    have key : ∀ n, Instr.sameBits (n + 1) (.agg vs.toArray) (.agg vs.toArray) = true := by
      intro n
      simp only [Instr.sameBits, List.size_toArray, beq_self_eq_true, Bool.true_and, List.all_eq_true]
      rintro ⟨x, y⟩ hxy
      rw [List.zip_eq_zipWith] at hxy
      obtain ⟨i, hi, he⟩ := List.getElem_of_mem hxy
      simp at he
      obtain ⟨rfl, rfl⟩ := he
      simp at hi
      have hk : i < ks.length := by omega
      exact bits_sk (h2 i ks[i] vs[i] (List.getElem?_eq_getElem hk) (List.getElem?_eq_getElem hi)) n
    exact key 9999
section
variable {P : Program} {g g' : Gh} {H H' : AHeap} {w w' : World} {N : Nat} {F : Fr} {a : Act}
theorem stays_ok {kk : KK} {k : Value} (h : kk.isKey k) : (Instr.keyThatStays k k).run P w = .ok k w := by
  simp [Instr.keyThatStays, bits_key h]
/-- a map, written anew -/
theorem set_map (hW : WR g H w) {id b : Nat} {kk : KK} {es es' : List (Value × AV)} {del del' : Bool} {en en' : Array MapEntry} {cl cl' : Nat} (β' : Nat → Value → Option Nat) (hβ1 : ∀ i k, i ≠ id → β' i k = g.β i k) (hβ2 : ∀ k n, g.β id k = some n → β' id k = some n)
    (ho : H.get id = some (.map kk es del)) (hb : g.ι id = some b) (hen : w.heap[b]? = some (.map en cl)) (hro : ∀ j, ¬ g.RO b j) (hl : en'.size = es'.length)
    (h1 : ∀ (i : Nat) (k : Value) (x : AV) (e : MapEntry), es'[i]? = some (k, x) → en'[i]? = some e → e.key = k ∧ kk.isKey k ∧ (∀ w', g.le { g with β := β' } w w' → VR { g with β := β' } w' x e.val) ∧ e.born < cl' ∧ (del' = false → β' id k = some e.born))
    (h2 : ∀ (i j : Nat) (e e' : MapEntry), en'[i]? = some e → en'[j]? = some e' → e.born = e'.born → i = j) (h3 : del' = false → ∀ k n, β' id k = some n → ∃ (i : Nat) (e : MapEntry), en'[i]? = some e ∧ e.key = k) :
    WR { g with β := β' } (H.set id (.map kk es' del')) { w with heap := w.heap.setIfInBounds b (.map en' cl') } ∧ Stp g H w { g with β := β' } (H.set id (.map kk es' del')) { w with heap := w.heap.setIfInBounds b (.map en' cl') } := by
  have hlt : b < w.heap.size := (Array.getElem?_eq_some_iff.1 hen).1
  refine set_objβ hW (b := b) β' hβ1 hβ2 ho hb (fun b' => Iff.rfl) (fun b' hne => ?_) (by simp) rfl rfl rfl (fun j hj => absurd hj (hro j)) (fun hle => ?_)
  · simp only [Array.getElem?_setIfInBounds]
    rw [if_neg (by omega)]
  · refine ⟨b, en', cl', hb, by simp [Array.getElem?_setIfInBounds, hlt], hl, fun i k x e hx he => ?_, h2, h3, hro⟩
    obtain ⟨k1, k2, k3, k4, k5⟩ := h1 i k x e hx he
    exact ⟨k1, k2, k3 _ hle, k4, k5⟩
theorem modify_get {en : Array MapEntry} {i : Nat} {f : MapEntry → MapEntry} {j : Nat} {e : MapEntry} (h : (en.modify i f)[j]? = some e) : ∃ e0, en[j]? = some e0 ∧ e = if j = i then f e0 else e0 := by
  rw [Array.getElem?_modify] at h
  split at h
  · rename_i hij
    cases he : en[j]? with
    | none => rw [he] at h; cases h
    | some e0 => rw [he] at h; simp at h; exact ⟨e0, rfl, by simp [hij, h]⟩
  · rename_i hij
    exact ⟨e, h, by rw [if_neg (by omega)]⟩
/-- an entry that is there gets another value -/
theorem set_there (hW : WR g H w) {id b : Nat} {kk : KK} {es : List (Value × AV)} {del : Bool} {en : Array MapEntry} {cl i : Nat} {kv k' : Value} {x0 x : AV} {u : Value} {f : MapEntry → MapEntry} (ho : H.get id = some (.map kk es del)) (hb : g.ι id = some b) (hen : w.heap[b]? = some (.map en cl)) (hro : ∀ j, ¬ g.RO b j) (hl : en.size = es.length)
    (h4 : ∀ (i : Nat) (k : Value) (x : AV) (e : MapEntry), es[i]? = some (k, x) → en[i]? = some e → e.key = k ∧ kk.isKey k ∧ VR g w x e.val ∧ e.born < cl ∧ (del = false → g.β id k = some e.born))
    (h5 : ∀ (i j : Nat) (e e' : MapEntry), en[i]? = some e → en[j]? = some e' → e.born = e'.born → i = j) (h6 : del = false → ∀ k n, g.β id k = some n → ∃ (i : Nat) (e : MapEntry), en[i]? = some e ∧ e.key = k)
    (hi : es[i]? = some (k', x0)) (hk : kv = k') (hx : VR g w x u) (hf : ∀ e, e.key = kv → (f e).key = kv ∧ (f e).val = u ∧ (f e).born = e.born) :
    WR g (H.set id (.map kk (es.set i (kv, x)) del)) { w with heap := w.heap.setIfInBounds b (.map (en.modify i f) cl) } ∧ Stp g H w g (H.set id (.map kk (es.set i (kv, x)) del)) { w with heap := w.heap.setIfInBounds b (.map (en.modify i f) cl) } := by
  subst hk
  have hlt : i < es.length := (List.getElem?_eq_some_iff.1 hi).1
  have hkey : ∀ e, en[i]? = some e → e.key = kv := fun e he => (h4 i kv x0 e hi he).1
  refine set_map hW g.β (fun _ _ _ => rfl) (fun _ _ h => h) ho hb hen hro (by simp [hl]) (fun j k y e hy he => ?_) (fun p q e e' hp hq hbn => ?_) (fun hd k n hn => ?_)
  · obtain ⟨e0, he0, rfl⟩ := modify_get he
    by_cases hji : j = i
    · subst hji
      rw [if_pos rfl]
      simp [List.getElem?_set, hlt] at hy
      obtain ⟨rfl, rfl⟩ := hy
      obtain ⟨q1, q2, q3, q4, q5⟩ := h4 j kv x0 e0 hi he0
      obtain ⟨f1, f2, f3⟩ := hf e0 q1
      exact ⟨f1, q2, fun w' hle => by rw [f2]; exact hx.mono hle, by rw [f3]; exact q4, fun hd => by rw [f3]; exact q5 hd⟩
    · rw [if_neg hji]
      rw [List.getElem?_set_ne (by omega)] at hy
      obtain ⟨q1, q2, q3, q4, q5⟩ := h4 j k y e0 hy he0
      exact ⟨q1, q2, fun w' hle => q3.mono hle, q4, q5⟩
  · obtain ⟨e0, he0, rfl⟩ := modify_get hp
    obtain ⟨e1, he1, rfl⟩ := modify_get hq
    refine h5 p q e0 e1 he0 he1 ?_
    have fb : ∀ j e, en[j]? = some e → (if j = i then f e else e).born = e.born := by
      intro j e he
      split
      · rename_i hji
        subst hji
        exact (hf e (hkey e he)).2.2
      · rfl
    rw [fb p e0 he0, fb q e1 he1] at hbn
    exact hbn
  · obtain ⟨j, e, he, hek⟩ := h6 hd k n hn
    refine ⟨j, if j = i then f e else e, ?_, ?_⟩
    · rw [Array.getElem?_modify, he]
      by_cases hji : j = i
      · subst hji; simp
      · simp [hji, Ne.symm hji]
    · split
      · rename_i hji
        subst hji
        rw [(hf e (hkey e he)).1, ← hkey e he]; exact hek
      · exact hek
/-- an entry that was not there -/
theorem set_new (hW : WR g H w) {id b : Nat} {kk : KK} {es : List (Value × AV)} {del : Bool} {en : Array MapEntry} {cl : Nat} {kv : Value} {x : AV} {u : Value} (ho : H.get id = some (.map kk es del)) (hb : g.ι id = some b) (hen : w.heap[b]? = some (.map en cl)) (hro : ∀ j, ¬ g.RO b j) (hl : en.size = es.length)
    (h4 : ∀ (i : Nat) (k : Value) (x : AV) (e : MapEntry), es[i]? = some (k, x) → en[i]? = some e → e.key = k ∧ kk.isKey k ∧ VR g w x e.val ∧ e.born < cl ∧ (del = false → g.β id k = some e.born))
    (h5 : ∀ (i j : Nat) (e e' : MapEntry), en[i]? = some e → en[j]? = some e' → e.born = e'.born → i = j) (h6 : del = false → ∀ k n, g.β id k = some n → ∃ (i : Nat) (e : MapEntry), en[i]? = some e ∧ e.key = k)
    (hnew : ∀ p ∈ es, kEq kv p.1 = false) (hkey : kk.isKey kv) (hx : VR g w x u) :
    ∃ g', WR g' (H.set id (.map kk (es ++ [(kv, x)]) del)) { w with heap := w.heap.setIfInBounds b (.map (en.push { key := kv, val := u, born := cl }) (cl + 1)) } ∧ Stp g H w g' (H.set id (.map kk (es ++ [(kv, x)]) del)) { w with heap := w.heap.setIfInBounds b (.map (en.push { key := kv, val := u, born := cl }) (cl + 1)) } ∧ (del = false → g'.β id kv = some cl) := by
  classical
  have hentry : ∀ (i : Nat) (e : MapEntry), en[i]? = some e → ∃ k y, es[i]? = some (k, y) := by
    intro i e he
    have hi : i < es.length := by rw [← hl]; exact (Array.getElem?_eq_some_iff.1 he).1
    exact ⟨es[i].1, es[i].2, List.getElem?_eq_getElem hi⟩
  have hbn : ∀ (i : Nat) (e : MapEntry), en[i]? = some e → e.born < cl := by
    intro i e he
    obtain ⟨k, y, hk⟩ := hentry i e he
    exact (h4 i k y e hk he).2.2.2.1
  have hnone : del = false → g.β id kv = none := by
    intro hd
    cases hn : g.β id kv with
    | none => rfl
    | some n =>
      obtain ⟨i, e, he, hek⟩ := h6 hd kv n hn
      obtain ⟨k, y, hk⟩ := hentry i e he
      have hk2 := h4 i k y e hk he
      have := hnew (k, y) (List.mem_of_getElem? hk)
      have h7 : kEq kv k = true := (kEq_is hkey hk2.2.1).2 (by rw [← hk2.1]; exact hek.symm)
      rw [h7] at this; cases this
  let β' : Nat → Value → Option Nat := fun i k => if i = id ∧ del = false then (if kEq kv k = true ∧ kk.isKey k then some cl else g.β i k) else g.β i k
  have hpush : ∀ (i : Nat) (e : MapEntry), (en.push { key := kv, val := u, born := cl })[i]? = some e → (en[i]? = some e) ∨ (i = en.size ∧ e = { key := kv, val := u, born := cl }) := by
    intro i e he
    rw [Array.getElem?_push] at he
    split at he
    · rename_i hi; injection he with he; exact .inr ⟨hi, he.symm⟩
    · exact .inl he
  have hself : del = false → β' id kv = some cl := by
    intro hd
    simp only [β', hd, and_self, if_true]
    rw [if_pos ⟨(kEq_is hkey hkey).2 rfl, hkey⟩]
  refine ⟨{ g with β := β' }, ?_⟩
  have := set_map (del' := del) hW β' (fun i k hne => by simp [β', hne]) (fun k n hn => ?_) ho hb hen hro (es' := es ++ [(kv, x)]) (en' := en.push { key := kv, val := u, born := cl }) (cl' := cl + 1) (by simp [hl]) (fun j k y e hy he => ?_) (fun p q e e' hp hq hbq => ?_) (fun hd k n hn => ?_)
  · exact ⟨this.1, this.2, hself⟩
  · by_cases hd : del = false
    · simp only [β', hd, and_self, if_true]
      rw [if_neg]
      · exact hn
      · rintro ⟨h7, h8⟩
        have : kv = k := (kEq_is hkey h8).1 h7
        subst this
        rw [hnone hd] at hn; cases hn
    · simp [β', hd, hn]
  · rcases hpush j e he with he | ⟨rfl, rfl⟩
    · have hj : j < es.length := by rw [← hl]; exact (Array.getElem?_eq_some_iff.1 he).1
      rw [List.getElem?_append_left hj] at hy
      obtain ⟨q1, q2, q3, q4, q5⟩ := h4 j k y e hy he
      refine ⟨q1, q2, fun w' hle => q3.mono hle, by omega, fun hd => ?_⟩
      simp only [β', hd, and_self, if_true]
      rw [if_neg]
      · exact q5 hd
      · rintro ⟨h7, _⟩
        rw [hnew (k, y) (List.mem_of_getElem? hy)] at h7; cases h7
    · rw [hl] at hy
      simp at hy
      obtain ⟨rfl, rfl⟩ := hy
      exact ⟨rfl, hkey, fun w' hle => hx.mono hle, Nat.lt_succ_self _, hself⟩
  · rcases hpush p e hp with hp | ⟨rfl, rfl⟩
    · rcases hpush q e' hq with hq | ⟨rfl, rfl⟩
      · exact h5 p q e e' hp hq hbq
      · have := hbn p e hp; simp only at hbq; omega
    · rcases hpush q e' hq with hq | ⟨rfl, rfl⟩
      · have := hbn q e' hq; simp only at hbq; omega
      · rfl
  · simp only [β', hd, and_self, if_true] at hn
    split at hn
    · rename_i h7
      have hk : kv = k := (kEq_is hkey h7.2).1 h7.1
      exact ⟨en.size, { key := kv, val := u, born := cl }, by simp, hk⟩
    · obtain ⟨i, e, he, hek⟩ := h6 hd k n hn
      have hi : i < en.size := (Array.getElem?_eq_some_iff.1 he).1
      exact ⟨i, e, by rw [Array.getElem?_push, if_neg (by omega)]; exact he, hek⟩
theorem mup_ok (hW : WR g H w) {t kt et : TypeId} {kk : KK} {x y z v : AV} {u r q : Value} (hu : P.underlying t = some (.map kt et)) (hk : KeyT P kk kt) (hx : VR g w x u) (hy : VR g w y r) (hz : VR g w z q)
    (he : AOp.ev F H (.mup kk (.c x) (.c y) (.c z)) = some (v, H')) : v = undefA ∧ DoesU P g H w (Instr.mapUpdate t u r q) H' := by
  simp only [AOp.ev, AX.ev] at he
  split at he
  · rename_i id kv hkv
    obtain ⟨rfl, hkey⟩ := KK.of_ok hy hkv
    cases ho : H.get id with
    | none => rw [ho] at he; cases he
    | some ob =>
      rw [ho] at he
      cases ob with
      | cells cs E => cases he
      | tok n E s => cases he
      | map kk' es del =>
        simp only at he
        split at he
        case isFalse => cases he
        rename_i hkk
        subst hkk
        simp only [Option.some.injEq, Prod.mk.injEq] at he
        obtain ⟨rfl, rfl⟩ := he
        refine ⟨rfl, ?_⟩
        obtain ⟨b, en, cl, rfl, h1, h2, h3, h4, h5, h6, h7, h8⟩ := map_at hW hx ho
        have hf := find_ok (P := P) (w := w) hk hkey h3 (fun i k' x e a b => (h4 i k' x e a b).1) h8
        have hck := checkKey_ok (P := P) (w := w) hk hkey false
        have hgo : (getObj b).run P w = .ok (.map en cl) w := by simp [getObj, Sem.run, h2]
        have hso : ∀ o, (setObj b o).run P w = .ok () { w with heap := w.heap.setIfInBounds b o } := fun o => by simp [setObj, Sem.run, h2]
        cases hm : mIdx r es with
        | none =>
          obtain ⟨m1, m2, m3, m4⟩ := mIdx_none hm
          rw [hm] at hf
          simp only [Option.bind_none] at hf
          rw [m2]
          obtain ⟨g', k1, k2, _⟩ := set_new hW ho h1 h2 h7 h3 h4 h5 h6 m4 hkey hz
          exact ⟨_, g', by simp [Instr.mapUpdate, run_underlying hu, hgo, hck, hf, hso], k1, k2⟩
        | some i =>
          obtain ⟨k', a', m1, m2, m3, m4, _⟩ := mIdx_some hm
          have hi : i < en.size := by rw [h3]; exact (List.getElem?_eq_some_iff.1 m1).1
          have hen := Array.getElem?_eq_getElem hi
          rw [hm] at hf
          simp only [Option.bind_some, hen, Option.map_some] at hf
          have hkk' := (h4 i k' a' en[i] m1 hen)
          have hkeq : r = k' := (kEq_is hkey hkk'.2.1).1 m2
          have hst : (Instr.keyThatStays en[i].key r).run P w = .ok r w := by rw [hkk'.1, ← hkeq]; exact stays_ok hkey
          rw [m4]
          obtain ⟨k1, k2⟩ := set_there (f := fun e => { e with key := r, val := q }) hW ho h1 h2 h7 h3 h4 h5 h6 m1 hkeq hz (fun e _ => ⟨rfl, rfl, rfl⟩)
          refine ⟨_, g, ?_, k1, k2⟩
          simp [Instr.mapUpdate, run_underlying hu, hgo, hck, hf, hen, hst, hso]
  · cases he
theorem men_ok (hW : WR g H w) {t kt et : TypeId} {kk : KK} {z : Value} {x y v : AV} {u r : Value} (hu : P.underlying t = some (.map kt et)) (hk : KeyT P kk kt) (hz : tyZero P et = some z) (hx : VR g w x u) (hy : VR g w y r)
    (he : AOp.ev F H (.men kk (ofConst z) (.c x) (.c y)) = some (v, H')) : DoesV P g H w (Instr.mapEntry t u r) v H' := by
  simp only [AOp.ev, AX.ev] at he
  have hzero : (zeroValue et).run P w = .ok z w := by
    unfold tyZero at hz
    cases hi : P.info? et with
    | none => rw [hi] at hz; cases hz
    | some i => rw [hi] at hz; simp at hz; simp [zeroValue, typeInfo, hi, hz]
  have vtup : ∀ {g : Gh} {w : World} {p q : AV} {p' q' : Value}, VR g w p p' → VR g w q q' → VR g w (.tup [p, q]) (.tuple #[p', q']) := by
    intro g w p q p' q' h1 h2
    have := (VRs.nil.cons h2).cons h1
    exact .tup _ _ rfl (fun i x u hx hu => this.2 i x u hx (by simpa using hu))
  split at he
  · rename_i id kv hkv
    obtain ⟨rfl, hkey⟩ := KK.of_ok hy hkv
    cases ho : H.get id with
    | none => rw [ho] at he; cases he
    | some ob =>
      rw [ho] at he
      cases ob with
      | cells cs E => cases he
      | tok n E s => cases he
      | map kk' es del =>
        cases del with
        | true => cases he
        | false =>
        simp only at he
        split at he
        case isFalse => cases he
        rename_i hkk
        subst hkk
        obtain ⟨b, en, cl, rfl, h1, h2, h3, h4, h5, h6, h7, h8⟩ := map_at hW hx ho
        have hf := find_ok (P := P) (w := w) hk hkey h3 (fun i k' x e a b => (h4 i k' x e a b).1) h8
        have hck := checkKey_ok (P := P) (w := w) hk hkey false
        have hgo : (getObj b).run P w = .ok (.map en cl) w := by simp [getObj, Sem.run, h2]
        have hso : ∀ o, (setObj b o).run P w = .ok () { w with heap := w.heap.setIfInBounds b o } := fun o => by simp [setObj, Sem.run, h2]
        cases hm : mIdx r es with
        | none =>
          obtain ⟨m1, m2, m3, m4⟩ := mIdx_none hm
          rw [hm] at hf
          simp only [Option.bind_none] at hf
          rw [m1] at he
          simp only [Option.some.injEq, Prod.mk.injEq] at he
          obtain ⟨rfl, rfl⟩ := he
          rw [m2]
          obtain ⟨g', k1, k2, k3⟩ := set_new hW ho h1 h2 h7 h3 h4 h5 h6 m4 hkey (ofConst_ok z)
          refine ⟨.tuple #[z, goInt cl], _, g', by simp [Instr.mapEntry, run_underlying hu, hgo, hck, hf, hzero, hso], vtup (ofConst_ok z) (.stp _ _ _ (k3 rfl)), k1, k2⟩
        | some i =>
          obtain ⟨k', a', m1, m2, m3, m4, _⟩ := mIdx_some hm
          have hi : i < en.size := by rw [h3]; exact (List.getElem?_eq_some_iff.1 m1).1
          have hen := Array.getElem?_eq_getElem hi
          rw [hm] at hf
          simp only [Option.bind_some, hen, Option.map_some] at hf
          have hkk' := (h4 i k' a' en[i] m1 hen)
          have hkeq : r = k' := (kEq_is hkey hkk'.2.1).1 m2
          have hst : (Instr.keyThatStays en[i].key r).run P w = .ok r w := by rw [hkk'.1, ← hkeq]; exact stays_ok hkey
          rw [m3] at he
          simp only [Option.some.injEq, Prod.mk.injEq] at he
          obtain ⟨rfl, rfl⟩ := he
          have hsame : en.modify i (fun e => { e with key := r }) = en := by
            apply Array.ext
            · simp
            · intro j h1 h2
              rw [Array.getElem_modify]
              split
              · rename_i hij
                subst hij
                have : en[i].key = r := by rw [hkk'.1]; exact hkeq.symm
                have e2 : ∀ e : MapEntry, e.key = r → ({ e with key := r } : MapEntry) = e := by rintro ⟨k, v, b⟩ rfl; rfl
                exact e2 _ this
              · rfl
          have hw : ({ w with heap := w.heap.setIfInBounds b (.map en cl) } : World) = w := by
            have : w.heap.setIfInBounds b (.map en cl) = w.heap := by
              apply Array.ext
              · simp
              · intro j h1 h2
                rw [Array.getElem_setIfInBounds]
                split
                · rename_i hij
                  subst hij
                  have := (Array.getElem?_eq_some_iff.1 ‹w.heap[b]? = some (.map en cl)›).2
                  exact this.symm
                · rfl
            rw [this]
          refine .here (u := .tuple #[en[i].val, goInt en[i].born]) ?_ (vtup hkk'.2.2.1 (.stp _ _ _ (by rw [hkeq]; exact hkk'.2.2.2.2 rfl))) hW
          simp [Instr.mapEntry, run_underlying hu, hgo, hck, hf, hen, hst, hso, hsame, hw]
  · cases he
theorem est_ok (hW : WR g H w) {t : TypeId} {x y z v : AV} {u r q : Value} (hx : VR g w x u) (hy : VR g w y r) (hz : VR g w z q)
    (he : AOp.ev F H (.est (.c x) (.c y) (.c z)) = some (v, H')) : v = undefA ∧ DoesU P g H w (Instr.entryStore t u r q) H' := by
  simp only [AOp.ev, AX.ev] at he
  split at he
  · rename_i id id' kv
    cases ho : H.get id with
    | none => rw [ho] at he; cases he
    | some ob =>
      rw [ho] at he
      cases ob with
      | cells cs E => cases he
      | tok n E s => cases he
      | map kk es del =>
        cases del with
        | true => cases he
        | false =>
        simp only at he
        split at he
        case isFalse => cases he
        rename_i hid
        obtain ⟨rfl, hsome⟩ := hid
        simp only [Option.some.injEq, Prod.mk.injEq] at he
        obtain ⟨rfl, rfl⟩ := he
        refine ⟨rfl, ?_⟩
        obtain ⟨b, en, cl, rfl, h1, h2, h3, h4, h5, h6, h7, h8⟩ := map_at hW hx ho
        have hgo : (getObj b).run P w = .ok (.map en cl) w := by simp [getObj, Sem.run, h2]
        have hso : ∀ o, (setObj b o).run P w = .ok () { w with heap := w.heap.setIfInBounds b o } := fun o => by simp [setObj, Sem.run, h2]
        cases hy with
        | stp _ _ n hn =>
        cases hm : mIdx kv es with
        | none => rw [(mIdx_none hm).1] at hsome; cases hsome
        | some i =>
          obtain ⟨k', a', m1, m2, m3, m4, _⟩ := mIdx_some hm
          have hi : i < en.size := by rw [h3]; exact (List.getElem?_eq_some_iff.1 m1).1
          have hen := Array.getElem?_eq_getElem hi
          have hkk' := (h4 i k' a' en[i] m1 hen)
          obtain ⟨j, e, hj, hjk⟩ := h6 rfl kv n hn
          have hj2 : j < es.length := by rw [← h3]; exact (Array.getElem?_eq_some_iff.1 hj).1
          have hej := h4 j es[j].1 es[j].2 e (List.getElem?_eq_getElem hj2) hj
          have hkeyv : kk.isKey kv := by rw [← hjk, hej.1]; exact hej.2.1
          have hkeq : kv = k' := (kEq_is hkeyv hkk'.2.1).1 m2
          have hborn : en[i].born = n := by
            have := hkk'.2.2.2.2 rfl
            rw [← hkeq, hn] at this
            injection this with this
            exact this.symm
          have hfi : en.findIdx? (fun e => (e.born : Int) == (n : Int)) = some i := by
            rw [Array.findIdx?_eq_some_iff_getElem]
            refine ⟨hi, by simp [hborn], fun j hj => ?_⟩
            have hj3 : j < en.size := by omega
            simp only [Bool.not_eq_true, beq_eq_false_iff_ne, ne_eq]
            intro hb
            have : j = i := h5 j i en[j] en[i] (Array.getElem?_eq_getElem hj3) hen (by omega)
            omega
          rw [m4]
          obtain ⟨k1, k2⟩ := set_there (f := fun e => { e with val := q }) hW ho h1 h2 h7 h3 h4 h5 h6 m1 hkeq hz (fun e h => ⟨h, rfl, rfl⟩)
          refine ⟨_, g, ?_, k1, k2⟩
          simp only [Instr.entryStore, Sem.run_bind, hgo, Result.andThen_ok, asInt, asIntOf, Sem.run_pure, hfi, hso]
  · cases he
theorem mln_ok (hW : WR g H w) {t kt et ty : TypeId} {x v : AV} {u : Value} (hu : P.underlying t = some (.map kt et)) (hx : VR g w x u) (he : AOp.ev F H (.mln (.c x)) = some (v, H')) : DoesV P g H w (Builtin.len_ #[t] ty #[u]) v H' := by
  simp only [AOp.ev, AX.ev] at he
  split at he
  · rename_i id
    cases ho : H.get id with
    | none => rw [ho] at he; cases he
    | some ob =>
      rw [ho] at he
      cases ob with
      | cells cs E => cases he
      | tok n E s => cases he
      | map kk es del =>
        simp only [Option.some.injEq, Prod.mk.injEq] at he
        obtain ⟨rfl, rfl⟩ := he
        obtain ⟨b, en, cl, rfl, h1, h2, h3, h4, h5, h6, h7, h8⟩ := map_at hW hx ho
        have hgo : (getObj b).run P w = .ok (.map en cl) w := by simp [getObj, Sem.run, h2]
        exact .here (u := .int .i64 es.length) (by simp [Builtin.len_, run_underlying hu, hgo, goInt, h3]) (.sc _) hW
  · simp only [Option.some.injEq, Prod.mk.injEq] at he
    obtain ⟨rfl, rfl⟩ := he
    cases hx
    exact .here (u := .int .i64 0) (by simp [Builtin.len_, run_underlying hu, goInt]) (.sc _) hW
  · cases he
theorem clr_ok (hW : WR g H w) {t kt et ty : TypeId} {x v : AV} {u : Value} (hu : P.underlying t = some (.map kt et)) (hx : VR g w x u) (he : AOp.ev F H (.clr (.c x)) = some (v, H')) : DoesV P g H w (Builtin.clear_ #[t] ty #[u]) v H' := by
  simp only [AOp.ev, AX.ev] at he
  split at he
  · rename_i id
    split at he
    · rename_i kk es del ho
      simp only [Option.some.injEq, Prod.mk.injEq] at he
      obtain ⟨rfl, rfl⟩ := he
      obtain ⟨b, en, cl, rfl, h1, h2, h3, h4, h5, h6, h7, h8⟩ := map_at hW hx ho
      have hgo : (getObj b).run P w = .ok (.map en cl) w := by simp [getObj, Sem.run, h2]
      have hso : ∀ o, (setObj b o).run P w = .ok () { w with heap := w.heap.setIfInBounds b o } := fun o => by simp [setObj, Sem.run, h2]
      have vt : ∀ {g : Gh} {w : World}, VR g w (.tup []) (.tuple #[]) := .tup _ _ rfl (fun i x u h => by simp at h)
      obtain ⟨k1, k2⟩ := set_map (del' := true) (cl' := cl) (es' := []) (en' := #[]) hW g.β (fun _ _ _ => rfl) (fun _ _ h => h) ho h1 h2 h7 rfl (fun i k x e hx he => by simp at hx) (fun i j e e' h => by simp at h) (fun h => by cases h)
      exact ⟨.tuple #[], _, g, by simp [Builtin.clear_, run_underlying hu, hgo, hso], vt, k1, k2⟩
    · cases he
  · cases he
theorem del_ok (hW : WR g H w) {t kt et ty t2 : TypeId} {kk : KK} {x y v : AV} {u r : Value} (hu : P.underlying t = some (.map kt et)) (hk : KeyT P kk kt) (hx : VR g w x u) (hy : VR g w y r)
    (he : AOp.ev F H (.del kk (.c x) (.c y)) = some (v, H')) (ts : List TypeId) : DoesV P g H w (Builtin.delete_ (t :: ts).toArray ty #[u, r]) v H' := by
  simp only [AOp.ev, AX.ev] at he
  split at he
  · rename_i id kv hkv
    obtain ⟨rfl, hkey⟩ := KK.of_ok hy hkv
    cases ho : H.get id with
    | none => rw [ho] at he; cases he
    | some ob =>
      rw [ho] at he
      cases ob with
      | cells cs E => cases he
      | tok n E s => cases he
      | map kk' es del =>
        simp only at he
        split at he
        case isFalse => cases he
        rename_i hkk
        subst hkk
        simp only [Option.some.injEq, Prod.mk.injEq] at he
        obtain ⟨rfl, rfl⟩ := he
        obtain ⟨b, en, cl, rfl, h1, h2, h3, h4, h5, h6, h7, h8⟩ := map_at hW hx ho
        have hf := find_ok (P := P) (w := w) hk hkey h3 (fun i k' x e a b => (h4 i k' x e a b).1) h8
        have hck := checkKey_ok (P := P) (w := w) hk hkey en.isEmpty
        have hgo : (getObj b).run P w = .ok (.map en cl) w := by simp [getObj, Sem.run, h2]
        have hso : ∀ o, (setObj b o).run P w = .ok () { w with heap := w.heap.setIfInBounds b o } := fun o => by simp [setObj, Sem.run, h2]
        have vt : ∀ {g : Gh} {w : World}, VR g w (.tup []) (.tuple #[]) := .tup _ _ rfl (fun i x u h => by simp at h)
        cases hm : mIdx r es with
        | none =>
          obtain ⟨m1, m2, m3, m4⟩ := mIdx_none hm
          rw [hm] at hf
          simp only [Option.bind_none] at hf
          rw [m3]
          obtain ⟨k1, k2⟩ := set_map (del' := true) (cl' := cl) hW g.β (fun _ _ _ => rfl) (fun _ _ h => h) ho h1 h2 h7 h3 (fun i k x e hx he => by
            obtain ⟨q1, q2, q3, q4, q5⟩ := h4 i k x e hx he
            exact ⟨q1, q2, fun w' hle => q3.mono hle, q4, fun h => by cases h⟩) h5 (fun h => by cases h)
          exact ⟨.tuple #[], _, g, by simp [Builtin.delete_, run_underlying hu, hgo, hck, hf, hso], vt, k1, k2⟩
        | some i =>
          obtain ⟨k', a', m1, m2, m3, m4, m5, _⟩ := mIdx_some hm
          have hi : i < en.size := by rw [h3]; exact (List.getElem?_eq_some_iff.1 m1).1
          have hen := Array.getElem?_eq_getElem hi
          rw [hm] at hf
          simp only [Option.bind_some, hen, Option.map_some] at hf
          rw [m5]
          have hge : ∀ (j : Nat) (e : MapEntry), (en.eraseIdxIfInBounds i)[j]? = some e → en[if j < i then j else j + 1]? = some e := by
            intro j e he
            have : (en.eraseIdxIfInBounds i).toList = en.toList.eraseIdx i := by simp [Array.eraseIdxIfInBounds, hi]
            have he2 : (en.toList.eraseIdx i)[j]? = some e := by rw [← this, Array.getElem?_toList]; exact he
            rw [List.getElem?_eraseIdx] at he2
            split at he2 <;> rename_i hj <;> simp [hj] <;> simpa using he2
          have hlen : (en.eraseIdxIfInBounds i).size = (es.eraseIdx i).length := by
            have : (en.eraseIdxIfInBounds i).toList = en.toList.eraseIdx i := by simp [Array.eraseIdxIfInBounds, hi]
            rw [← Array.length_toList, this, List.length_eraseIdx, List.length_eraseIdx]
            simp [h3]
          obtain ⟨k1, k2⟩ := set_map (del' := true) (cl' := cl) (en' := en.eraseIdxIfInBounds i) (es' := es.eraseIdx i) hW g.β (fun _ _ _ => rfl) (fun _ _ h => h) ho h1 h2 h7 hlen (fun j k x e hx he => by
            have he' := hge j e he
            rw [List.getElem?_eraseIdx] at hx
            have hx' : es[if j < i then j else j + 1]? = some (k, x) := by
              split at hx <;> rename_i hj <;> simp [hj] <;> exact hx
            obtain ⟨q1, q2, q3, q4, q5⟩ := h4 _ k x e hx' he'
            exact ⟨q1, q2, fun w' hle => q3.mono hle, q4, fun h => by cases h⟩) (fun p q e e' hp hq hb => by
            have := h5 _ _ e e' (hge p e hp) (hge q e' hq) hb
            split at this <;> split at this <;> omega) (fun h => by cases h)
          exact ⟨.tuple #[], _, g, by simp [Builtin.delete_, run_underlying hu, hgo, hck, hf, hso], vt, k1, k2⟩
  · cases he
end
end Go.Proofs.Ytgnpihhakogeeaa
