/- Maps that a call made: what they hold, as a list of keys with values; what looking up, storing, deleting do. -/
import Derived.Test.YtedjaahidncokabV
namespace Go.Proofs.Ytedjaahidncokab
open Go.RowKit
section
variable {κ : Type} [DecidableEq κ]
def mget (m : List (κ × Value)) (a : κ) : Option Value := match m with
  | [] => none
  | x :: r => if x.1 = a then some x.2 else mget r a
def mput (m : List (κ × Value)) (a : κ) (v : Value) : List (κ × Value) := match m with
  | [] => [(a, v)]
  | x :: r => if x.1 = a then (a, v) :: r else x :: mput r a v
def mdel (m : List (κ × Value)) (a : κ) : List (κ × Value) := match m with
  | [] => []
  | x :: r => if x.1 = a then r else x :: mdel r a
theorem mget_mput (m : List (κ × Value)) (a b : κ) (v : Value) : mget (mput m a v) b = if a = b then some v else mget m b := by
  induction m with
  | nil => simp [mput, mget]
  | cons x r ih =>
    simp only [mput]
    by_cases h : x.1 = a
    · subst h
      simp only [if_true, mget]
      by_cases hb : x.1 = b <;> simp [hb]
    · simp only [h, if_false, mget]
      by_cases hb : x.1 = b
      · have : ¬ a = b := by rintro rfl; exact h hb
        simp [hb, this]
      · simp [hb, ih]
theorem mget_none (m : List (κ × Value)) (a : κ) : mget m a = none ↔ ∀ x ∈ m, x.1 ≠ a := by
  induction m with
  | nil => simp [mget]
  | cons x r ih =>
    simp only [mget]
    by_cases h : x.1 = a <;> simp [h, ih]
theorem mput_len (m : List (κ × Value)) (a : κ) (v : Value) : (mput m a v).length = if mget m a = none then m.length + 1 else m.length := by
  induction m with
  | nil => simp [mput, mget]
  | cons x r ih =>
    simp only [mput, mget]
    by_cases h : x.1 = a
    · simp [h]
    · simp [h, ih]; split <;> omega
theorem mput_keys (m : List (κ × Value)) (a : κ) (v : Value) : (mput m a v).map (·.1) = if mget m a = none then m.map (·.1) ++ [a] else m.map (·.1) := by
  induction m with
  | nil => simp [mput, mget]
  | cons x r ih =>
    simp only [mput, mget]
    by_cases h : x.1 = a
    · simp [h]
    · simp [h, ih]; split <;> simp
theorem mget_mdel (m : List (κ × Value)) (a b : κ) (hn : (m.map (·.1)).Nodup) : mget (mdel m a) b = if a = b then none else mget m b := by
  induction m with
  | nil => simp [mdel, mget]
  | cons x r ih =>
    simp only [List.map_cons, List.nodup_cons] at hn
    simp only [mdel]
    by_cases h : x.1 = a
    · subst h
      simp only [if_true, mget]
      by_cases hb : x.1 = b
      · subst hb
        simp only [if_true]
        rw [mget_none]
        intro y hy e
        exact hn.1 (List.mem_map.2 ⟨y, hy, e⟩)
      · simp [hb]
    · simp only [h, if_false, mget]
      by_cases hb : x.1 = b
      · have : ¬ a = b := by rintro rfl; exact h hb
        simp [hb, this]
      · simp [hb, ih hn.2]

def findAt (m : List (κ × Value)) (a : κ) (i : Nat) : Option (Nat × Value) := match m with
  | [] => none
  | x :: r => if x.1 = a then some (i, x.2) else findAt r a (i + 1)
theorem findAt_get (m : List (κ × Value)) (a : κ) (i : Nat) : (findAt m a i).map (·.2) = mget m a := by
  induction m generalizing i with
  | nil => rfl
  | cons x r ih =>
    simp only [findAt, mget]
    by_cases h : x.1 = a <;> simp [h, ih]
end

/-- A kind of keys: how they are values, and that looking for one finds the first like it. -/
structure Keys (P : Program) (K : TypeId) (κ : Type) [DecidableEq κ] (key : κ → Value) : Prop where
  find : ∀ (a : κ) (m : List (κ × Value)) (es : List MapEntry), es.map (fun e => (e.key, e.val)) = m.map (fun x => (key x.1, x.2)) → ∀ w : World, (Instr.findKey K (key a) es).run P w = .ok (findAt m a 0) w
  check : ∀ (b : Bool) (a : κ) (w : World), (Instr.checkKey b 10000 K (key a)).run P w = .ok () w
  bits : ∀ a, Instr.sameBits 10000 (key a) (key a) = true
  inj : ∀ a b, key a = key b → a = b

theorem find_now {P : Program} {K : TypeId} {κ : Type} [DecidableEq κ] {key : κ → Value} {d : TypeDesc} (hd : P.underlying K = some d) (hs : ∀ a b, Instr.sameNow d (key a) (key b) = some (decide (a = b)))
    (a : κ) (m : List (κ × Value)) (es : List MapEntry) (h : es.map (fun e => (e.key, e.val)) = m.map (fun x => (key x.1, x.2))) (w : World) : (Instr.findKey K (key a) es).run P w = .ok (findAt m a 0) w := by
  have hf : ∀ (m : List (κ × Value)) (es : List MapEntry) (i : Nat), es.map (fun e => (e.key, e.val)) = m.map (fun x => (key x.1, x.2)) → Instr.findNow d (key a) es i = some (findAt m a i) := by
    intro m
    induction m with
    | nil => intro es i h; simp at h; subst h; rfl
    | cons x r ih =>
      intro es i h
      cases es with
      | nil => simp at h
      | cons e es =>
        simp only [List.map_cons, List.cons.injEq, Prod.mk.injEq] at h
        simp only [Instr.findNow, h.1.1, hs, findAt]
        by_cases hx : x.1 = a
        · subst hx; simp [h.1.2]
        · have : decide (a = x.1) = false := by simpa using fun e => hx e.symm
          simp [this, hx, ih es (i + 1) h.2]
  simp [Instr.findKey, run_underlying hd, hf m es 0 h]
theorem bytes_beq (a b : ByteArray) : (a == b) = decide (a = b) := by
  rcases a with ⟨a⟩
  rcases b with ⟨b⟩
  have e : (ByteArray.mk a == ByteArray.mk b) = (a == b) := rfl
  rw [e, Bool.eq_iff_iff]
  simp
theorem check_int {P : Program} {K : TypeId} {q : IntKind} (hd : P.underlying K = some (.int q)) (n : Nat) (b : Bool) (a : Int) (w : World) : (Instr.checkKey b (n + 1) K (.int q a)).run P w = .ok () w := by
  simp [Instr.checkKey, run_underlying hd]
theorem check_str {P : Program} {K : TypeId} (hd : P.underlying K = some .string) (n : Nat) (b : Bool) (a : ByteArray) (w : World) : (Instr.checkKey b (n + 1) K (.string a)).run P w = .ok () w := by
  simp [Instr.checkKey, run_underlying hd]
def intKey (j : Int) : Value := .int .i64 j
def strKey (s : ByteArray) : Value := .string s
theorem keys_int {P : Program} {K : TypeId} (hd : P.underlying K = some (.int .i64)) : Keys P K Int intKey where
  find := find_now hd (fun a b => by simp [intKey, Instr.sameNow]; rfl)
  check := fun b a w => check_int hd 9999 b a w
  bits := fun a => by simp [intKey, Instr.sameBits]
  inj := fun a b h => by simpa [intKey] using h
theorem keys_str {P : Program} {K : TypeId} (hd : P.underlying K = some .string) : Keys P K ByteArray strKey where
  find := find_now hd (fun a b => by simp only [strKey, Instr.sameNow]; rw [bytes_beq])
  check := fun b a w => check_str hd 9999 b a w
  bits := fun a => by simp only [strKey, Instr.sameBits]; rw [bytes_beq]; simp
  inj := fun a b h => by simpa [strKey] using h

/-- Block b is a map that holds just m: each key once; its births rise. -/
def MapAt {κ : Type} (w : World) (b : Nat) (key : κ → Value) (m : List (κ × Value)) : Prop :=
  ∃ es clock, w.heap[b]? = some (.map es clock) ∧ es.toList.map (fun e => (e.key, e.val)) = m.map (fun x => (key x.1, x.2)) ∧ (m.map (·.1)).Nodup ∧
    (es.toList.map (·.born)).Pairwise (· < ·) ∧ ∀ e ∈ es.toList, e.born < clock

section
variable {κ : Type} {key : κ → Value} {w w' : World} {b : Nat} {m : List (κ × Value)} {P : Program} {T K E : TypeId}
theorem MapAt.lt (h : MapAt w b key m) : b < w.heap.size := by
  obtain ⟨es, clock, hb, _⟩ := h
  rcases Nat.lt_or_ge b w.heap.size with hlt | hge
  · exact hlt
  · rw [Array.getElem?_eq_none hge] at hb; cases hb
theorem MapAt.same (h : MapAt w b key m) (hb : w'.heap[b]? = w.heap[b]?) : MapAt w' b key m := by
  obtain ⟨es, clock, h1, h2⟩ := h
  exact ⟨es, clock, hb.trans h1, h2⟩
theorem MapAt.kp {S : Nat → Prop} (h : MapAt w b key m) (k : Kp S w w') (hn : ¬ S b) : MapAt w' b key m := h.same (k.block b h.lt hn)
theorem MapAt.new (w : World) : MapAt (w.alloc (.map #[] 0)) w.heap.size key ([] : List (κ × Value)) :=
  ⟨#[], 0, heap_alloc_new w _, by simp, by simp, by simp, by simp⟩
theorem MapAt.count (h : MapAt w b key m) (hT : P.underlying T = some (.map K E)) (ty : TypeId) : (Builtin.len_ #[T] ty #[.map (some b)]).run P w = .ok (.int .i64 m.length) w := by
  obtain ⟨es, clock, hb, he, _⟩ := h
  have hlen : es.size = m.length := by have := congrArg List.length he; simpa using this
  simp [Builtin.len_, run_underlying hT, getObj, Sem.run, hb, goInt, hlen]
end
section
variable {κ : Type} [DecidableEq κ] {key : κ → Value} {w w' : World} {b : Nat} {m : List (κ × Value)} {P : Program} {T K E : TypeId}
theorem MapAt.lookup (h : MapAt w b key m) (hk : Keys P K κ key) (hT : P.underlying T = some (.map K E)) (a : κ) {z : Value} (hz : ∀ w, (zeroValue E).run P w = .ok z w) :
    (Instr.lookup T (.map (some b)) (key a) false).run P w = .ok ((mget m a).getD z) w := by
  obtain ⟨es, clock, hb, he, _⟩ := h
  have hf := findAt_get m a 0
  simp only [Instr.lookup, Sem.run_bind, run_underlying hT, Result.andThen_ok, getObj, Sem.run, hb, Sem.run_pure, hk.check, hk.find a m es.toList he]
  rcases hfa : findAt m a 0 with _ | ⟨i, v⟩
  · rw [hfa] at hf; simp at hf
    simp [← hf, hz]
  · rw [hfa] at hf; simp at hf
    simp [← hf]
theorem MapAt.lookup_ok (h : MapAt w b key m) (hk : Keys P K κ key) (hT : P.underlying T = some (.map K E)) (a : κ) {z : Value} (hz : ∀ w, (zeroValue E).run P w = .ok z w) :
    (Instr.lookup T (.map (some b)) (key a) true).run P w = .ok (.tuple #[(mget m a).getD z, .bool (mget m a).isSome]) w := by
  obtain ⟨es, clock, hb, he, _⟩ := h
  have hf := findAt_get m a 0
  simp only [Instr.lookup, Sem.run_bind, run_underlying hT, Result.andThen_ok, getObj, Sem.run, hb, Sem.run_pure, hk.check, hk.find a m es.toList he]
  rcases hfa : findAt m a 0 with _ | ⟨i, v⟩
  · rw [hfa] at hf; simp at hf
    simp [← hf, hz]
  · rw [hfa] at hf; simp at hf
    simp [← hf]

theorem findAt_some {m : List (κ × Value)} {a : κ} {i j : Nat} {v : Value} (h : findAt m a i = some (j, v)) : i ≤ j ∧ j - i < m.length ∧ (m.map (·.1))[j - i]? = some a ∧ mput m a = fun u => m.set (j - i) (a, u) := by
  induction m generalizing i with
  | nil => cases h
  | cons x r ih =>
    simp only [findAt] at h
    by_cases hx : x.1 = a
    · simp only [hx, if_true, Option.some.injEq, Prod.mk.injEq] at h
      obtain ⟨rfl, _⟩ := h
      simp [hx, mput]
    · simp only [hx, if_false] at h
      obtain ⟨h1, h2, h3, h4⟩ := ih h
      refine ⟨by omega, by simp; omega, ?_, ?_⟩
      · rw [show j - i = (j - (i + 1)) + 1 by omega]; simpa using h3
      · funext u
        rw [show j - i = (j - (i + 1)) + 1 by omega]
        simp only [mput, hx, if_false, List.set_cons_succ, h4]
theorem findAt_none {m : List (κ × Value)} {a : κ} {i : Nat} (h : findAt m a i = none) : mget m a = none ∧ ∀ u, mput m a u = m ++ [(a, u)] := by
  induction m generalizing i with
  | nil => exact ⟨rfl, fun u => rfl⟩
  | cons x r ih =>
    simp only [findAt] at h
    by_cases hx : x.1 = a
    · simp [hx] at h
    · simp only [hx, if_false] at h
      obtain ⟨h1, h2⟩ := ih h
      exact ⟨by simp [mget, hx, h1], fun u => by simp [mput, hx, h2]⟩
theorem mput_nodup (hn : (m.map (·.1)).Nodup) (a : κ) (v : Value) : ((mput m a v).map (·.1)).Nodup := by
  rw [mput_keys]
  split
  · rename_i h
    rw [mget_none] at h
    rw [List.nodup_append]
    refine ⟨hn, by simp, fun x hx y hy => ?_⟩
    simp at hy; subst hy
    rintro rfl
    obtain ⟨z, hz, e⟩ := List.mem_map.1 hx
    exact h z hz e
  · exact hn

theorem heap_set_obj (w : World) (b : Nat) (o : Obj) (k : Nat) (hk : k ≠ b) : (w.heap.setIfInBounds b o)[k]? = w.heap[k]? := by
  rw [Array.getElem?_setIfInBounds_ne (by omega)]

theorem MapAt.update (h : MapAt w b key m) (hk : Keys P K κ key) (hT : P.underlying T = some (.map K E)) (a : κ) (v : Value) :
    ∃ w', (Instr.mapUpdate T (.map (some b)) (key a) v).run P w = .ok () w' ∧ MapAt w' b key (mput m a v) ∧ Kp (· = b) w w' ∧ w'.heap.size = w.heap.size := by
  have hlt := h.lt
  obtain ⟨es, clock, hb, he, hn, hp, hc⟩ := h
  have hlen : es.toList.length = m.length := by have := congrArg List.length he; simpa using this
  rcases hfa : findAt m a 0 with _ | ⟨i, u⟩
  · obtain ⟨h1, h2⟩ := findAt_none hfa
    refine ⟨{ w with heap := w.heap.setIfInBounds b (.map (es.push { key := key a, val := v, born := clock }) (clock + 1)) }, ?_, ?_, ?_, by simp⟩
    · simp only [Instr.mapUpdate, Sem.run_bind, run_underlying hT, Result.andThen_ok, getObj, setObj, Sem.run, hb, Sem.run_pure, hk.check, hk.find a m es.toList he, hfa]
    · refine ⟨es.push { key := key a, val := v, born := clock }, clock + 1, ?_, ?_, mput_nodup hn a v, ?_, ?_⟩
      · simp [hlt]
      · rw [h2]; simp at he ⊢; exact he
      · simp only [Array.toList_push, List.map_append, List.map_cons, List.map_nil]
        rw [List.pairwise_append]
        refine ⟨hp, by simp, fun x hx y hy => ?_⟩
        simp at hy; subst hy
        obtain ⟨e, he1, rfl⟩ := List.mem_map.1 hx
        exact hc e he1
      · intro e hx
        simp only [Array.toList_push, List.mem_append, List.mem_singleton] at hx
        rcases hx with hx | rfl
        · have := hc e hx; omega
        · simp
    · exact ⟨rfl, rfl, rfl, by simp, fun k _ hne => heap_set_obj w b _ k hne⟩
  · obtain ⟨_, h2, h3, h4⟩ := findAt_some hfa
    simp only [Nat.sub_zero] at h2 h3 h4
    have hi : i < es.size := by simpa [← hlen] using h2
    have hkey : es[i].key = key a := by
      have e1 : (es.toList.map (fun e => (e.key, e.val)))[i]? = (m.map (fun x => (key x.1, x.2)))[i]? := by rw [he]
      have e2 : m[i].1 = a := by simpa [h2] using h3
      simp [hi, h2, e2] at e1
      exact e1.1
    refine ⟨{ w with heap := w.heap.setIfInBounds b (.map (es.modify i fun e => { e with key := key a, val := v }) clock) }, ?_, ?_, ?_, by simp⟩
    · simp only [Instr.mapUpdate, Sem.run_bind, run_underlying hT, Result.andThen_ok, getObj, setObj, Sem.run, hb, Sem.run_pure, hk.check, hk.find a m es.toList he, hfa]
      simp [hi, hkey, Instr.keyThatStays, hk.bits, Sem.run, hb]
    · refine ⟨es.modify i fun e => { e with key := key a, val := v }, clock, ?_, ?_, mput_nodup hn a v, ?_, ?_⟩
      · simp [hlt]
      · rw [h4]
        apply List.ext_getElem?
        intro j
        have ej : (es.toList.map (fun e => (e.key, e.val)))[j]? = (m.map (fun x => (key x.1, x.2)))[j]? := by rw [he]
        simp only [List.getElem?_map, Array.getElem?_toList, Array.getElem?_modify, List.getElem?_set] at ej ⊢
        by_cases hij : i = j
        · subst hij
          simp [hi, h2]
        · simp only [hij, if_false]; exact ej
      · have : (es.modify i fun e => { e with key := key a, val := v }).toList.map (·.born) = es.toList.map (·.born) := by
          apply List.ext_getElem?
          intro j
          simp only [List.getElem?_map, Array.getElem?_toList, Array.getElem?_modify]
          by_cases hij : i = j
          · subst hij; simp [hi]
          · simp [hij]
        rw [this]; exact hp
      · intro e hx
        have hm : e.born ∈ es.toList.map (·.born) := by
          have : (es.modify i fun e => { e with key := key a, val := v }).toList.map (·.born) = es.toList.map (·.born) := by
            apply List.ext_getElem?
            intro j
            simp only [List.getElem?_map, Array.getElem?_toList, Array.getElem?_modify]
            by_cases hij : i = j
            · subst hij; simp [hi]
            · simp [hij]
          rw [← this]; exact List.mem_map.2 ⟨e, hx, rfl⟩
        obtain ⟨e', he', ee⟩ := List.mem_map.1 hm
        rw [← ee]; exact hc e' he'
    · exact ⟨rfl, rfl, rfl, by simp, fun k _ hne => heap_set_obj w b _ k hne⟩


omit [DecidableEq κ] in
theorem erase_map {α β : Type} (f : α → β) : ∀ (l : List α) (i : Nat), (l.eraseIdx i).map f = (l.map f).eraseIdx i
  | [], _ => rfl
  | _ :: _, 0 => rfl
  | x :: r, i + 1 => by simp [erase_map f r i]
theorem findAt_mdel {m : List (κ × Value)} {a : κ} {i j : Nat} {v : Value} (h : findAt m a i = some (j, v)) : mdel m a = m.eraseIdx (j - i) := by
  induction m generalizing i with
  | nil => cases h
  | cons x r ih =>
    simp only [findAt] at h
    by_cases hx : x.1 = a
    · simp only [hx, if_true, Option.some.injEq, Prod.mk.injEq] at h
      obtain ⟨rfl, _⟩ := h
      simp [hx, mdel]
    · simp only [hx, if_false] at h
      have h1 := (findAt_some h).1
      rw [show j - i = (j - (i + 1)) + 1 by omega]
      simp only [mdel, hx, if_false, List.eraseIdx_cons_succ, ih h]
theorem findAt_none_mdel {m : List (κ × Value)} {a : κ} {i : Nat} (h : findAt m a i = none) : mdel m a = m := by
  induction m generalizing i with
  | nil => rfl
  | cons x r ih =>
    simp only [findAt] at h
    by_cases hx : x.1 = a
    · simp [hx] at h
    · simp only [hx, if_false] at h
      simp [mdel, hx, ih h]
theorem MapAt.delete (h : MapAt w b key m) (hk : Keys P K κ key) (hT : P.underlying T = some (.map K E)) (a : κ) (kt ty : TypeId) :
    ∃ w', (Builtin.delete_ #[T, kt] ty #[.map (some b), key a]).run P w = .ok (.tuple #[]) w' ∧ MapAt w' b key (mdel m a) ∧ Kp (· = b) w w' ∧ w'.heap.size = w.heap.size := by
  have hlt := h.lt
  obtain ⟨es, clock, hb, he, hn, hp, hc⟩ := h
  have hlen : es.toList.length = m.length := by have := congrArg List.length he; simpa using this
  rcases hfa : findAt m a 0 with _ | ⟨i, u⟩
  · refine ⟨{ w with heap := w.heap.setIfInBounds b (.map es clock) }, ?_, ?_, ⟨rfl, rfl, rfl, by simp, fun k _ hne => heap_set_obj w b _ k hne⟩, by simp⟩
    · simp [Builtin.delete_, run_underlying hT, getObj, setObj, Sem.run, hb, hk.check, hk.find a m es.toList he, hfa]
    · rw [findAt_none_mdel hfa]
      exact ⟨es, clock, by simp [hlt], he, hn, hp, hc⟩
  · obtain ⟨_, h2, _, _⟩ := findAt_some hfa
    simp only [Nat.sub_zero] at h2
    have hi : i < es.size := by simpa [← hlen] using h2
    have hmd := findAt_mdel hfa
    simp only [Nat.sub_zero] at hmd
    have hes : (es.eraseIdxIfInBounds i).toList = es.toList.eraseIdx i := by simp [Array.eraseIdxIfInBounds, hi]
    refine ⟨{ w with heap := w.heap.setIfInBounds b (.map (es.eraseIdxIfInBounds i) clock) }, ?_, ?_, ⟨rfl, rfl, rfl, by simp, fun k _ hne => heap_set_obj w b _ k hne⟩, by simp⟩
    · simp [Builtin.delete_, run_underlying hT, getObj, setObj, Sem.run, hb, hk.check, hk.find a m es.toList he, hfa]
    · rw [hmd]
      refine ⟨es.eraseIdxIfInBounds i, clock, by simp [hlt], ?_, ?_, ?_, ?_⟩
      · rw [hes, erase_map, erase_map, he]
      · rw [erase_map]; exact hn.sublist (List.eraseIdx_sublist _ _)
      · rw [hes, erase_map]; exact hp.sublist (List.eraseIdx_sublist _ _)
      · intro e hx; rw [hes] at hx; exact hc e ((List.eraseIdx_sublist _ _).subset hx)
omit [DecidableEq κ] in
theorem MapAt.clear (h : MapAt w b key m) (hT : P.underlying T = some (.map K E)) (ty : TypeId) :
    ∃ w', (Builtin.clear_ #[T] ty #[.map (some b)]).run P w = .ok (.tuple #[]) w' ∧ MapAt w' b key ([] : List (κ × Value)) ∧ Kp (· = b) w w' ∧ w'.heap.size = w.heap.size := by
  have hlt := h.lt
  obtain ⟨es, clock, hb, he, hn, hp, hc⟩ := h
  refine ⟨{ w with heap := w.heap.setIfInBounds b (.map #[] clock) }, ?_, ?_, ⟨rfl, rfl, rfl, by simp, fun k _ hne => heap_set_obj w b _ k hne⟩, by simp⟩
  · simp [Builtin.clear_, run_underlying hT, getObj, setObj, Sem.run, hb]
  · exact ⟨#[], clock, by simp [hlt], by simp, by simp, by simp, by simp⟩
end
end Go.Proofs.Ytedjaahidncokab
