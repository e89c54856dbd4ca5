/- An abstract machine: values as trees, memory that is written as objects; how they lie in the model's memory. -/
import Derived.Test.YtgnpihhakogeeaaV
import Derived.ArgAppend
import Derived.Laws.Cells
import Derived.Laws.CopyRow
namespace Go.Proofs.Ytgnpihhakogeeaa
set_option linter.unusedSimpArgs false
set_option linter.unusedVariables false
open Go.RowKit

inductive Tok where
  | no
  | full
  | own (id : Nat)
  deriving DecidableEq

/-- what a value is good for: a tree where nothing is written any more, else the number of an object -/
inductive AV where
  | any
  | ub
  | sc (v : Value)
  | sl (tok : Tok) (rows : List (List AV))
  | el (row : List AV) (off : Nat)
  | ptr (id off : Nat)
  | arr (id off len cap : Nat)
  | agg (cs : List AV)
  | tup (vs : List AV)
  | mp (id : Nat)
  | stp (id : Nat) (key : Value)
  | fn (f : FuncId) (first caps : List AV)
  deriving Inhabited
def AV.one : AV → Bool
  | .any | .agg _ | .tup _ => false
  | .sc v => v.oneCell'
  | _ => true
abbrev AV.i (n : Int) : AV := .sc (.int .i64 n)
abbrev AV.b (b : Bool) : AV := .sc (.bool b)
/-- the cells of a value; none: it is not known how many -/
def AV.cells : AV → Option (List AV)
  | .agg cs => some cs
  | .any | .tup _ => none
  | .sc v => bif v.oneCell' then some [.sc v] else none
  | a => some [a]

/-- where objects (ι) and rows that may be appended to (τ: how far, room, block) lie; stamps of maps' entries; which cells are not written any more -/
structure Gh where
  ι : Nat → Option Nat
  τ : Nat → Option (Nat × Nat × Nat)
  β : Nat → Value → Option Nat
  RO : Nat → Nat → Prop

def TokOk (g : Gh) (tok : Tok) (n : Nat) (A : Option Addr) (c : Nat) : Prop :=
  match tok with
  | .no => True
  | .full => c = n
  | .own id => ∃ fr cap blk, g.τ id = some (fr, cap, blk) ∧ n ≤ fr ∧ (n = fr → c = cap ∧ (0 < cap → A = some ⟨blk, 0, none⟩))

inductive VR (g : Gh) (w : World) : AV → Value → Prop
  | any (v : Value) : VR g w .any v
  | ub (b : Bool) : VR g w .ub (.bool b)
  | sc (v : Value) : VR g w (.sc v) v
  | sl (tok : Tok) (rows : List (List AV)) (A : Option Addr) (c sz b o : Nat) (f : Nat → Nat → Value) (hc : rows.length ≤ c) (hm : c ≤ maxLen)
      (hA : rows ≠ [] → A = some ⟨b, o, none⟩) (hsz : ∀ r ∈ rows, r.length = sz ∧ ∀ x ∈ r, x.one = true)
      (hcell : ∀ i r j x, rows[i]? = some r → r[j]? = some x → w.cell? ⟨b, o + i * sz + j, none⟩ = some (f i j) ∧ g.RO b (o + i * sz + j))
      (hv : ∀ i r j x, rows[i]? = some r → r[j]? = some x → VR g w x (f i j)) (ht : TokOk g tok rows.length A c) : VR g w (.sl tok rows) (.slice A rows.length c)
  | el (row : List AV) (off b base : Nat) (f : Nat → Value) (hone : ∀ x ∈ row, x.one = true)
      (hcell : ∀ j x, row[j]? = some x → w.cell? ⟨b, base + j, none⟩ = some (f j) ∧ g.RO b (base + j))
      (hv : ∀ j x, row[j]? = some x → VR g w x (f j)) : VR g w (.el row off) (.pointer (some ⟨b, base + off, none⟩))
  | ptr (id off b : Nat) (h : g.ι id = some b) : VR g w (.ptr id off) (.pointer (some ⟨b, off, none⟩))
  | arr (id off len cap b : Nat) (h : g.ι id = some b) (hc : len ≤ cap) (hm : cap ≤ maxLen) : VR g w (.arr id off len cap) (.slice (some ⟨b, off, none⟩) len cap)
  | agg (cs : List AV) (vs : Array Value) (hl : cs.length = vs.size) (hone : ∀ x ∈ cs, x.one = true) (hv : ∀ (i : Nat) x u, cs[i]? = some x → vs[i]? = some u → VR g w x u) : VR g w (.agg cs) (.agg vs)
  | tup (cs : List AV) (vs : Array Value) (hl : cs.length = vs.size) (hv : ∀ (i : Nat) x u, cs[i]? = some x → vs[i]? = some u → VR g w x u) : VR g w (.tup cs) (.tuple vs)
  | mp (id b : Nat) (h : g.ι id = some b) : VR g w (.mp id) (.map (some b))
  | stp (id : Nat) (key : Value) (n : Nat) (h : g.β id key = some n) : VR g w (.stp id key) (.int .i64 n)
  | fn (f : FuncId) (first caps : List AV) (vf vc : Array Value) (hl1 : first.length = vf.size) (hl2 : caps.length = vc.size)
      (h1 : ∀ (i : Nat) x u, first[i]? = some x → vf[i]? = some u → VR g w x u) (h2 : ∀ (i : Nat) x u, caps[i]? = some x → vc[i]? = some u → VR g w x u) : VR g w (.fn f first caps) (.func (.func f) vf vc)

theorem VR.one {g : Gh} {w : World} {a : AV} {v : Value} (h : VR g w a v) (ho : a.one = true) : v.oneCell' = true := by
  cases h <;> first | rfl | (simp [AV.one] at ho; done) | exact ho

/-- one state of memory, seen from an earlier one -/
structure Gh.le (g g' : Gh) (w w' : World) : Prop where
  ι : ∀ id b, g.ι id = some b → g'.ι id = some b
  τ : ∀ id fr c b, g.τ id = some (fr, c, b) → ∃ fr' c' b', g'.τ id = some (fr', c', b') ∧ (fr < fr' ∨ (fr' = fr ∧ c' = c ∧ b' = b))
  β : ∀ id k n, g.β id k = some n → g'.β id k = some n
  RO : ∀ b j, g.RO b j → g'.RO b j
  cell : ∀ b j, g.RO b j → w'.cell? ⟨b, j, none⟩ = w.cell? ⟨b, j, none⟩
theorem Gh.le.refl (g : Gh) (w : World) : g.le g w w := ⟨fun _ _ h => h, fun _ _ _ _ h => ⟨_, _, _, h, .inr ⟨rfl, rfl, rfl⟩⟩, fun _ _ _ h => h, fun _ _ h => h, fun _ _ _ => rfl⟩
theorem Gh.le.trans {g g' g'' : Gh} {w w' w'' : World} (h : g.le g' w w') (k : g'.le g'' w' w'') : g.le g'' w w'' := by
  refine ⟨fun id b e => k.ι id b (h.ι id b e), fun id fr c b e => ?_, fun id x n e => k.β _ _ _ (h.β _ _ _ e), fun b j e => k.RO b j (h.RO b j e), fun b j e => (k.cell b j (h.RO b j e)).trans (h.cell b j e)⟩
  obtain ⟨fr', c', b', e', h1⟩ := h.τ id fr c b e
  obtain ⟨fr'', c'', b'', e'', h2⟩ := k.τ id fr' c' b' e'
  refine ⟨fr'', c'', b'', e'', ?_⟩
  rcases h1 with h1 | ⟨rfl, rfl, rfl⟩
  · rcases h2 with h2 | ⟨rfl, rfl, rfl⟩
    · exact .inl (by omega)
    · exact .inl h1
  · exact h2
theorem TokOk.mono {g g' : Gh} {w w' : World} {tok : Tok} {n : Nat} {A : Option Addr} {c : Nat} (h : TokOk g tok n A c) (k : g.le g' w w') : TokOk g' tok n A c := by
  cases tok with
  | no => trivial
  | full => exact h
  | own id =>
    obtain ⟨fr, cap, blk, e, h1, h2⟩ := h
    obtain ⟨fr', cap', blk', e', h3⟩ := k.τ id fr cap blk e
    refine ⟨fr', cap', blk', e', ?_⟩
    rcases h3 with h3 | ⟨rfl, rfl, rfl⟩
    · exact ⟨by omega, fun h => by omega⟩
    · exact ⟨h1, h2⟩
theorem VR.mono {g g' : Gh} {w w' : World} {a : AV} {v : Value} (h : VR g w a v) (k : g.le g' w w') : VR g' w' a v := by
  induction h with
  | any v => exact .any v
  | ub b => exact .ub b
  | sc v => exact .sc v
  | sl tok rows A c sz b o f hc hm hA hsz hcell hv ht ih =>
    exact .sl tok rows A c sz b o f hc hm hA hsz (fun i r j x hr hx => ⟨(k.cell _ _ (hcell i r j x hr hx).2).trans (hcell i r j x hr hx).1, k.RO _ _ (hcell i r j x hr hx).2⟩) ih (ht.mono k)
  | el row off b base f hone hcell hv ih =>
    exact .el row off b base f hone (fun j x hx => ⟨(k.cell _ _ (hcell j x hx).2).trans (hcell j x hx).1, k.RO _ _ (hcell j x hx).2⟩) ih
  | ptr id off b h => exact .ptr id off b (k.ι _ _ h)
  | arr id off len cap b h hc hm => exact .arr id off len cap b (k.ι _ _ h) hc hm
  | agg cs vs hl hone hv ih => exact .agg cs vs hl hone ih
  | tup cs vs hl hv ih => exact .tup cs vs hl ih
  | mp id b h => exact .mp id b (k.ι _ _ h)
  | stp id key n h => exact .stp id key n (k.β _ _ _ h)
  | fn f first caps vf vc hl1 hl2 h1 h2 ih1 ih2 => exact .fn f first caps vf vc hl1 hl2 ih1 ih2

/-- lists of values -/
def VRs (g : Gh) (w : World) (as : List AV) (vs : List Value) : Prop := as.length = vs.length ∧ ∀ (i : Nat) x u, as[i]? = some x → vs[i]? = some u → VR g w x u
theorem VRs.mono {g g' : Gh} {w w' : World} {as : List AV} {vs : List Value} (h : VRs g w as vs) (k : g.le g' w w') : VRs g' w' as vs := ⟨h.1, fun i x u hx hu => (h.2 i x u hx hu).mono k⟩
theorem VRs.nil {g : Gh} {w : World} : VRs g w [] [] := ⟨rfl, fun i x u h => by simp at h⟩
theorem VRs.cons {g : Gh} {w : World} {a : AV} {v : Value} {as : List AV} {vs : List Value} (h : VR g w a v) (hs : VRs g w as vs) : VRs g w (a :: as) (v :: vs) := by
  refine ⟨by simp [hs.1], fun i x u hx hu => ?_⟩
  cases i with
  | zero => simp at hx hu; subst hx hu; exact h
  | succ i => simp at hx hu; exact hs.2 i x u hx hu
theorem VRs.app {g : Gh} {w : World} {as bs : List AV} {vs us : List Value} (h : VRs g w as vs) (k : VRs g w bs us) : VRs g w (as ++ bs) (vs ++ us) := by
  refine ⟨by simp [h.1, k.1], fun i x u hx hu => ?_⟩
  by_cases hi : i < as.length
  · rw [List.getElem?_append_left hi] at hx
    rw [List.getElem?_append_left (by rw [← h.1]; exact hi)] at hu
    exact h.2 i x u hx hu
  · rw [List.getElem?_append_right (by omega)] at hx
    rw [List.getElem?_append_right (by rw [← h.1]; omega), ← h.1] at hu
    exact k.2 _ x u hx hu
theorem VRs.cut {g : Gh} {w : World} {as : List AV} {vs : List Value} (h : VRs g w as vs) (i n : Nat) : VRs g w ((as.drop i).take n) ((vs.drop i).take n) := by
  refine ⟨by simp [h.1], fun j x u hx hu => ?_⟩
  rw [List.getElem?_take] at hx hu
  split at hx
  · rename_i hj
    rw [if_pos hj] at hu
    rw [List.getElem?_drop] at hx hu
    exact h.2 _ x u hx hu
  · cases hx
theorem VRs.get {g : Gh} {w : World} {as : List AV} {vs : List Value} (h : VRs g w as vs) {i : Nat} {x : AV} (hx : as[i]? = some x) : ∃ u, vs[i]? = some u ∧ VR g w x u := by
  have hi : i < vs.length := by rw [← h.1]; exact (List.getElem?_eq_some_iff.1 hx).1
  exact ⟨vs[i], List.getElem?_eq_getElem hi, h.2 i x _ hx (List.getElem?_eq_getElem hi)⟩
theorem VRs.ones {g : Gh} {w : World} {as : List AV} {vs : List Value} (h : VRs g w as vs) (ho : ∀ x ∈ as, x.one = true) : ∀ v ∈ vs, v.oneCell' = true := by
  intro v hv
  obtain ⟨i, hi, rfl⟩ := List.getElem_of_mem hv
  have hi2 : i < as.length := by rw [h.1]; exact hi
  exact (h.2 i as[i] _ (List.getElem?_eq_getElem hi2) (List.getElem?_eq_getElem hi)).one (ho _ (List.getElem_mem hi2))
/-- the cells of a value -/
theorem VR.cells {g : Gh} {w : World} {a : AV} {v : Value} {cs : List AV} (h : VR g w a v) (hc : a.cells = some cs) : VRs g w cs v.cells.toList ∧ ∀ x ∈ cs, x.one = true := by
  cases h with
  | agg cs' vs hl hone hv =>
    simp only [AV.cells] at hc
    injection hc with hc
    subst hc
    exact ⟨⟨by simpa [Value.cells] using hl, fun i x u hx hu => hv i x u hx (by simpa [Value.cells] using hu)⟩, hone⟩
  | any v => simp [AV.cells] at hc
  | tup cs' vs hl hv => simp [AV.cells] at hc
  | sc v =>
    simp only [AV.cells] at hc
    by_cases ho : v.oneCell' = true
    · rw [ho, cond_true] at hc
      injection hc with hc
      subst hc
      have e : v.cells = #[v] := by cases v <;> first | rfl | (simp [Value.oneCell'] at ho)
      rw [e]
      exact ⟨VRs.nil.cons (.sc v), by simpa [AV.one] using ho⟩
    · simp only [Bool.not_eq_true] at ho; rw [ho] at hc; cases hc
  | sl tok rows A c sz b o f h1 h2 h3 h4 h5 h6 h7 =>
    simp only [AV.cells] at hc
    injection hc with hc
    subst hc
    exact ⟨VRs.nil.cons (.sl tok rows A c sz b o f h1 h2 h3 h4 h5 h6 h7), by simp [AV.one]⟩
  | el row off b base f h1 h2 h3 =>
    simp only [AV.cells] at hc
    injection hc with hc
    subst hc
    exact ⟨VRs.nil.cons (.el row off b base f h1 h2 h3), by simp [AV.one]⟩
  | ub b =>
    simp only [AV.cells] at hc
    injection hc with hc
    subst hc
    exact ⟨VRs.nil.cons (.ub b), by simp [AV.one]⟩
  | ptr id off b h =>
    simp only [AV.cells] at hc
    injection hc with hc
    subst hc
    exact ⟨VRs.nil.cons (.ptr id off b h), by simp [AV.one]⟩
  | arr id off len cap b h h1 h2 =>
    simp only [AV.cells] at hc
    injection hc with hc
    subst hc
    exact ⟨VRs.nil.cons (.arr id off len cap b h h1 h2), by simp [AV.one]⟩
  | mp id b h =>
    simp only [AV.cells] at hc
    injection hc with hc
    subst hc
    exact ⟨VRs.nil.cons (.mp id b h), by simp [AV.one]⟩
  | stp id key n h =>
    simp only [AV.cells] at hc
    injection hc with hc
    subst hc
    exact ⟨VRs.nil.cons (.stp id key n h), by simp [AV.one]⟩
  | fn f first caps vf vc h1 h2 h3 h4 =>
    simp only [AV.cells] at hc
    injection hc with hc
    subst hc
    exact ⟨VRs.nil.cons (.fn f first caps vf vc h1 h2 h3 h4), by simp [AV.one]⟩

/-! plain kinds, and keys of maps -/
inductive SK where
  | int (k : IntKind)
  | str
  | bool
  deriving DecidableEq
def SK.is : SK → Value → Bool
  | .int k, .int k' _ => k == k'
  | .str, .string _ => true
  | .bool, .bool _ => true
  | _, _ => false
inductive KK where
  | one (k : SK)
  | row (ks : List SK)
  deriving DecidableEq
def KK.isKey : KK → Value → Prop
  | .one k, v => k.is v = true
  | .row ks, v => ∃ vs : List Value, v = .agg vs.toArray ∧ vs.length = ks.length ∧ ∀ (i : Nat) (k : SK) (x : Value), ks[i]? = some k → vs[i]? = some x → k.is x = true

/-! objects -/
inductive AObj where
  | cells (cs : List AV) (E : TypeId)
  | tok (n : Nat) (E : TypeId) (sz : Nat)
  | map (kk : KK) (es : List (Value × AV)) (del : Bool)
structure AHeap where
  get : Nat → Option AObj
  next : Nat
  wf : ∀ i, next ≤ i → get i = none
namespace AHeap
def emp : AHeap := ⟨fun _ => none, 0, fun _ _ => rfl⟩
def alloc (H : AHeap) (o : AObj) : AHeap := ⟨fun i => if i = H.next then some o else H.get i, H.next + 1, fun i hi => by rw [if_neg (by omega)]; exact H.wf i (by omega)⟩
def set (H : AHeap) (id : Nat) (o : AObj) : AHeap := ⟨fun i => if i = id then (if id < H.next then some o else none) else H.get i, H.next, fun i hi => by
  split
  · rw [if_neg (by omega)]
  · exact H.wf i hi⟩
def bump (H : AHeap) (k : Nat) : AHeap := ⟨H.get, H.next + k, fun i hi => H.wf i (by omega)⟩
variable {H H' H'' : AHeap} {id : Nat} {o o' : AObj}
theorem lt (h : H.get id = some o) : id < H.next := by
  rcases Nat.lt_or_ge id H.next with hl | hg
  · exact hl
  · rw [H.wf id hg] at h; cases h
@[simp] theorem next_alloc : (H.alloc o).next = H.next + 1 := rfl
@[simp] theorem next_set : (H.set id o).next = H.next := rfl
@[simp] theorem next_bump {k : Nat} : (H.bump k).next = H.next + k := rfl
@[simp] theorem get_bump {k : Nat} : (H.bump k).get id = H.get id := rfl
@[simp] theorem get_alloc_self : (H.alloc o).get H.next = some o := by simp [alloc]
theorem get_alloc_at (h : id = H.next) : (H.alloc o).get id = some o := by subst h; simp
theorem get_alloc_ne (h : id ≠ H.next) : (H.alloc o).get id = H.get id := by simp [alloc, h]
theorem get_alloc_lt (h : id < H.next) : (H.alloc o).get id = H.get id := get_alloc_ne (by omega)
theorem get_set_self (h : id < H.next) : (H.set id o).get id = some o := by simp [set, h]
theorem get_set_ne {i : Nat} (h : i ≠ id) : (H.set id o).get i = H.get i := by simp [set, h]
/-- what was there is there; there may be more -/
structure Ext (H H' : AHeap) : Prop where
  next : H.next ≤ H'.next
  get : ∀ i o, H.get i = some o → H'.get i = some o
theorem Ext.refl (H : AHeap) : Ext H H := ⟨Nat.le_refl _, fun _ _ h => h⟩
theorem Ext.trans (h : Ext H H') (k : Ext H' H'') : Ext H H'' := ⟨Nat.le_trans h.next k.next, fun i o e => k.get i o (h.get i o e)⟩
theorem Ext.alloc (h : Ext H H') : Ext H (H'.alloc o) := ⟨Nat.le_succ_of_le h.next, fun i o' e => by
  have := lt (h.get i o' e)
  rw [get_alloc_lt this]; exact h.get i o' e⟩
theorem Ext.bump {k : Nat} (h : Ext H H') : Ext H (H'.bump k) := ⟨Nat.le_trans h.next (Nat.le_add_right _ _), h.get⟩
theorem Ext.set (h : Ext H H') (hid : H.next ≤ id) : Ext H (H'.set id o) := ⟨h.next, fun i o' e => by
  have := lt e
  rw [get_set_ne (by omega)]; exact h.get i o' e⟩
end AHeap

def ORel (g : Gh) (w : World) (id : Nat) : AObj → Prop
  | .cells cs E => ∃ b carr, g.ι id = some b ∧ w.heap[b]? = some (.cells carr E (0, 0)) ∧ VRs g w cs carr.toList ∧ (∀ x ∈ cs, x.one = true) ∧ ∀ j, ¬ g.RO b j
  | .tok n E sz => ∃ cap b, g.τ id = some (n, cap, b) ∧ n ≤ cap ∧ cap ≤ maxLen ∧ (0 < cap → ∃ carr, w.heap[b]? = some (.cells carr E (0, 0)) ∧ carr.size = cap * sz ∧ ∀ j, n * sz ≤ j → ¬ g.RO b j)
  | .map kk es del => ∃ b entries clock, g.ι id = some b ∧ w.heap[b]? = some (.map entries clock) ∧ entries.size = es.length ∧
      (∀ (i : Nat) (k : Value) (x : AV) (e : MapEntry), es[i]? = some (k, x) → entries[i]? = some e → e.key = k ∧ kk.isKey k ∧ VR g w x e.val ∧ e.born < clock ∧ (del = false → g.β id k = some e.born)) ∧
      (∀ (i j : Nat) (e e' : MapEntry), entries[i]? = some e → entries[j]? = some e' → e.born = e'.born → i = j) ∧
      (del = false → ∀ k n, g.β id k = some n → ∃ (i : Nat) (e : MapEntry), entries[i]? = some e ∧ e.key = k) ∧ ∀ j, ¬ g.RO b j
def Owns (g : Gh) (id : Nat) (o : AObj) (b : Nat) : Prop :=
  match o with
  | .tok .. => ∃ fr cap, g.τ id = some (fr, cap, b) ∧ 0 < cap
  | _ => g.ι id = some b
structure WR (g : Gh) (H : AHeap) (w : World) : Prop where
  obj : ∀ id o, H.get id = some o → ORel g w id o
  inj : ∀ id id' o o' b, H.get id = some o → H.get id' = some o' → Owns g id o b → Owns g id' o' b → id = id'
  dom : ∀ id, H.next ≤ id → g.ι id = none ∧ g.τ id = none ∧ ∀ k, g.β id k = none
  bd : ∀ id o b, H.get id = some o → Owns g id o b → b < w.heap.size
  ro : ∀ b j, g.RO b j → b < w.heap.size
def Own (g : Gh) (H : AHeap) (b : Nat) : Prop := ∃ id o, H.get id = some o ∧ Owns g id o b
/-- from one state to a later one -/
structure Stp (g : Gh) (H : AHeap) (w : World) (g' : Gh) (H' : AHeap) (w' : World) : Prop where
  le : g.le g' w w'
  next : H.next ≤ H'.next
  os : w'.os = w.os
  tape : w'.tape = w.tape
  output : w'.output = w.output
  size : w.heap.size ≤ w'.heap.size
  frame : ∀ b, b < w.heap.size → ¬ Own g H b → w'.heap[b]? = w.heap[b]?
  new : ∀ b, b < w.heap.size → Own g' H' b → Own g H b
  ro : ∀ b j, b < w.heap.size → g'.RO b j → g.RO b j ∨ Own g H b
section
variable {g g' g'' : Gh} {H H' H'' : AHeap} {w w' w'' : World}
theorem Stp.refl (g : Gh) (H : AHeap) (w : World) : Stp g H w g H w := ⟨.refl _ _, Nat.le_refl _, rfl, rfl, rfl, Nat.le_refl _, fun _ _ _ => rfl, fun _ _ h => h, fun _ _ _ h => .inl h⟩
theorem Stp.trans (h : Stp g H w g' H' w') (k : Stp g' H' w' g'' H'' w'') : Stp g H w g'' H'' w'' :=
  ⟨h.le.trans k.le, Nat.le_trans h.next k.next, k.os.trans h.os, k.tape.trans h.tape, k.output.trans h.output, Nat.le_trans h.size k.size,
   fun b hb hn => (k.frame b (Nat.lt_of_lt_of_le hb h.size) (fun ho => hn (h.new b hb ho))).trans (h.frame b hb hn),
   fun b hb ho => h.new b hb (k.new b (Nat.lt_of_lt_of_le hb h.size) ho), fun b j hb hr => by
    rcases k.ro b j (Nat.lt_of_lt_of_le hb h.size) hr with hr | ho
    · exact h.ro b j hb hr
    · exact .inr (h.new b hb ho)⟩
end
end Go.Proofs.Ytgnpihhakogeeaa
