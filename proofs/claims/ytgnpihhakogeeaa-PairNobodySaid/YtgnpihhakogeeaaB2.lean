/- The abstract machine: how its states change. -/
import Derived.Test.YtgnpihhakogeeaaB1
namespace Go.Proofs.Ytgnpihhakogeeaa
set_option linter.unusedSimpArgs false
set_option linter.unusedVariables false
open Go.RowKit

section
variable {g g' : Gh} {H H' : AHeap} {w w' : World}
theorem Owns.le {id : Nat} {o : AObj} {b : Nat} (hτ : g'.τ id = g.τ id) (hι : g'.ι id = g.ι id) : Owns g' id o b ↔ Owns g id o b := by
  cases o <;> simp [Owns, hτ, hι]
theorem ORel.mono {id : Nat} {o : AObj} (h : ORel g w id o) (k : g.le g' w w') (hb : ∀ b, Owns g id o b → w'.heap[b]? = w.heap[b]?) (hro : ∀ b j, Owns g id o b → g'.RO b j → g.RO b j)
    (hτ : g'.τ id = g.τ id) (hι : g'.ι id = g.ι id) (hβ : ∀ x, g'.β id x = g.β id x) : ORel g' w' id o := by
  cases o with
  | cells cs E =>
    obtain ⟨b, carr, h1, h2, h3, h4, h5⟩ := h
    exact ⟨b, carr, hι.trans h1, (hb b h1).trans h2, h3.mono k, h4, fun j hj => h5 j (hro b j h1 hj)⟩
  | tok n E sz =>
    obtain ⟨cap, b, h1, h2, h3, h4⟩ := h
    refine ⟨cap, b, hτ.trans h1, h2, h3, fun hc => ?_⟩
    obtain ⟨carr, h5, h6, h7⟩ := h4 hc
    exact ⟨carr, (hb b ⟨_, _, h1, hc⟩).trans h5, h6, fun j hj hr => h7 j hj (hro b j ⟨_, _, h1, hc⟩ hr)⟩
  | map kk es del =>
    obtain ⟨b, en, cl, h1, h2, h3, h4, h5, h6, h7⟩ := h
    refine ⟨b, en, cl, hι.trans h1, (hb b h1).trans h2, h3, fun i x y e hx he => ?_, h5, fun hd x n hn => h6 hd x n (by rw [← hβ]; exact hn), fun j hj => h7 j (hro b j h1 hj)⟩
    obtain ⟨h8, h9, h10, h11, h12⟩ := h4 i x y e hx he
    exact ⟨h8, h9, h10.mono k, h11, fun hd => (hβ x).trans (h12 hd)⟩
theorem cell?_block {b : Nat} (h : w'.heap[b]? = w.heap[b]?) (j : Nat) : w'.cell? ⟨b, j, none⟩ = w.cell? ⟨b, j, none⟩ := World.cell?_of_block (a := ⟨b, j, none⟩) h
/-- the world has changed, but no block -/
theorem same_heap (hW : WR g H w) (hh : w'.heap = w.heap) (h1 : w'.os = w.os) (h2 : w'.tape = w.tape) (h3 : w'.output = w.output) : WR g H w' ∧ Stp g H w g H w' := by
  have hc : ∀ a, w'.cell? a = w.cell? a := fun a => by unfold World.cell?; rw [hh]
  have hle : g.le g w w' := ⟨fun _ _ h => h, fun _ _ _ _ h => ⟨_, _, _, h, .inr ⟨rfl, rfl, rfl⟩⟩, fun _ _ _ h => h, fun _ _ h => h, fun _ _ _ => hc _⟩
  refine ⟨⟨fun id o h => (hW.obj id o h).mono hle (fun b _ => by rw [hh]) (fun _ _ _ h => h) rfl rfl (fun _ => rfl), hW.inj, hW.dom, fun id o b h1 h2 => by rw [hh]; exact hW.bd id o b h1 h2, fun b j h => by rw [hh]; exact hW.ro b j h⟩,
    ⟨hle, Nat.le_refl _, h1, h2, h3, by rw [hh]; exact Nat.le_refl _, fun b _ _ => by rw [hh], fun _ _ h => h, fun _ _ _ h => .inl h⟩⟩
theorem WR.drew (hW : WR g H w) : WR g H w.drew ∧ Stp g H w g H w.drew := same_heap hW rfl rfl rfl rfl
/-- a new block of cells that are not written any more -/
def Gh.tree (g : Gh) (b : Nat) : Gh := { g with RO := fun b' j => g.RO b' j ∨ b' = b }
theorem le_tree (hW : WR g H w) (o : Obj) : g.le (g.tree w.heap.size) w (w.alloc o) :=
  ⟨fun _ _ h => h, fun _ _ _ _ h => ⟨_, _, _, h, .inr ⟨rfl, rfl, rfl⟩⟩, fun _ _ _ h => h, fun _ _ h => .inl h, fun b j h => cell?_block (heap_alloc_old w o (hW.ro b j h)) j⟩
theorem new_tree (hW : WR g H w) (o : Obj) : WR (g.tree w.heap.size) H (w.alloc o) ∧ Stp g H w (g.tree w.heap.size) H (w.alloc o) := by
  have hle := le_tree hW o
  refine ⟨⟨fun id ob h => (hW.obj id ob h).mono hle (fun b hb => heap_alloc_old w o (hW.bd id ob b h hb)) (fun b j hb hj => ?_) rfl rfl (fun _ => rfl), hW.inj, hW.dom, fun id ob b h1 h2 => ?_, fun b j h => ?_⟩,
    ⟨hle, Nat.le_refl _, rfl, rfl, rfl, by simp, fun b hb _ => heap_alloc_old w o hb, fun _ _ h => h, fun b j hb h => by
      rcases h with h | rfl
      · exact .inl h
      · omega⟩⟩
  · rcases hj with hj | rfl
    · exact hj
    · exact absurd (hW.bd id ob _ h hb) (by omega)
  · have := hW.bd id ob b h1 h2; simp; omega
  · rcases h with h | rfl
    · have := hW.ro b j h; simp; omega
    · simp
/-- a new object -/
def Gh.obj (g : Gh) (id b : Nat) : Gh := { g with ι := fun i => if i = id then some b else g.ι i }
theorem le_obj (hW : WR g H w) (o : Obj) : g.le (g.obj H.next w.heap.size) w (w.alloc o) := by
  refine ⟨fun id b h => ?_, fun _ _ _ _ h => ⟨_, _, _, h, .inr ⟨rfl, rfl, rfl⟩⟩, fun _ _ _ h => h, fun _ _ h => h, fun b j h => cell?_block (heap_alloc_old w o (hW.ro b j h)) j⟩
  have hne : id ≠ H.next := by
    rintro rfl
    rw [(hW.dom _ (Nat.le_refl _)).1] at h; cases h
  simp [Gh.obj, hne, h]
theorem new_obj (hW : WR g H w) (o : Obj) (ob : AObj) (hk : ∀ n E sz, ob ≠ .tok n E sz) (ho : ORel (g.obj H.next w.heap.size) (w.alloc o) H.next ob) : WR (g.obj H.next w.heap.size) (H.alloc ob) (w.alloc o) ∧ Stp g H w (g.obj H.next w.heap.size) (H.alloc ob) (w.alloc o) := by
  have hle := le_obj hW o
  have hdom := hW.dom H.next (Nat.le_refl _)
  have hown : ∀ id o' b, id < H.next → (Owns (g.obj H.next w.heap.size) id o' b ↔ Owns g id o' b) := fun id o' b hl => Owns.le rfl (by simp [Gh.obj]; omega)
  have hnew : ∀ b, Owns (g.obj H.next w.heap.size) H.next ob b → b = w.heap.size := by
    intro b hb
    cases ob with
    | tok n E sz => exact absurd rfl (hk n E sz)
    | cells cs E => simp [Owns, Gh.obj] at hb; omega
    | map kk es d => simp [Owns, Gh.obj] at hb; omega
  have hget : ∀ id o', (H.alloc ob).get id = some o' → (id = H.next ∧ o' = ob) ∨ (id < H.next ∧ H.get id = some o') := by
    intro id o' h
    by_cases e : id = H.next
    · subst e; rw [AHeap.get_alloc_self] at h; injection h with h; exact .inl ⟨rfl, h.symm⟩
    · rw [AHeap.get_alloc_ne e] at h; exact .inr ⟨AHeap.lt h, h⟩
  refine ⟨⟨fun id o' h => ?_, fun id id' o1 o2 b h1 h2 h3 h4 => ?_, fun id hid => ?_, fun id o' b h1 h2 => ?_, fun b j h => ?_⟩, ⟨hle, Nat.le_succ _, rfl, rfl, rfl, by simp, fun b hb _ => heap_alloc_old w o hb, fun b hb ⟨id, o', h1, h2⟩ => ?_, fun _ _ _ h => .inl h⟩⟩
  · rcases hget id o' h with ⟨rfl, rfl⟩ | ⟨hl, h⟩
    · exact ho
    · exact (hW.obj id o' h).mono hle (fun b hb => heap_alloc_old w o (hW.bd id o' b h hb)) (fun _ _ _ h => h) rfl (by simp [Gh.obj]; omega) (fun _ => rfl)
  · rcases hget id o1 h1 with ⟨e1, e2⟩ | ⟨hl, k1⟩
    · rcases hget id' o2 h2 with ⟨e3, _⟩ | ⟨hl2, k2⟩
      · omega
      · have e := hnew b (by have h := h3; rw [e1, e2] at h; exact h)
        have := hW.bd id' o2 b k2 ((hown id' o2 b hl2).1 h4)
        omega
    · rcases hget id' o2 h2 with ⟨e3, e4⟩ | ⟨hl2, k2⟩
      · have e := hnew b (by have h := h4; rw [e3, e4] at h; exact h)
        have := hW.bd id o1 b k1 ((hown id o1 b hl).1 h3)
        omega
      · exact hW.inj id id' o1 o2 b k1 k2 ((hown id o1 b hl).1 h3) ((hown id' o2 b hl2).1 h4)
  · have h := hW.dom id (by simp at hid; omega)
    refine ⟨?_, h.2⟩
    simp only [AHeap.next_alloc] at hid
    simp [Gh.obj, h.1]; omega
  · rcases hget id o' h1 with ⟨rfl, rfl⟩ | ⟨hl, h1⟩
    · rw [hnew b h2]; simp
    · have := hW.bd id o' b h1 ((hown id o' b hl).1 h2); simp; omega
  · have := hW.ro b j h; simp; omega
  · rcases hget id o' h1 with ⟨rfl, rfl⟩ | ⟨hl, h1⟩
    · rw [hnew b h2] at hb; omega
    · exact ⟨id, o', h1, (hown id o' b hl).1 h2⟩
theorem new_cells (hW : WR g H w) {cs : List AV} {carr : Array Value} (E : TypeId) (h : VRs g w cs carr.toList) (ho : ∀ x ∈ cs, x.one = true) :
    WR (g.obj H.next w.heap.size) (H.alloc (.cells cs E)) (w.alloc (.cells carr E)) ∧ Stp g H w (g.obj H.next w.heap.size) (H.alloc (.cells cs E)) (w.alloc (.cells carr E)) ∧
      VR (g.obj H.next w.heap.size) (w.alloc (.cells carr E)) (.ptr H.next 0) (.pointer (some ⟨w.heap.size, 0, none⟩)) := by
  have hid : (g.obj H.next w.heap.size).ι H.next = some w.heap.size := by simp [Gh.obj]
  have := new_obj hW (.cells carr E) (.cells cs E) (by intros; simp) ⟨_, carr, hid, heap_alloc_new w _, h.mono (le_obj hW _), ho, fun j hj => absurd (hW.ro _ _ hj) (by omega)⟩
  exact ⟨this.1, this.2, .ptr _ _ _ hid⟩
/-- an object, written anew; with other stamps -/
theorem set_objβ (hW : WR g H w) {id b : Nat} {o o' : AObj} (β' : Nat → Value → Option Nat) (hβ1 : ∀ i k, i ≠ id → β' i k = g.β i k) (hβ2 : ∀ k n, g.β id k = some n → β' id k = some n) (hget : H.get id = some o) (hb : Owns g id o b) (hk : ∀ b', Owns g id o' b' ↔ Owns g id o b') (hother : ∀ b', b' ≠ b → w'.heap[b']? = w.heap[b']?) (hsz : w'.heap.size = w.heap.size) (h1 : w'.os = w.os) (h2 : w'.tape = w.tape) (h3 : w'.output = w.output)
    (hcell : ∀ j, g.RO b j → w'.cell? ⟨b, j, none⟩ = w.cell? ⟨b, j, none⟩) (ho : g.le { g with β := β' } w w' → ORel { g with β := β' } w' id o') : WR { g with β := β' } (H.set id o') w' ∧ Stp g H w { g with β := β' } (H.set id o') w' := by
  have hlt := AHeap.lt hget
  have hle : g.le { g with β := β' } w w' := by
    refine ⟨fun _ _ h => h, fun _ _ _ _ h => ⟨_, _, _, h, .inr ⟨rfl, rfl, rfl⟩⟩, fun i k n h => ?_, fun _ _ h => h, fun b' j h => ?_⟩
    · by_cases e : i = id
      · subst e; exact hβ2 k n h
      · exact (hβ1 i k e).trans h
    · by_cases e : b' = b
      · subst e; exact hcell j h
      · exact cell?_block (hother b' e) j
  have hg2 : ∀ i x, (H.set id o').get i = some x → (i = id ∧ x = o') ∨ (i ≠ id ∧ H.get i = some x) := by
    intro i x h
    by_cases e : i = id
    · subst e; rw [AHeap.get_set_self hlt] at h; injection h with h; exact .inl ⟨rfl, h.symm⟩
    · rw [AHeap.get_set_ne e] at h; exact .inr ⟨e, h⟩
  have hownS : ∀ i x b', (H.set id o').get i = some x → Owns g i x b' → ∃ y, H.get i = some y ∧ Owns g i y b' := by
    intro i x b' h1 h2
    rcases hg2 i x h1 with ⟨rfl, rfl⟩ | ⟨_, h⟩
    · exact ⟨o, hget, (hk b').1 h2⟩
    · exact ⟨x, h, h2⟩
  refine ⟨⟨fun i x h => ?_, fun i i' x x' b' k1 k2 k3 k4 => ?_, fun i hi => ⟨(hW.dom i hi).1, (hW.dom i hi).2.1, fun k => (hβ1 i k (by simp only [AHeap.next_set] at hi; omega)).trans ((hW.dom i hi).2.2 k)⟩, fun i x b' k1 k2 => ?_, fun b' j h => by rw [hsz]; exact hW.ro b' j h⟩, ⟨hle, Nat.le_refl _, h1, h2, h3, by omega, fun b' _ hn => ?_, fun b' _ ⟨i, x, k1, k2⟩ => ?_, fun _ _ _ h => .inl h⟩⟩
  · rcases hg2 i x h with ⟨rfl, rfl⟩ | ⟨hne, h⟩
    · exact ho hle
    · refine (hW.obj i x h).mono hle (fun b' hb' => hother b' ?_) (fun _ _ _ h => h) rfl rfl (fun k => hβ1 i k hne)
      rintro rfl
      exact hne (hW.inj i id x o _ h hget hb' hb)
  · obtain ⟨y, hy1, hy2⟩ := hownS i x b' k1 k3
    obtain ⟨y', hy3, hy4⟩ := hownS i' x' b' k2 k4
    exact hW.inj i i' y y' b' hy1 hy3 hy2 hy4
  · obtain ⟨y, hy1, hy2⟩ := hownS i x b' k1 k2
    rw [hsz]; exact hW.bd i y b' hy1 hy2
  · refine hother b' ?_
    rintro rfl
    exact hn ⟨id, o, hget, hb⟩
  · obtain ⟨y, hy1, hy2⟩ := hownS i x b' k1 k2
    exact ⟨i, y, hy1, hy2⟩
/-- a new block that nobody knows -/
theorem new_junk (hW : WR g H w) (o : Obj) : WR g H (w.alloc o) ∧ Stp g H w g H (w.alloc o) := by
  have hle : g.le g w (w.alloc o) := ⟨fun _ _ h => h, fun _ _ _ _ h => ⟨_, _, _, h, .inr ⟨rfl, rfl, rfl⟩⟩, fun _ _ _ h => h, fun _ _ h => h, fun b j h => cell?_block (heap_alloc_old w o (hW.ro b j h)) j⟩
  refine ⟨⟨fun id ob h => (hW.obj id ob h).mono hle (fun b hb => heap_alloc_old w o (hW.bd id ob b h hb)) (fun _ _ _ h => h) rfl rfl (fun _ => rfl), hW.inj, hW.dom, fun id ob b h1 h2 => ?_, fun b j h => ?_⟩,
    ⟨hle, Nat.le_refl _, rfl, rfl, rfl, by simp, fun b hb _ => heap_alloc_old w o hb, fun _ _ h => h, fun _ _ _ h => .inl h⟩⟩
  · have := hW.bd id ob b h1 h2; simp; omega
  · have := hW.ro b j h; simp; omega
/-- a block that nobody knew becomes an object -/
theorem adopt (hW : WR g H w) {b E : Nat} {cs : List AV} {carr : Array Value} (hb : w.heap[b]? = some (.cells carr E (0, 0))) (hro : ∀ j, ¬ g.RO b j) (hno : ¬ Own g H b) (hV : VRs g w cs carr.toList) (hone : ∀ x ∈ cs, x.one = true) :
    WR (g.obj H.next b) (H.alloc (.cells cs E)) w ∧ g.le (g.obj H.next b) w w ∧ (∀ b', Own (g.obj H.next b) (H.alloc (.cells cs E)) b' → b' = b ∨ Own g H b') := by
  have hdom := hW.dom H.next (Nat.le_refl _)
  have hlt : b < w.heap.size := (Array.getElem?_eq_some_iff.1 hb).1
  have hle : g.le (g.obj H.next b) w w := by
    refine ⟨fun id b' h => ?_, fun _ _ _ _ h => ⟨_, _, _, h, .inr ⟨rfl, rfl, rfl⟩⟩, fun _ _ _ h => h, fun _ _ h => h, fun _ _ _ => rfl⟩
    have hne : id ≠ H.next := by
      rintro rfl
      rw [hdom.1] at h; cases h
    simp [Gh.obj, hne, h]
  have hown : ∀ id o' b', id < H.next → (Owns (g.obj H.next b) id o' b' ↔ Owns g id o' b') := fun id o' b' hl => Owns.le rfl (by simp [Gh.obj]; omega)
  have hnew : ∀ b', Owns (g.obj H.next b) H.next (.cells cs E) b' → b' = b := by
    intro b' h
    simp [Owns, Gh.obj] at h; omega
  have hget : ∀ id o', (H.alloc (.cells cs E)).get id = some o' → (id = H.next ∧ o' = .cells cs E) ∨ (id < H.next ∧ H.get id = some o') := by
    intro id o' h
    by_cases e : id = H.next
    · subst e; rw [AHeap.get_alloc_self] at h; injection h with h; exact .inl ⟨rfl, h.symm⟩
    · rw [AHeap.get_alloc_ne e] at h; exact .inr ⟨AHeap.lt h, h⟩
  refine ⟨⟨fun id o' h => ?_, fun id id' o1 o2 b' h1 h2 h3 h4 => ?_, fun id hid => ?_, fun id o' b' h1 h2 => ?_, hW.ro⟩, hle, fun b' ⟨id, o', h1, h2⟩ => ?_⟩
  · rcases hget id o' h with ⟨rfl, rfl⟩ | ⟨hl, h⟩
    · exact ⟨b, carr, by simp [Gh.obj], hb, hV.mono hle, hone, hro⟩
    · exact (hW.obj id o' h).mono hle (fun _ _ => rfl) (fun _ _ _ h => h) rfl (by simp [Gh.obj]; omega) (fun _ => rfl)
  · rcases hget id o1 h1 with ⟨e1, e2⟩ | ⟨hl, k1⟩
    · rcases hget id' o2 h2 with ⟨e3, _⟩ | ⟨hl2, k2⟩
      · omega
      · have e := hnew b' (by have h := h3; rw [e1, e2] at h; exact h)
        subst e
        exact absurd ⟨id', o2, k2, (hown id' o2 b' hl2).1 h4⟩ hno
    · rcases hget id' o2 h2 with ⟨e3, e4⟩ | ⟨hl2, k2⟩
      · have e := hnew b' (by have h := h4; rw [e3, e4] at h; exact h)
        subst e
        exact absurd ⟨id, o1, k1, (hown id o1 b' hl).1 h3⟩ hno
      · exact hW.inj id id' o1 o2 b' k1 k2 ((hown id o1 b' hl).1 h3) ((hown id' o2 b' hl2).1 h4)
  · have h := hW.dom id (by simp at hid; omega)
    refine ⟨?_, h.2⟩
    simp only [AHeap.next_alloc] at hid
    simp [Gh.obj, h.1]; omega
  · rcases hget id o' h1 with ⟨rfl, rfl⟩ | ⟨hl, h1⟩
    · rw [hnew b' h2]; exact hlt
    · exact hW.bd id o' b' h1 ((hown id o' b' hl).1 h2)
  · rcases hget id o' h1 with ⟨rfl, rfl⟩ | ⟨hl, h1⟩
    · exact .inl (hnew b' h2)
    · exact .inr ⟨id, o', h1, (hown id o' b' hl).1 h2⟩
theorem set_obj (hW : WR g H w) {id b : Nat} {o o' : AObj} (hget : H.get id = some o) (hb : Owns g id o b) (hk : ∀ b', Owns g id o' b' ↔ Owns g id o b') (hother : ∀ b', b' ≠ b → w'.heap[b']? = w.heap[b']?) (hsz : w'.heap.size = w.heap.size) (h1 : w'.os = w.os) (h2 : w'.tape = w.tape) (h3 : w'.output = w.output)
    (hcell : ∀ j, g.RO b j → w'.cell? ⟨b, j, none⟩ = w.cell? ⟨b, j, none⟩) (ho : g.le g w w' → ORel g w' id o') : WR g (H.set id o') w' ∧ Stp g H w g (H.set id o') w' :=
  set_objβ hW g.β (fun _ _ _ => rfl) (fun _ _ h => h) hget hb hk hother hsz h1 h2 h3 hcell ho
end
end Go.Proofs.Ytgnpihhakogeeaa
