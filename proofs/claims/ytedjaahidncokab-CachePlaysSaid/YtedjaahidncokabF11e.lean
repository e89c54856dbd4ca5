/- law11: does, Through. -/
import Derived.Test.YtedjaahidncokabF11d
namespace Go.Proofs.Ytedjaahidncokab
open Go.RowKit

theorem call_does1 (x a b : Value) (W : World) : (callFunc 22 #[x, a, b]).run Try.prog W = .ok (.enter 22 #[x, a, b]) W := by kernel_rfl
def TPost (w : World) (base g bm : Nat) (ob : Option Nat) (size gn : Nat) (items : Items) (hits misses : Int) (want : ByteArray) (er asked : Int) (e : Ending) (w' : World) : Prop :=
  ∃ ob', e = .returned (.tuple #[.string want, .int .i64 er]) ∧ CacheAt w' base g bm ob' size items hits misses ∧ Kp (fun b => foot g bm ob b ∨ b = gn) w w' ∧ (ob' = ob ∨ ∃ b, ob' = some b ∧ w.heap.size ≤ b) ∧ Blk w' gn 3 [.int .i64 asked]
theorem not_foot {g bm gn n : Nat} {ob ob' : Option Nat} (h : ¬ foot g bm ob gn) (hn : gn < n) (ho : ob' = ob ∨ ∃ b, ob' = some b ∧ n ≤ b) : ¬ foot g bm ob' gn := by
  rcases ho with rfl | ⟨b', rfl, hb⟩
  · exact h
  · rintro (h' | h' | h')
    · exact h (.inl h')
    · exact h (.inr (.inl h'))
    · cases h'; omega
/-- what the three ways of Through answer -/
def TWay (size : Nat) (items : Items) (hits misses i n : Int) (s : ByteArray) (items' : Items) (h' m' : Int) (want : ByteArray) (er asked : Int) : Prop :=
  (∃ t, look items i = some t ∧ items' = putIn size items i t ∧ h' = hits + 1 ∧ m' = misses ∧ want = t ∧ er = 0 ∧ asked = 0) ∨
  (look items i = none ∧ n = 0 ∧ items' = putIn size items i s ∧ h' = hits ∧ m' = misses + 1 ∧ want = s ∧ er = 0 ∧ asked = 1) ∨
  (look items i = none ∧ n ≠ 0 ∧ items' = items ∧ h' = hits ∧ m' = misses + 1 ∧ want = ByteArray.empty ∧ er = n ∧ asked = 1)
theorem thr_any (base g bm size : Nat) (ob : Option Nat) (items : Items) (hits misses kind i n : Int) (s : ByteArray) (gn ga : Nat) (w : World) (h : CacheAt w base g bm ob size items hits misses) (h1 : Blk w gn 3 [.int .i64 0]) (h2 : Blk w ga 40 (actCells kind i n s))
    (hgn : ¬ foot g bm ob gn) (hga : ¬ foot g bm ob ga) (hsm : Small hits misses) (items' : Items) (h' m' : Int) (want : ByteArray) (er asked : Int) (hw : TWay size items hits misses i n s items' h' m' want er asked) :
    Calls Try.prog 10 #[.pointer (some ⟨g, 0, none⟩), .int .i64 i, .func (.func 22) #[] #[.pointer (some ⟨gn, 0, none⟩), .pointer (some ⟨ga, 0, none⟩)]] w (TPost w base g bm ob size gn items' h' m' want er asked) := by
  obtain ⟨q1, q2, q3, q4⟩ := hsm
  have hl := h1.lt
  have hkeep : ∀ W W' ob1, Kp (foot g bm ob) w W → readWorld gn W W' → CacheAt W base g bm ob1 size items hits (misses + 1) → (ob1 = ob ∨ ∃ b, ob1 = some b ∧ w.heap.size ≤ b) → CacheAt W' base g bm ob1 size items hits (misses + 1) := by
    rintro W W' ob1 hk ⟨q, rfl⟩ hc ho
    exact hc.kp (S := fun b => b = gn) (((Kp.refl (fun b => b = gn) W).setCell (p := ⟨gn, 0, none⟩) (.inl rfl) _).drewN q) (fun b hb => by subst hb; exact not_foot hgn hl ho)
  refine (through2 base g bm size ob items hits misses i 22 _ _ s n (readWorld gn) w h (fun W ob1 hc hk => dread_any gn ga kind i n s W (h1.kp hk hgn) (h2.kp hk hga)) hkeep (fun x W => call_does1 x _ _ W) ⟨q1, q2⟩ ⟨q3, q4⟩).mono ?_
  rintro e w' (⟨t, ht, ob', rfl, hc', hk', ho'⟩ | ⟨ht, W1, W2, ⟨ob1, _, hc1, hk1, ho1⟩, ⟨q, rfl⟩, hrest⟩)
  · rcases hw with ⟨t', ht', rfl, rfl, rfl, rfl, rfl, rfl⟩ | ⟨ht', _⟩ | ⟨ht', _⟩
    · rw [ht] at ht'; cases ht'
      refine ⟨ob', rfl, ?_, hk'.weak (fun b hb => .inl hb), ho', h1.kp hk' hgn⟩
      rw [putIn_get (by have := without_lt ht; have := h.len; simp; omega)]
      exact hc'
    · rw [ht] at ht'; cases ht'
    · rw [ht] at ht'; cases ht'
  · have hb1 : Blk W1 gn 3 [.int .i64 0] := h1.kp hk1 hgn
    have hb2 : Blk ((W1.setCell ⟨gn, 0, none⟩ (.int .i64 1)).drewN q) gn 3 [.int .i64 1] := hb1.set 0 _
    have kg : Kp (fun b => b = gn) W1 ((W1.setCell ⟨gn, 0, none⟩ (.int .i64 1)).drewN q) := ((Kp.refl (fun b => b = gn) W1).setCell (p := ⟨gn, 0, none⟩) (.inl rfl) _).drewN q
    have k2 : Kp (fun b => foot g bm ob b ∨ b = gn) w ((W1.setCell ⟨gn, 0, none⟩ (.int .i64 1)).drewN q) := (hk1.weak (fun b hb => .inl hb)).trans kg (fun b _ hb => .inr hb)
    have hc2 := hc1.kp kg (fun b hb => by subst hb; exact not_foot hgn hl ho1)
    generalize ((W1.setCell ⟨gn, 0, none⟩ (.int .i64 1)).drewN q) = W2 at *
    rcases hw with ⟨t', ht', _⟩ | ⟨_, hn, rfl, rfl, rfl, rfl, rfl, rfl⟩ | ⟨_, hn, rfl, rfl, rfl, rfl, rfl, rfl⟩
    · rw [ht] at ht'; cases ht'
    · rcases hrest with ⟨hn', _⟩ | ⟨_, ob2, ho2, ob3, rfl, hc3, hk3, ho3⟩
      · exact absurd hn hn'
      · have hn2 : ¬ foot g bm ob2 gn := not_foot hgn hl ho2
        have hs2 := k2.size
        refine ⟨ob3, rfl, hc3, k2.trans hk3 ?_, ?_, hb2.kp hk3 hn2⟩
        · intro b hb hf
          rcases ho2 with rfl | ⟨b', rfl, hb'⟩
          · exact .inl hf
          · rcases hf with hf | hf | hf
            · exact .inl (.inl hf)
            · exact .inl (.inr (.inl hf))
            · cases hf; omega
        · rcases ho3 with rfl | ⟨b, rfl, hb⟩
          · exact ho2
          · exact .inr ⟨b, rfl, by omega⟩
    · rcases hrest with ⟨_, rfl, rfl⟩ | ⟨hn', _⟩
      · exact ⟨ob1, rfl, hc2, k2, ho1, hb2⟩
      · exact absurd hn' hn
end Go.Proofs.Ytedjaahidncokab
