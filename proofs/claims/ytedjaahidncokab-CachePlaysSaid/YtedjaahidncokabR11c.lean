/- Layer 11: a cache that no call made; Through. -/
import Derived.Test.YtedjaahidncokabR11b
namespace Go.Proofs.Ytedjaahidncokab
open Go.RowKit

section
set_option maxHeartbeats 400000
theorem nget (p : Option Addr) (i : Int) (w : World) (h : NoCache w p) :
    Calls Try.prog 18 #[.pointer p, .int .i64 i] w fun e w' => e = .returned (.tuple #[.string ByteArray.empty, .bool false]) ∧ w = w' := by
  have H := Lib.hid h
  clear h
  go_enter Try.func18, Try.ntmps18
  go_wp2_with (go_at_call 23; refine (cthere_no _ _ H.out).mono ?_; rintro e w1 ⟨rfl, rfl⟩)
  go_ret2
  exact ⟨rfl, rfl⟩
theorem nput (p : Option Addr) (i : Int) (s : ByteArray) (w : World) (h : NoCache w p) :
    Calls Try.prog 16 #[.pointer p, .int .i64 i, .string s] w fun e w' => e = .returned (.tuple #[]) ∧ w = w' := by
  have H := Lib.hid h
  clear h
  go_enter Try.func16, Try.ntmps16
  go_wp2_with (go_at_call 23; refine (cthere_no _ _ H.out).mono ?_; rintro e w1 ⟨rfl, rfl⟩)
  first | (go_end0; exact ⟨rfl, rfl⟩) | (refine bodyPost_ret (v := .tuple #[]) (by simp [results, Try.results16]) rfl ?_; exact ⟨rfl, rfl⟩)
theorem nclear (p : Option Addr) (w : World) (h : NoCache w p) :
    Calls Try.prog 17 #[.pointer p] w fun e w' => e = .returned (.tuple #[]) ∧ w = w' := by
  have H := Lib.hid h
  clear h
  go_enter Try.func17, Try.ntmps17
  go_wp2_with (go_at_call 23; refine (cthere_no _ _ H.out).mono ?_; rintro e w1 ⟨rfl, rfl⟩)
  go_end0
  exact ⟨rfl, rfl⟩
theorem nplaces (p : Option Addr) (w : World) (h : NoCache w p) :
    Calls Try.prog 15 #[.pointer p] w fun e w' => e = .returned (.slice none 0 0) ∧ w = w' := by
  have H := Lib.hid h
  clear h
  go_enter Try.func15, Try.ntmps15
  go_wp2_with (go_at_call 23; refine (cthere_no _ _ H.out).mono ?_; rintro e w1 ⟨rfl, rfl⟩)
  go_ret
  exact ⟨rfl, rfl⟩
theorem ncounts (p : Option Addr) (w : World) (h : NoCache w p) :
    Calls Try.prog 13 #[.pointer p] w fun e w' => e = .returned (.tuple #[.int .i64 0, .int .i64 0]) ∧ w = w' := by
  have H := Lib.hid h
  clear h
  go_enter Try.func13, Try.ntmps13
  go_wp2_with (go_at_call 23; refine (cthere_no _ _ H.out).mono ?_; rintro e w1 ⟨rfl, rfl⟩)
  go_ret2
  exact ⟨rfl, rfl⟩
end

/-- what a function that reads is good for, called at W: it tells s, or the error er; what it does to the world -/
def ReadsAt (f : FuncId) (args : Array Value) (s : ByteArray) (er : Int) (R : World → World → Prop) (W : World) : Prop :=
  Calls Try.prog f args W fun e W' => e = .returned (.tuple #[.string s, .int .i64 er]) ∧ R W W'
def errText (s : ByteArray) (er : Int) : ByteArray := if er = 0 then s else ByteArray.empty

/-- what Through leaves: the text was there; or it was read, at W1, which led to W2, and put there -/
def ThroughPost (w : World) (base g bm : Nat) (ob : Option Nat) (size : Nat) (items : Items) (hits misses i : Int) (s : ByteArray) (er : Int) (R : World → World → Prop) (e : Ending) (w' : World) : Prop :=
  (∃ t, look items i = some t ∧ CPost w base g bm ob size ((i, t) :: without items i) (hits + 1) misses (.tuple #[.string t, .int .i64 0]) e w') ∨
  (look items i = none ∧ ∃ W1 W2, CPost w base g bm ob size items hits (misses + 1) (.tuple #[]) (.returned (.tuple #[])) W1 ∧ R W1 W2 ∧
    ((er ≠ 0 ∧ e = .returned (.tuple #[.string ByteArray.empty, .int .i64 er]) ∧ W2 = w') ∨
     (er = 0 ∧ ∃ ob1, (ob1 = ob ∨ ∃ b, ob1 = some b ∧ w.heap.size ≤ b) ∧ CPost W2 base g bm ob1 size (putIn size items i s) hits (misses + 1) (.tuple #[.string s, .int .i64 0]) e w')))

set_option maxHeartbeats 1000000 in
theorem nthrough0 (p : Option Addr) (i : Int) (f : FuncId) (s : ByteArray) (er : Int) (R : World → World → Prop) (w : World) (h : NoCache w p) (hr : ReadsAt f #[.int .i64 i] s er R w) (hk : ∀ w', R w w' → NoCache w' p)
    (hf : ∀ (x : Value) (W : World), (callFunc f #[x]).run Try.prog W = .ok (.enter f #[x]) W) :
    Calls Try.prog 10 #[.pointer p, .int .i64 i, .func (.func f) #[] #[]] w fun e w' => e = .returned (.tuple #[.string (errText s er), .int .i64 er]) ∧ R w w' := by
  have H := Lib.hid h
  have HR := Lib.hid hr
  have HK := Lib.hid hk
  clear h hr hk
  by_cases he : er = 0
  · subst he
    have hs : Hid (errText s 0 = s) := rfl
    go_enter Try.func10, Try.ntmps10
    go_wp2_with (go_at_call 18; refine (nget _ _ _ H.out).mono ?_; rintro e w1 ⟨rfl, rfl⟩)
    refine HR.out.mono ?_
    rintro e w2 ⟨rfl, hw2⟩
    have HN2 := Lib.hid (HK.out _ hw2)
    have HW2 := Lib.hid hw2
    clear hw2
    go_wp2_with (go_at_call 16; refine (nput _ _ _ _ HN2.out).mono ?_; rintro e w3 ⟨rfl, rfl⟩)
    go_ret2
    exact ⟨by rw [hs.out]; rfl, HW2.out⟩
  · have hb0 : (er != 0) = true := by simpa using he
    have hs : Hid (errText s er = ByteArray.empty) := by unfold Hid errText; rw [if_neg he]
    clear he
    go_enter Try.func10, Try.ntmps10
    go_wp2_with (go_at_call 18; refine (nget _ _ _ H.out).mono ?_; rintro e w1 ⟨rfl, rfl⟩)
    refine HR.out.mono ?_
    rintro e w2 ⟨rfl, hw2⟩
    have HW2 := Lib.hid hw2
    clear hw2
    go_wp2_with fail
    go_ret2
    exact ⟨by rw [hs.out]; rfl, HW2.out⟩

set_option maxHeartbeats 1000000 in
theorem nthrough1 (p : Option Addr) (i : Int) (f : FuncId) (a0 : Value) (s : ByteArray) (er : Int) (R : World → World → Prop) (w : World) (h : NoCache w p) (hr : ReadsAt f #[.int .i64 i, a0] s er R w) (hk : ∀ w', R w w' → NoCache w' p)
    (hf : ∀ (x : Value) (W : World), (callFunc f #[x, a0]).run Try.prog W = .ok (.enter f #[x, a0]) W) :
    Calls Try.prog 10 #[.pointer p, .int .i64 i, .func (.func f) #[] #[a0]] w fun e w' => e = .returned (.tuple #[.string (errText s er), .int .i64 er]) ∧ R w w' := by
  have H := Lib.hid h
  have HR := Lib.hid hr
  have HK := Lib.hid hk
  clear h hr hk
  by_cases he : er = 0
  · subst he
    have hs : Hid (errText s 0 = s) := rfl
    go_enter Try.func10, Try.ntmps10
    go_wp2_with (go_at_call 18; refine (nget _ _ _ H.out).mono ?_; rintro e w1 ⟨rfl, rfl⟩)
    refine HR.out.mono ?_
    rintro e w2 ⟨rfl, hw2⟩
    have HN2 := Lib.hid (HK.out _ hw2)
    have HW2 := Lib.hid hw2
    clear hw2
    go_wp2_with (go_at_call 16; refine (nput _ _ _ _ HN2.out).mono ?_; rintro e w3 ⟨rfl, rfl⟩)
    go_ret2
    exact ⟨by rw [hs.out]; rfl, HW2.out⟩
  · have hb0 : (er != 0) = true := by simpa using he
    have hs : Hid (errText s er = ByteArray.empty) := by unfold Hid errText; rw [if_neg he]
    clear he
    go_enter Try.func10, Try.ntmps10
    go_wp2_with (go_at_call 18; refine (nget _ _ _ H.out).mono ?_; rintro e w1 ⟨rfl, rfl⟩)
    refine HR.out.mono ?_
    rintro e w2 ⟨rfl, hw2⟩
    have HW2 := Lib.hid hw2
    clear hw2
    go_wp2_with fail
    go_ret2
    exact ⟨by rw [hs.out]; rfl, HW2.out⟩

set_option maxHeartbeats 2000000 in
theorem through1 (base g bm size : Nat) (ob : Option Nat) (items : Items) (hits misses i : Int) (f : FuncId) (a0 : Value) (s : ByteArray) (er : Int) (R : World → World → Prop) (w : World) (h : CacheAt w base g bm ob size items hits misses)
    (hr : ∀ W ob1, CacheAt W base g bm ob1 size items hits (misses + 1) → Kp (foot g bm ob) w W → ReadsAt f #[.int .i64 i, a0] s er R W) (hk : ∀ W W' ob1, Kp (foot g bm ob) w W → R W W' → CacheAt W base g bm ob1 size items hits (misses + 1) → (ob1 = ob ∨ ∃ b, ob1 = some b ∧ w.heap.size ≤ b) → CacheAt W' base g bm ob1 size items hits (misses + 1))
    (hf : ∀ (x : Value) (W : World), (callFunc f #[x, a0]).run Try.prog W = .ok (.enter f #[x, a0]) W) (hh : 0 ≤ hits ∧ hits ≤ 1000000) (hm : 0 ≤ misses ∧ misses ≤ 1000000) :
    Calls Try.prog 10 #[.pointer (some ⟨g, 0, none⟩), .int .i64 i, .func (.func f) #[] #[a0]] w (ThroughPost w base g bm ob size items hits misses i s er R) := by
  rcases hl : look items i with _ | t
  · have hget := Lib.hid (get_miss base g bm size ob items hits misses i w h hl hm.1 hm.2)
    have HR := Lib.hid hr
    have HK := Lib.hid hk
    have HL := Lib.hid hl
    clear h hr hk hl
    by_cases he : er = 0
    · subst he
      go_enter Try.func10, Try.ntmps10
      go_wp2_with (go_at_call 18; refine hget.out.mono ?_; rintro e w1 ⟨ob1, rfl, hc1, hk1, ho1⟩; have HC1 := Lib.hid hc1; have HK1 := Lib.hid hk1; have HO1 := Lib.hid ho1; clear hc1 hk1 ho1)
      refine (HR.out w1 ob1 HC1.out HK1.out).mono ?_
      rintro e w2 ⟨rfl, hw2⟩
      have HC2 := Lib.hid (HK.out _ _ ob1 HK1.out hw2 HC1.out HO1.out)
      have HW2 := Lib.hid hw2
      clear hw2
      go_wp2_with (go_at_call 16; refine (put_any base g bm size ob1 items hits (misses + 1) i s _ HC2.out).mono ?_; rintro e w3 ⟨ob3, rfl, hc3, hk3, ho3⟩; have HC3 := Lib.hid hc3; have HK3 := Lib.hid hk3; have HO3 := Lib.hid ho3; clear hc3 hk3 ho3)
      go_ret2
      exact .inr ⟨HL.out, w1, w2, ⟨ob1, rfl, HC1.out, HK1.out, HO1.out⟩, HW2.out, .inr ⟨rfl, ob1, HO1.out, ob3, rfl, HC3.out, HK3.out, HO3.out⟩⟩
    · have hb0 : (er != 0) = true := by simpa using he
      have HE := Lib.hid he
      clear he
      go_enter Try.func10, Try.ntmps10
      go_wp2_with (go_at_call 18; refine hget.out.mono ?_; rintro e w1 ⟨ob1, rfl, hc1, hk1, ho1⟩; have HC1 := Lib.hid hc1; have HK1 := Lib.hid hk1; have HO1 := Lib.hid ho1; clear hc1 hk1 ho1)
      refine (HR.out w1 ob1 HC1.out HK1.out).mono ?_
      rintro e w2 ⟨rfl, hw2⟩
      have HW2 := Lib.hid hw2
      clear hw2
      go_wp2_with fail
      go_ret2
      exact .inr ⟨HL.out, w1, w2, ⟨ob1, rfl, HC1.out, HK1.out, HO1.out⟩, HW2.out, .inl ⟨HE.out, rfl, rfl⟩⟩
  · have hget := Lib.hid (get_hit base g bm size ob items hits misses i t w h hl hh.1 hh.2)
    have HL := Lib.hid hl
    clear h hr hk hl
    go_enter Try.func10, Try.ntmps10
    go_wp2_with (go_at_call 18; refine hget.out.mono ?_; rintro e w1 ⟨ob1, rfl, hc1, hk1, ho1⟩; have HC1 := Lib.hid hc1; have HK1 := Lib.hid hk1; have HO1 := Lib.hid ho1; clear hc1 hk1 ho1)
    go_ret2
    exact .inl ⟨t, HL.out, ob1, rfl, HC1.out, HK1.out, HO1.out⟩

set_option maxHeartbeats 2000000 in
theorem through2 (base g bm size : Nat) (ob : Option Nat) (items : Items) (hits misses i : Int) (f : FuncId) (a0 a1 : Value) (s : ByteArray) (er : Int) (R : World → World → Prop) (w : World) (h : CacheAt w base g bm ob size items hits misses)
    (hr : ∀ W ob1, CacheAt W base g bm ob1 size items hits (misses + 1) → Kp (foot g bm ob) w W → ReadsAt f #[.int .i64 i, a0, a1] s er R W) (hk : ∀ W W' ob1, Kp (foot g bm ob) w W → R W W' → CacheAt W base g bm ob1 size items hits (misses + 1) → (ob1 = ob ∨ ∃ b, ob1 = some b ∧ w.heap.size ≤ b) → CacheAt W' base g bm ob1 size items hits (misses + 1))
    (hf : ∀ (x : Value) (W : World), (callFunc f #[x, a0, a1]).run Try.prog W = .ok (.enter f #[x, a0, a1]) W) (hh : 0 ≤ hits ∧ hits ≤ 1000000) (hm : 0 ≤ misses ∧ misses ≤ 1000000) :
    Calls Try.prog 10 #[.pointer (some ⟨g, 0, none⟩), .int .i64 i, .func (.func f) #[] #[a0, a1]] w (ThroughPost w base g bm ob size items hits misses i s er R) := by
  rcases hl : look items i with _ | t
  · have hget := Lib.hid (get_miss base g bm size ob items hits misses i w h hl hm.1 hm.2)
    have HR := Lib.hid hr
    have HK := Lib.hid hk
    have HL := Lib.hid hl
    clear h hr hk hl
    by_cases he : er = 0
    · subst he
      go_enter Try.func10, Try.ntmps10
      go_wp2_with (go_at_call 18; refine hget.out.mono ?_; rintro e w1 ⟨ob1, rfl, hc1, hk1, ho1⟩; have HC1 := Lib.hid hc1; have HK1 := Lib.hid hk1; have HO1 := Lib.hid ho1; clear hc1 hk1 ho1)
      refine (HR.out w1 ob1 HC1.out HK1.out).mono ?_
      rintro e w2 ⟨rfl, hw2⟩
      have HC2 := Lib.hid (HK.out _ _ ob1 HK1.out hw2 HC1.out HO1.out)
      have HW2 := Lib.hid hw2
      clear hw2
      go_wp2_with (go_at_call 16; refine (put_any base g bm size ob1 items hits (misses + 1) i s _ HC2.out).mono ?_; rintro e w3 ⟨ob3, rfl, hc3, hk3, ho3⟩; have HC3 := Lib.hid hc3; have HK3 := Lib.hid hk3; have HO3 := Lib.hid ho3; clear hc3 hk3 ho3)
      go_ret2
      exact .inr ⟨HL.out, w1, w2, ⟨ob1, rfl, HC1.out, HK1.out, HO1.out⟩, HW2.out, .inr ⟨rfl, ob1, HO1.out, ob3, rfl, HC3.out, HK3.out, HO3.out⟩⟩
    · have hb0 : (er != 0) = true := by simpa using he
      have HE := Lib.hid he
      clear he
      go_enter Try.func10, Try.ntmps10
      go_wp2_with (go_at_call 18; refine hget.out.mono ?_; rintro e w1 ⟨ob1, rfl, hc1, hk1, ho1⟩; have HC1 := Lib.hid hc1; have HK1 := Lib.hid hk1; have HO1 := Lib.hid ho1; clear hc1 hk1 ho1)
      refine (HR.out w1 ob1 HC1.out HK1.out).mono ?_
      rintro e w2 ⟨rfl, hw2⟩
      have HW2 := Lib.hid hw2
      clear hw2
      go_wp2_with fail
      go_ret2
      exact .inr ⟨HL.out, w1, w2, ⟨ob1, rfl, HC1.out, HK1.out, HO1.out⟩, HW2.out, .inl ⟨HE.out, rfl, rfl⟩⟩
  · have hget := Lib.hid (get_hit base g bm size ob items hits misses i t w h hl hh.1 hh.2)
    have HL := Lib.hid hl
    clear h hr hk hl
    go_enter Try.func10, Try.ntmps10
    go_wp2_with (go_at_call 18; refine hget.out.mono ?_; rintro e w1 ⟨ob1, rfl, hc1, hk1, ho1⟩; have HC1 := Lib.hid hc1; have HK1 := Lib.hid hk1; have HO1 := Lib.hid ho1; clear hc1 hk1 ho1)
    go_ret2
    exact .inl ⟨t, HL.out, ob1, rfl, HC1.out, HK1.out, HO1.out⟩
end Go.Proofs.Ytedjaahidncokab
