/- law11: does. -/
import Derived.Test.YtedjaahidncokabF11b
namespace Go.Proofs.Ytedjaahidncokab
open Go.RowKit

def actCells (kind i n : Int) (s : ByteArray) : List Value := [.int .i64 kind, .int .i64 i, .int .i64 n, .string s]
def readWorld (gn : Nat) (W W' : World) : Prop := ∃ q, W' = (W.setCell ⟨gn, 0, none⟩ (.int .i64 1)).drewN q
set_option maxHeartbeats 1000000 in
theorem dread_any (gn ga : Nat) (kind i n : Int) (s : ByteArray) (w : World) (h1 : Blk w gn 3 [.int .i64 0]) (h2 : Blk w ga 40 (actCells kind i n s)) :
    ReadsAt 22 #[.int .i64 i, .pointer (some ⟨gn, 0, none⟩), .pointer (some ⟨ga, 0, none⟩)] s n (readWorld gn) w := by
  unfold ReadsAt
  have hne : gn ≠ ga := h1.ne h2 (by decide)
  have c0 : w.cell? ⟨gn, 0, none⟩ = some (.int .i64 0) := by rw [h1.cell]; rfl
  have c1 : w.cell? ⟨ga, 1, none⟩ = some (.int .i64 i) := by rw [h2.cell]; rfl
  have c2 : w.cell? ⟨ga, 2, none⟩ = some (.int .i64 n) := by rw [h2.cell]; rfl
  have c3 : w.cell? ⟨ga, 3, none⟩ = some (.string s) := by rw [h2.cell]; rfl
  have f0 := h1.frozen 0
  have hbe : (i != i) = false := by simp
  clear h1 h2
  go_enter Try.func22, Try.ntmps22
  go_wp2
  go_quiet (fail)
  go_wp2
  go_ret2
  exact ⟨rfl, _, rfl⟩

/-- the cache and the document's cache: the same items, the latter's in blocks of its own -/
def Pair (w : World) (gr base g bm : Nat) (ob : Option Nat) (size : Nat) (items : Items) (hits misses : Int) (iv : Value) : Prop :=
  CacheAt w base g bm ob size items hits misses ∧ ItemsAt w (fun b => b < w.heap.size ∧ ¬ foot g bm ob b ∧ b ≠ gr) iv items
def DoesPost (w : World) (gr base g bm : Nat) (ob : Option Nat) (size : Nat) (hits misses : Int) (e : Ending) (w' : World) : Prop :=
  ∃ iv ob' items' h' m', e = .returned (.tuple #[.agg #[.int .i64 size, iv, .int .i64 h', .int .i64 m'], .bool true]) ∧ Pair w' gr base g bm ob' size items' h' m' iv ∧ Kp (foot g bm ob) w w' ∧
    (∀ b, ob' = some b → ob = some b ∨ w.heap.size ≤ b) ∧ hits ≤ h' ∧ h' ≤ hits + 1 ∧ misses ≤ m' ∧ m' ≤ misses + 1
theorem ob_fresh {ob ob' : Option Nat} {n m : Nat} (h : ob' = ob ∨ ∃ b, ob' = some b ∧ m ≤ b) (hn : n ≤ m) : ∀ b, ob' = some b → ob = some b ∨ n ≤ b := by
  intro b hb
  rcases h with rfl | ⟨b', h, hb'⟩
  · exact .inl hb
  · rw [hb] at h; cases h; exact .inr (by omega)
theorem putIn_get {size : Nat} {items : Items} {i : Int} {s : ByteArray} (h : ((i, s) :: without items i).length ≤ size) : putIn size items i s = (i, s) :: without items i := by
  unfold putIn; exact List.take_of_length_le h
theorem CacheAt.len {w : World} {base g bm : Nat} {ob : Option Nat} {size : Nat} {items : Items} {hits misses : Int} (h : CacheAt w base g bm ob size items hits misses) : items.length ≤ size ∧ 1 ≤ size ∧ size ≤ 64 := by
  obtain ⟨ov, m, h0, h1, h2, h3, h4, h5, h6, h7, h8, h9⟩ := h
  exact ⟨h6, h7, h8⟩
/-- the three boxes with which does begins -/
def dw (w : World) (size : Nat) (A : Option Addr) (l c : Nat) (hits misses kind i n : Int) (s : ByteArray) : World :=
  ((w.alloc (.cells #[.int .i64 size, .slice A l c, .int .i64 hits, .int .i64 misses] 38)).alloc (.cells #[.int .i64 kind, .int .i64 i, .int .i64 n, .string s] 40)).alloc (.cells #[.int .i64 0, .slice none 0 0, .int .i64 0, .int .i64 0] 38)
structure DW (S : Nat → Prop) (w wx : World) (size : Nat) (A : Option Addr) (l c : Nat) (hits misses kind i n : Int) (s : ByteArray) : Prop where
  b1 : Blk wx w.heap.size 38 [.int .i64 size, .slice A l c, .int .i64 hits, .int .i64 misses]
  b2 : Blk wx (w.heap.size + 1) 40 (actCells kind i n s)
  b3 : Blk wx (w.heap.size + 2) 38 [.int .i64 0, .slice none 0 0, .int .i64 0, .int .i64 0]
  low : Kp S w wx
  size : w.heap.size + 3 ≤ wx.heap.size
theorem dw_is (S : Nat → Prop) (w : World) (size : Nat) (A : Option Addr) (l c : Nat) (hits misses kind i n : Int) (s : ByteArray) : DW S w (dw w size A l c hits misses kind i n s) size A l c hits misses kind i n s := by
  have e1 := Blk.new w 38 [.int .i64 size, .slice A l c, .int .i64 hits, .int .i64 misses]
  have e2 := Blk.new (w.alloc (.cells #[.int .i64 size, .slice A l c, .int .i64 hits, .int .i64 misses] 38)) 40 (actCells kind i n s)
  have e3 := Blk.new ((w.alloc (.cells #[.int .i64 size, .slice A l c, .int .i64 hits, .int .i64 misses] 38)).alloc (.cells #[.int .i64 kind, .int .i64 i, .int .i64 n, .string s] 40)) 38 [.int .i64 0, .slice none 0 0, .int .i64 0, .int .i64 0]
  rw [World.size_alloc] at e2 e3
  rw [World.size_alloc] at e3
  exact ⟨(e1.alloc _).alloc _, e2.alloc _, e3, (((Kp.refl S w).alloc _).alloc _).alloc _, by unfold dw; simp⟩
theorem DW.on {w wx wy : World} {size : Nat} {A : Option Addr} {l c : Nat} {hits misses kind i n : Int} {s : ByteArray} {S S' : Nat → Prop} (h : DW S w wx size A l c hits misses kind i n s) (k : Kp S' wx wy) (hS : ∀ b, S' b → (b < w.heap.size ∧ S b) ∨ w.heap.size + 3 ≤ b) : DW S w wy size A l c hits misses kind i n s := by
  have hz := h.size
  exact ⟨h.b1.kp k (fun hs => by have := hS _ hs; omega), h.b2.kp k (fun hs => by have := hS _ hs; omega), h.b3.kp k (fun hs => by have := hS _ hs; omega), h.low.trans k (fun b hb hs => by rcases hS b hs with h | h; exact h.2; omega), by have := k.size; omega⟩
theorem endPair {W W3 W4 : World} {gr base g bm : Nat} {ob ob' : Option Nat} {size : Nat} {items : Items} {hits misses : Int} {iv : Value} {Z S : Nat → Prop} (hI : ItemsAt W Z iv items) (hZ : ∀ b, Z b → b < W.heap.size ∧ ¬ foot g bm ob b ∧ ¬ S b ∧ b ≠ gr)
    (hC : CacheAt W3 base g bm ob' size items hits misses) (k : Kp (fun b => foot g bm ob b ∨ S b) W W4) (kC : Kp S W3 W4) (hS : ∀ b, S b → ¬ foot g bm ob' b) (ho : ob' = ob ∨ ∃ b, ob' = some b ∧ W.heap.size ≤ b) : Pair W4 gr base g bm ob' size items hits misses iv := by
  refine ⟨hC.kp kC hS, (hI.kp k (fun b hb => ⟨(hZ b hb).1, fun h => h.elim (hZ b hb).2.1 (hZ b hb).2.2.1⟩)).more (fun b hb => ⟨Nat.lt_of_lt_of_le (hZ b hb).1 k.size, ?_, (hZ b hb).2.2.2⟩)⟩
  rcases ho with rfl | ⟨b', rfl, hb'⟩
  · exact (hZ b hb).2.1
  · have h1 := (hZ b hb).1
    have h2 := (hZ b hb).2.1
    rintro (h | h | h)
    · exact h2 (.inl h)
    · exact h2 (.inr (.inl h))
    · cases h; omega
/-- what lies in the pair's world is kept -/
theorem Pair.kp {w w' : World} {gr base g bm : Nat} {ob : Option Nat} {size : Nat} {items : Items} {hits misses : Int} {iv : Value} {S : Nat → Prop} (h : Pair w gr base g bm ob size items hits misses iv) (k : Kp S w w') (hS : ∀ b, S b → w.heap.size ≤ b) : Pair w' gr base g bm ob size items hits misses iv := by
  refine ⟨h.1.kp k (fun b hb hf => ?_), (h.2.kp k (fun b hb => ⟨hb.1, fun hs => ?_⟩)).more (fun b hb => ⟨Nat.lt_of_lt_of_le hb.1 k.size, hb.2⟩)⟩
  · have := h.1.lt b hf; have := hS b hb; omega
  · have := hS b hs; omega

def Small (h m : Int) : Prop := 0 ≤ h ∧ h ≤ 1000000 ∧ 0 ≤ m ∧ m ≤ 1000000
theorem foot_ob {g bm : Nat} {ob ob' : Option Nat} {n m b : Nat} (hf : ∀ b, foot g bm ob b → b < n) (ho : ob' = ob ∨ ∃ b, ob' = some b ∧ m ≤ b) (h : foot g bm ob' b) : b < n ∨ m ≤ b := by
  rcases ho with rfl | ⟨b', rfl, hb⟩
  · exact .inl (hf b h)
  · rcases h with h | h | h
    · exact .inl (hf b (.inl h))
    · exact .inl (hf b (.inr (.inl h)))
    · cases h; exact .inr hb
/-- a struct of four cells stored -/
def set4 (w : World) (g : Nat) (a b c d : Value) : World := (((w.setCell ⟨g, 0, none⟩ a).setCell ⟨g, 1, none⟩ b).setCell ⟨g, 2, none⟩ c).setCell ⟨g, 3, none⟩ d
theorem kp_set4 (w : World) (g : Nat) (a b c d : Value) : Kp (fun b => b = g) w (set4 w g a b c d) := by
  unfold set4
  exact ((((Kp.refl (fun b => b = g) w).setCell (p := ⟨g, 0, none⟩) (.inl rfl) a).setCell (p := ⟨g, 1, none⟩) (.inl rfl) b).setCell (p := ⟨g, 2, none⟩) (.inl rfl) c).setCell (p := ⟨g, 3, none⟩) (.inl rfl) d
theorem blk_set4 {w : World} {g : Nat} {t : TypeId} {x0 x1 x2 x3 : Value} (h : Blk w g t [x0, x1, x2, x3]) (a b c d : Value) : Blk (set4 w g a b c d) g t [a, b, c, d] := (((h.set 0 a).set 1 b).set 2 c).set 3 d
theorem without_lt {l : Items} {i : Int} {t : ByteArray} (h : look l i = some t) : (without l i).length < l.length := by
  have hk := look_some h
  unfold keys at hk
  obtain ⟨x, hx, rfl⟩ := List.mem_map.1 hk
  exact List.length_filter_lt_length_iff_exists.2 ⟨x, hx, by simp⟩
def RGet2 (w : World) (F : Nat → Prop) (base g bm : Nat) (ob : Option Nat) (size : Nat) (items : Items) (hits misses i : Int) (e : Ending) (w' : World) : Prop :=
  ∃ items' h' m' t b, RGetPost w F size items' h' m' t b e w' ∧ (∀ W, CacheAt W base g bm ob size items hits misses → Calls Try.prog 18 #[.pointer (some ⟨g, 0, none⟩), .int .i64 i] W (CPost W base g bm ob size items' h' m' (.tuple #[.string t, .bool b]))) ∧ (hits ≤ h' ∧ h' ≤ hits + 1 ∧ misses ≤ m' ∧ m' ≤ misses + 1)
theorem rget2 (base g bm : Nat) (ob : Option Nat) (size : Nat) (iv : Value) (items : Items) (hits misses i : Int) (w : World) (F : Nat → Prop) (h : ItemsAt w F iv items) (hF : ∀ b, F b → b < w.heap.size) (hlen : items.length ≤ size) (hs0 : 1 ≤ size) (hs1 : size ≤ 64) (hs : Small hits misses) :
    Calls Try.prog 20 #[.agg #[.int .i64 size, iv, .int .i64 hits, .int .i64 misses], .int .i64 i] w (RGet2 w F base g bm ob size items hits misses i) := by
  obtain ⟨h1, h2, h3, h4⟩ := hs
  refine (rget_any size iv items hits misses i w F h hF hlen hs0 hs1 h1 h2 h3 h4).mono ?_
  rintro e w1 (⟨t, ht, hp⟩ | ⟨ht, hp⟩)
  · refine ⟨_, _, _, _, _, hp, fun W hW => ?_, by omega, by omega, by omega, by omega⟩
    rw [putIn_get (by have := without_lt ht; simp; omega)]
    exact get_hit base g bm size ob items hits misses i t W hW ht h1 h2
  · exact ⟨_, _, _, _, _, hp, fun W hW => get_miss base g bm size ob items hits misses i W hW ht h3 h4, by omega, by omega, by omega, by omega⟩
set_option maxHeartbeats 4000000 in
set_option maxRecDepth 100000 in
theorem does_get (gr base g bm : Nat) (ob : Option Nat) (size : Nat) (items : Items) (hits misses i n : Int) (s : ByteArray) (iv : Value) (w : World) (h : Pair w gr base g bm ob size items hits misses iv) (hgr : gr < w.heap.size) (hsm : Small hits misses) :
    Calls Try.prog 12 #[.pointer (some ⟨g, 0, none⟩), .agg #[.int .i64 size, iv, .int .i64 hits, .int .i64 misses], .agg #[.int .i64 1, .int .i64 i, .int .i64 n, .string s]] w (DoesPost w gr base g bm ob size hits misses) := by
  obtain ⟨hC, A, c, rfl, hc, hm, hr⟩ := h
  have hfoot := Lib.hid hC.lt
  obtain ⟨hl0, hl1, hl2⟩ := hC.len
  have HC := Lib.hid hC
  have HR := Lib.hid hr
  have hD := Lib.hid (dw_is (foot g bm ob) w size A items.length c hits misses 1 i n s)
  have HCx : Hid (CacheAt (dw w size A items.length c hits misses 1 i n s) base g bm ob size items hits misses) := hC.kp (S := fun _ => False) (((Kp.refl _ w).alloc _ |>.alloc _).alloc _) (fun b hb => hb.elim)
  unfold dw at hD HCx
  clear hC hr
  go_enter Try.func12, Try.ntmps12
  go_wp2_with fail
  generalize (((w.alloc (.cells #[.int .i64 size, .slice A items.length c, .int .i64 hits, .int .i64 misses] 38)).alloc (.cells #[.int .i64 1, .int .i64 i, .int .i64 n, .string s] 40)).alloc (.cells #[.int .i64 0, .slice none 0 0, .int .i64 0, .int .i64 0] 38)) = wx at hD HCx ⊢
  have hzx := hD.out.size
  have hIx : ItemsAt wx (fun b => b < w.heap.size ∧ ¬ foot g bm ob b ∧ b ≠ gr) (.slice A items.length c) items := ⟨A, c, rfl, hc, hm, HR.out.kp hD.out.low (fun b hb => ⟨hb.1, hb.2.1⟩)⟩
  refine (rget2 base g bm ob size _ items hits misses i wx _ hIx (fun b hb => by omega) hl0 hl1 hl2 hsm).mono ?_
  clear hIx
  rintro e w1 ⟨items', h', m', t, b, ⟨iv1, rfl, ⟨A1, c1, rfl, hI1⟩, hB1⟩, hget, hbd⟩
  have HI1 := Lib.hid hI1
  have hz1 := hB1.size
  have HB1 := Lib.hid hB1
  have hD1 := Lib.hid (hD.out.on (S' := fun b => wx.heap.size ≤ b) ⟨hB1.os, hB1.tape, hB1.output, hB1.size, fun i hi _ => hB1.block i hi⟩ (fun b hb => .inr (by omega)))
  have HC1 := Lib.hid (HCx.out.kp (S := fun _ => False) ⟨hB1.os, hB1.tape, hB1.output, hB1.size, fun i hi _ => hB1.block i hi⟩ (fun b hb => hb.elim))
  have a1 : w1.cell? ⟨w.heap.size + 1, 1, none⟩ = some (.int .i64 i) := by rw [hD1.out.b2.cell]; rfl
  have z1 : w.heap.size + 1 < w1.heap.size := by omega
  have z2 : w.heap.size + 1 + 1 < w1.heap.size := by omega
  have HG := Lib.hid hget
  have hbb : (b == b) = true := by simp
  have HBD := Lib.hid hbd
  clear hI1 hB1 hget hbd
  go_wp2_with fail
  have hnew := Lib.hid (Blk.new w1 38 [.int .i64 size, .slice A1 items'.length c1, .int .i64 h', .int .i64 m'])
  refine (HG.out _ (HC1.out.kp (S := fun _ => False) ((Kp.refl _ w1).alloc _) (fun b hb => hb.elim))).mono ?_
  rintro e w3 ⟨ob', rfl, hc3, hk3, ho3⟩
  have HC3 := Lib.hid hc3
  have HK3 := Lib.hid hk3
  have HO3 := Lib.hid ho3
  have k1 := hnew.out.kp hk3 (fun hf => by have := hfoot.out _ hf; omega)
  have k2 := (hD1.out.b3.alloc (.cells #[.int .i64 size, .slice A1 items'.length c1, .int .i64 h', .int .i64 m'] 38)).kp hk3 (fun hf => by have := hfoot.out _ hf; omega)
  have n0 : w3.cell? ⟨w1.heap.size, 0, none⟩ = some (.int .i64 size) := by rw [k1.cell]; rfl
  have n1 : w3.cell? ⟨w1.heap.size, 1, none⟩ = some (.slice A1 items'.length c1) := by rw [k1.cell]; rfl
  have n2 : w3.cell? ⟨w1.heap.size, 2, none⟩ = some (.int .i64 h') := by rw [k1.cell]; rfl
  have n3 : w3.cell? ⟨w1.heap.size, 3, none⟩ = some (.int .i64 m') := by rw [k1.cell]; rfl
  have m0 : w3.cell? ⟨w.heap.size + 1 + 1, 0, none⟩ = some (.int .i64 0) := by rw [k2.cell]; rfl
  have m1 : w3.cell? ⟨w.heap.size + 1 + 1, 1, none⟩ = some (.slice none 0 0) := by rw [k2.cell]; rfl
  have m2 : w3.cell? ⟨w.heap.size + 1 + 1, 2, none⟩ = some (.int .i64 0) := by rw [k2.cell]; rfl
  have m3 : w3.cell? ⟨w.heap.size + 1 + 1, 3, none⟩ = some (.int .i64 0) := by rw [k2.cell]; rfl
  have e0 : w3.frozen? ⟨w.heap.size + 1 + 1, 0, none⟩ = false := k2.frozen 0
  have e1 : w3.frozen? ⟨w.heap.size + 1 + 1, 1, none⟩ = false := k2.frozen 1
  have e2 : w3.frozen? ⟨w.heap.size + 1 + 1, 2, none⟩ = false := k2.frozen 2
  have e3 : w3.frozen? ⟨w.heap.size + 1 + 1, 3, none⟩ = false := k2.frozen 3
  clear hc3 hk3 ho3 k1 k2
  go_wp2
  refine bodyPost_ret (v := .tuple #[.agg #[.int .i64 size, .slice A1 items'.length c1, .int .i64 h', .int .i64 m'], .bool true]) (by simp [results, Try.results12, go_sem, m0, m1, m2, m3]) rfl ?_
  have ho : ob' = ob ∨ ∃ b, ob' = some b ∧ w1.heap.size ≤ b := by
    rcases HO3.out with h | ⟨b, h, hb⟩
    · exact .inl h
    · exact .inr ⟨b, h, by simp at hb; omega⟩
  have hS : ∀ b, b = w.heap.size + 1 + 1 → ¬ foot g bm ob' b := by
    intro b hb hf
    have := foot_ob hfoot.out ho hf
    omega
  have kC := kp_set4 w3 (w.heap.size + 1 + 1) (.int .i64 size) (.slice A1 items'.length c1) (.int .i64 h') (.int .i64 m')
  have k13 : Kp (foot g bm ob) w1 w3 := ((Kp.refl _ w1).alloc _).trans HK3.out (fun b _ hb => hb)
  refine ⟨_, ob', items', h', m', rfl, endPair (W := w1) (W3 := w3) (S := fun b => b = w.heap.size + 1 + 1) ⟨A1, c1, rfl, HI1.out⟩ ?_ HC3.out ((k13.weak (fun b hb => .inl hb)).trans kC (fun b _ hb => .inr hb)) kC hS ho, (hD1.out.low.trans k13 (fun b _ hb => hb)).trans kC (fun b hb hs => by omega), ?_, HBD.out⟩
  · rintro b (hb | hb)
    · exact ⟨by omega, hb.2.1, by omega, hb.2.2⟩
    · exact ⟨hb.2, fun hf => by have := hfoot.out _ hf; omega, by omega, by omega⟩
  · exact ob_fresh ho (by omega)
end Go.Proofs.Ytedjaahidncokab
