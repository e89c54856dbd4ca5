/- The abstract machine is sound: maps. -/
import Derived.Test.YtgnpihhakogeeaaBa
namespace Go.Proofs.Ytgnpihhakogeeaa
set_option linter.unusedSimpArgs false
set_option linter.unusedVariables false
open Go.RowKit

theorem ba_beq (a b : ByteArray) : (a == b) = true ↔ a = b := by
  cases a with | mk x => cases b with | mk y =>
  constructor
  · intro h
    have : (x == y) = true := h
    rw [beq_iff_eq] at this
    rw [this]
  · intro h
    injection h with h
    subst h
    show (x == x) = true
    exact beq_self_eq_true x
theorem vEq_is {k : SK} {a b : Value} (ha : k.is a = true) (hb : k.is b = true) : vEq a b = true ↔ a = b := by
  cases k <;> cases a <;> simp [SK.is] at ha <;> cases b <;> simp [SK.is] at hb <;> simp [vEq]
  · subst ha hb; simp
  · exact ba_beq _ _
theorem vsEq_is : ∀ {ks : List SK} {as bs : List Value}, as.length = ks.length → bs.length = ks.length → (∀ (i : Nat) (k : SK) (x : Value), ks[i]? = some k → as[i]? = some x → k.is x = true) → (∀ (i : Nat) (k : SK) (x : Value), ks[i]? = some k → bs[i]? = some x → k.is x = true) → (vsEq as bs = true ↔ as = bs)
  | [], [], [], _, _, _, _ => by simp [vsEq]
  | k :: ks, a :: as, b :: bs, h1, h2, h3, h4 => by
    have ih := vsEq_is (ks := ks) (as := as) (bs := bs) (by simpa using h1) (by simpa using h2) (fun i k x hk hx => h3 (i + 1) k x (by simpa using hk) (by simpa using hx)) (fun i k x hk hx => h4 (i + 1) k x (by simpa using hk) (by simpa using hx))
    have h0 := vEq_is (h3 0 k a rfl rfl) (h4 0 k b rfl rfl)
    simp [vsEq, ih, h0]
  | [], a :: as, _, h1, _, _, _ => by simp at h1
  | [], [], b :: bs, _, h2, _, _ => by simp at h2
  | k :: ks, [], _, h1, _, _, _ => by simp at h1
  | k :: ks, a :: as, [], _, h2, _, _ => by simp at h2
theorem kEq_is {kk : KK} {a b : Value} (ha : kk.isKey a) (hb : kk.isKey b) : kEq a b = true ↔ a = b := by
  cases kk with
  | one k =>
    have ha' : k.is a = true := ha
    have hb' : k.is b = true := hb
    rw [← vEq_is ha' hb']
    have hna : ∀ cs, a ≠ .agg cs := by rintro cs rfl; cases k <;> simp [SK.is] at ha'
    unfold kEq
    split
    · exact absurd rfl (hna _)
    · rfl
  | row ks =>
    obtain ⟨as, rfl, h1, h2⟩ := ha
    obtain ⟨bs, rfl, h3, h4⟩ := hb
    simp only [kEq]
    rw [vsEq_is h1 h3 h2 h4]
    constructor
    · rintro rfl; rfl
    · intro h; injection h with h; simpa using h
section
variable {P : Program} {g g' : Gh} {H H' : AHeap} {w w' : World} {N : Nat} {F : Fr} {a : Act}
/-- where a key stands -/
def mIdx (k : Value) : List (Value × AV) → Option Nat
  | [] => none
  | (k', _) :: es => bif kEq k k' then some 0 else (mIdx k es).map (· + 1)
theorem mIdx_none {k : Value} : ∀ {es : List (Value × AV)}, mIdx k es = none → mFind k es = none ∧ (∀ x, mSet k x es = es ++ [(k, x)]) ∧ mDel k es = es ∧ ∀ p ∈ es, kEq k p.1 = false
  | [], _ => by simp [mFind, mSet, mDel]
  | (k', b) :: es, h => by
    simp only [mIdx] at h
    cases hk : kEq k k' with
    | true => rw [hk] at h; cases h
    | false =>
      rw [hk] at h
      simp at h
      obtain ⟨h1, h2, h3, h4⟩ := mIdx_none h
      simp [mFind, mSet, mDel, hk, h1, h2, h3]
      exact fun a b h => h4 (a, b) h
theorem mIdx_some {k : Value} : ∀ {es : List (Value × AV)} {i : Nat}, mIdx k es = some i → ∃ k' b, es[i]? = some (k', b) ∧ kEq k k' = true ∧ mFind k es = some b ∧ (∀ x, mSet k x es = es.set i (k, x)) ∧ mDel k es = es.eraseIdx i ∧ ∀ j p, j < i → es[j]? = some p → kEq k p.1 = false
  | [], i, h => by simp [mIdx] at h
  | (k', b) :: es, i, h => by
    simp only [mIdx] at h
    cases hk : kEq k k' with
    | true =>
      rw [hk] at h
      simp at h
      subst h
      refine ⟨k', b, rfl, hk, by simp [mFind, hk], by simp [mSet, hk], by simp [mDel, hk], fun j p hj => by omega⟩
    | false =>
      rw [hk] at h
      simp at h
      obtain ⟨i', h, rfl⟩ := h
      obtain ⟨k2, b2, h1, h2, h3, h4, h5, h6⟩ := mIdx_some h
      refine ⟨k2, b2, by simpa using h1, h2, by simp [mFind, hk, h3], by simp [mSet, hk, h4], by simp [mDel, hk, h5], fun j p hj hp => ?_⟩
      cases j with
      | zero => simp at hp; subst hp; exact hk
      | succ j => exact h6 j p (by omega) (by simpa using hp)
/-- the model finds a key where it stands -/
theorem findNow_ok {d : TypeDesc} {k : Value} : ∀ {es : List (Value × AV)} {en : List MapEntry} {o : Nat}, en.length = es.length → (∀ (i : Nat) k' x e, es[i]? = some (k', x) → en[i]? = some e → e.key = k') → (∀ p ∈ es, Instr.sameNow d k p.1 = some (kEq k p.1)) → Instr.findNow d k en o = some ((mIdx k es).bind fun i => (en[i]?).map fun e => (o + i, e.val))
  | [], [], o, _, _, _ => by simp [Instr.findNow, mIdx]
  | [], e :: en, o, h, _, _ => by simp at h
  | p :: es, [], o, h, _, _ => by simp at h
  | (k', x) :: es, e :: en, o, h, hk, hs => by
    have hk0 := hk 0 k' x e rfl rfl
    have h0 := hs (k', x) (by simp)
    simp only [Instr.findNow, hk0, h0, mIdx]
    cases hq : kEq k k' with
    | true => simp
    | false =>
      simp only [cond_false]
      rw [findNow_ok (es := es) (by simpa using h) (fun i k2 x2 e2 h1 h2 => hk (i + 1) k2 x2 e2 (by simpa using h1) (by simpa using h2)) (fun p hp => hs p (by simp [hp]))]
      cases mIdx k es with
      | none => simp
      | some i => simp [Nat.add_assoc, Nat.add_comm 1 i]
theorem findAsk_ok {t : TypeId} {k : Value} : ∀ {es : List (Value × AV)} {en : List MapEntry} {o : Nat}, en.length = es.length → (∀ (i : Nat) k' x e, es[i]? = some (k', x) → en[i]? = some e → e.key = k') → (∀ p ∈ es, (Op.equal t k p.1).run P w = .ok (kEq k p.1) w) → (Instr.findAsking t k en o).run P w = .ok ((mIdx k es).bind fun i => (en[i]?).map fun e => (o + i, e.val)) w
  | [], [], o, _, _, _ => by simp [Instr.findAsking, mIdx]
  | [], e :: en, o, h, _, _ => by simp at h
  | p :: es, [], o, h, _, _ => by simp at h
  | (k', x) :: es, e :: en, o, h, hk, hs => by
    have hk0 := hk 0 k' x e rfl rfl
    have h0 := hs (k', x) (by simp)
    simp only at h0
    simp only [Instr.findAsking, hk0, Sem.run_bind, h0, Result.andThen_ok, mIdx]
    cases hq : kEq k k' with
    | true => simp
    | false =>
      simp only [cond_false, Bool.false_eq_true, if_false]
      rw [findAsk_ok (es := es) (by simpa using h) (fun i k2 x2 e2 h1 h2 => hk (i + 1) k2 x2 e2 (by simpa using h1) (by simpa using h2)) (fun p hp => hs p (by simp [hp]))]
      cases mIdx k es with
      | none => simp
      | some i => simp [Nat.add_assoc, Nat.add_comm 1 i]
/-- what a type of keys must be -/
def KeyT (P : Program) (kk : KK) (kt : TypeId) : Prop :=
  (∃ k, kk = .one k ∧ ((∃ ik, k = .int ik ∧ P.underlying kt = some (.int ik)) ∨ (k = .str ∧ P.underlying kt = some .string) ∨ (k = .bool ∧ P.underlying kt = some .bool))) ∨
  (∃ ks d, kk = .row ks ∧ EqOk P kt ks ∧ P.underlying kt = some d ∧ ((∃ fs, d = .struct fs) ∨ ∃ n e, d = .array n e))
theorem keyK_ok {eqT : TypeId → Option (List SK)} (hE : ∀ t ks, eqT t = some ks → EqOk P t ks) {t : TypeId} {kk : KK} (h : keyK P eqT t = some kk) : KeyT P kk t := by
  unfold keyK at h
  split at h
  · rename_i k hu
    injection h with h; subst h
    exact .inl ⟨_, rfl, .inl ⟨_, rfl, hu⟩⟩
  · rename_i hu
    injection h with h; subst h
    exact .inl ⟨_, rfl, .inr (.inl ⟨rfl, hu⟩)⟩
  · rename_i hu
    injection h with h; subst h
    exact .inl ⟨_, rfl, .inr (.inr ⟨rfl, hu⟩)⟩
  · rename_i fs hu
    cases he : eqT t with
    | none => rw [he] at h; cases h
    | some ks => rw [he] at h; simp at h; subst h; exact .inr ⟨ks, _, rfl, hE t ks he, hu, .inl ⟨_, rfl⟩⟩
  · rename_i n e hu
    cases he : eqT t with
    | none => rw [he] at h; cases h
    | some ks => rw [he] at h; simp at h; subst h; exact .inr ⟨ks, _, rfl, hE t ks he, hu, .inr ⟨_, _, rfl⟩⟩
  · cases h
theorem KK.of_ok {kk : KK} {x : AV} {u kv : Value} (hx : VR g w x u) (h : kk.of x = some kv) : u = kv ∧ kk.isKey kv := by
  cases kk with
  | one k =>
    cases x <;> simp only [KK.of] at h <;> try (cases h; done)
    cases hx
    cases hk : k.is u with
    | false => rw [hk] at h; cases h
    | true => rw [hk] at h; simp at h; subst h; exact ⟨rfl, hk⟩
  | row ks =>
    cases x <;> simp only [KK.of] at h <;> try (cases h; done)
    rename_i cs
    cases hs : scs ks cs with
    | none => rw [hs] at h; cases h
    | some us =>
      rw [hs] at h
      simp at h
      subst h
      cases hx with
      | agg _ vs hl hone hv =>
      obtain ⟨h1, h2, h3⟩ := scs_ok (g := g) (w := w) hs (vs := vs.toList) ⟨by simpa using hl, fun i x u hx hu => hv i x u hx (by simpa using hu)⟩
      refine ⟨by rw [← h1], us, rfl, h2, h3⟩
theorem checkKey_ok {kk : KK} {kt : TypeId} {kv : Value} (ht : KeyT P kk kt) (hk : kk.isKey kv) (b : Bool) : (Instr.checkKey b 10000 kt kv).run P w = .ok () w := by
  rcases ht with ⟨k, rfl, h⟩ | ⟨ks, d, rfl, hE, _⟩
  · have key : ∀ n, (Instr.checkKey b (n + 1) kt kv).run P w = .ok () w := by
      intro n
      have hk' : k.is kv = true := hk
      rcases h with ⟨ik, rfl, hu⟩ | ⟨rfl, hu⟩ | ⟨rfl, hu⟩ <;> cases kv <;> simp [SK.is] at hk' <;> simp [Instr.checkKey, run_underlying hu]
    exact key 9999
  · obtain ⟨vs, rfl, h1, h2⟩ := hk
    exact (hE vs vs h1 h1 h2 h2 w).2 b
theorem find_ok {kk : KK} {kt : TypeId} {kv : Value} {es : List (Value × AV)} {en : Array MapEntry} (ht : KeyT P kk kt) (hk : kk.isKey kv) (hl : en.size = es.length) (hks : ∀ (i : Nat) k' x e, es[i]? = some (k', x) → en[i]? = some e → e.key = k') (hkk : ∀ p ∈ es, kk.isKey p.1) :
    (Instr.findKey kt kv en.toList).run P w = .ok ((mIdx kv es).bind fun i => (en[i]?).map fun e => (i, e.val)) w := by
  have hl' : en.toList.length = es.length := by simpa using hl
  have hks' : ∀ (i : Nat) k' x e, es[i]? = some (k', x) → en.toList[i]? = some e → e.key = k' := fun i k' x e h1 h2 => hks i k' x e h1 (by simpa using h2)
  rcases ht with ⟨k, rfl, h⟩ | ⟨ks, d, rfl, hE, hu, hd⟩
  · have hk' : k.is kv = true := hk
    have key : ∀ d, P.underlying kt = some d → (∀ p ∈ es, Instr.sameNow d kv p.1 = some (kEq kv p.1)) → (Instr.findKey kt kv en.toList).run P w = .ok ((mIdx kv es).bind fun i => (en[i]?).map fun e => (i, e.val)) w := by
      intro d hu hs
      have := findNow_ok (o := 0) hl' hks' hs
      simp only [Nat.zero_add] at this
      simp only [Instr.findKey, Sem.run_bind, run_underlying hu, Result.andThen_ok, this, Sem.run_pure]
      simp
    rcases h with ⟨ik, rfl, hu⟩ | ⟨rfl, hu⟩ | ⟨rfl, hu⟩
    · refine key _ hu (fun p hp => ?_)
      have hp' : (SK.int ik).is p.1 = true := hkk p hp
      obtain ⟨pk, px⟩ := p
      cases kv <;> simp [SK.is] at hk'
      cases pk <;> simp [SK.is] at hp'
      subst hk' hp'
      simp [Instr.sameNow, kEq, vEq]
    · refine key _ hu (fun p hp => ?_)
      have hp' : SK.str.is p.1 = true := hkk p hp
      obtain ⟨pk, px⟩ := p
      cases kv <;> simp [SK.is] at hk'
      cases pk <;> simp [SK.is] at hp'
      simp [Instr.sameNow, kEq, vEq]
    · refine key _ hu (fun p hp => ?_)
      have hp' : SK.bool.is p.1 = true := hkk p hp
      obtain ⟨pk, px⟩ := p
      cases kv <;> simp [SK.is] at hk'
      cases pk <;> simp [SK.is] at hp'
      simp [Instr.sameNow, kEq, vEq]
  · obtain ⟨vs, rfl, h1, h2⟩ := hk
    have heq : ∀ p ∈ es, (Op.equal kt (.agg vs.toArray) p.1).run P w = .ok (kEq (.agg vs.toArray) p.1) w := by
      intro p hp
      obtain ⟨us, hpu, h3, h4⟩ := hkk p hp
      rw [hpu]
      have := (hE vs us h1 h3 h2 h4 w).1
      simpa [kEq] using this
    have hask := findAsk_ok (o := 0) hl' hks' heq
    simp only [Nat.zero_add] at hask
    have hnow : Instr.findNow d (.agg vs.toArray) en.toList 0 = none ∨ Instr.findNow d (.agg vs.toArray) en.toList 0 = some none ∧ en.toList = [] := by
      cases hen : en.toList with
      | nil => exact .inr ⟨rfl, rfl⟩
      | cons e r =>
        left
        rcases hd with ⟨fs, rfl⟩ | ⟨n, e', rfl⟩ <;> simp [Instr.findNow, Instr.sameNow]
    rcases hnow with hnow | ⟨hnow, hnil⟩
    · simp only [Instr.findKey, Sem.run_bind, run_underlying hu, Result.andThen_ok, hnow, hask]
      simp
    · have hes : es = [] := List.eq_nil_of_length_eq_zero (by rw [← hl', hnil]; rfl)
      subst hes
      simp only [Instr.findKey, Sem.run_bind, run_underlying hu, Result.andThen_ok, hnow, Sem.run_pure, mIdx]
      simp
theorem mkm_ok (hW : WR g H w) {t : TypeId} {kk : KK} {v : AV} (he : AOp.ev F H (.mkm kk) = some (v, H')) : DoesV P g H w (Instr.makeMap t none) v H' := by
  simp only [AOp.ev, Option.some.injEq, Prod.mk.injEq] at he
  obtain ⟨rfl, rfl⟩ := he
  have hid : (g.obj H.next w.heap.size).ι H.next = some w.heap.size := by simp [Gh.obj]
  obtain ⟨k1, k2⟩ := new_obj hW (.map #[] 0) (.map kk [] false) (by intros; simp) ⟨_, #[], 0, hid, heap_alloc_new w _, rfl, fun i k x e h => by simp at h, fun i j e e' h => by simp at h, (fun _ k n h => by
    have h' : g.β H.next k = some n := h
    rw [(hW.dom H.next (Nat.le_refl _)).2.2 k] at h'; cases h'), fun j hj => absurd (hW.ro _ _ hj) (by omega)⟩
  exact ⟨.map (some w.heap.size), _, _, by simp [Instr.makeMap], .mp _ _ hid, k1, k2⟩
/-- a map, as it lies -/
theorem map_at (hW : WR g H w) {id : Nat} {kk : KK} {es : List (Value × AV)} {del : Bool} {u : Value} (hx : VR g w (.mp id) u) (ho : H.get id = some (.map kk es del)) : ∃ b en cl, u = .map (some b) ∧ g.ι id = some b ∧ w.heap[b]? = some (.map en cl) ∧ en.size = es.length ∧
    (∀ (i : Nat) (k : Value) (x : AV) (e : MapEntry), es[i]? = some (k, x) → en[i]? = some e → e.key = k ∧ kk.isKey k ∧ VR g w x e.val ∧ e.born < cl ∧ (del = false → g.β id k = some e.born)) ∧
    (∀ (i j : Nat) (e e' : MapEntry), en[i]? = some e → en[j]? = some e' → e.born = e'.born → i = j) ∧ (del = false → ∀ k n, g.β id k = some n → ∃ (i : Nat) (e : MapEntry), en[i]? = some e ∧ e.key = k) ∧ (∀ j, ¬ g.RO b j) ∧ (∀ p ∈ es, kk.isKey p.1) := by
  cases hx with
  | mp _ b h =>
  obtain ⟨b', en, cl, h1, h2, h3, h4, h5, h6, h7⟩ := hW.obj id _ ho
  rw [h] at h1
  injection h1 with h1
  subst h1
  refine ⟨b, en, cl, rfl, h, h2, h3, h4, h5, h6, h7, fun p hp => ?_⟩
  obtain ⟨i, hi, rfl⟩ := List.getElem_of_mem hp
  have hi2 : i < en.size := by omega
  exact (h4 i es[i].1 es[i].2 en[i] (List.getElem?_eq_getElem hi) (Array.getElem?_eq_getElem hi2)).2.1
theorem lkp_ok (hW : WR g H w) {t kt et : TypeId} {kk : KK} {z : Value} {ok : Bool} {x y v : AV} {u r : Value} (hu : P.underlying t = some (.map kt et)) (hk : KeyT P kk kt) (hz : tyZero P et = some z) (hx : VR g w x u) (hy : VR g w y r)
    (he : AOp.ev F H (.lkp kk (ofConst z) ok (.c x) (.c y)) = some (v, H')) : DoesV P g H w (Instr.lookup t u r ok) v H' := by
  simp only [AOp.ev, AX.ev] at he
  have hzero : (zeroValue et).run P w = .ok z w := by
    unfold tyZero at hz
    cases hi : P.info? et with
    | none => rw [hi] at hz; cases hz
    | some i => rw [hi] at hz; simp at hz; simp [zeroValue, typeInfo, hi, hz]
  have vtup : ∀ {p q : AV} {p' q' : Value}, VR g w p p' → VR g w q q' → VR g w (.tup [p, q]) (.tuple #[p', q']) := by
    intro p q p' q' h1 h2
    have := (VRs.nil.cons h2).cons h1
    exact .tup _ _ rfl (fun i x u hx hu => this.2 i x u hx (by simpa using hu))
  split at he
  · rename_i id kv hkv
    obtain ⟨rfl, hkey⟩ := KK.of_ok hy hkv
    cases ho : H.get id with
    | none => rw [ho] at he; cases he
    | some ob =>
      rw [ho] at he
      cases ob with
      | cells cs E => cases he
      | tok n E s => cases he
      | map kk' es del =>
        simp only at he
        split at he
        case isFalse => cases he
        rename_i hkk
        subst hkk
        obtain ⟨b, en, cl, rfl, h1, h2, h3, h4, h5, h6, h7, h8⟩ := map_at hW hx ho
        have hf := find_ok (P := P) (w := w) hk hkey h3 (fun i k' x e a b => (h4 i k' x e a b).1) h8
        have hck := checkKey_ok (P := P) (w := w) hk hkey en.isEmpty
        have hgo : (getObj b).run P w = .ok (.map en cl) w := by simp [getObj, Sem.run, h2]
        cases hm : mIdx r es with
        | none =>
          obtain ⟨m1, _⟩ := mIdx_none hm
          rw [hm] at hf
          simp only [Option.bind_none] at hf
          rw [m1] at he
          simp only [Option.some.injEq, Prod.mk.injEq] at he
          obtain ⟨rfl, rfl⟩ := he
          cases ok
          · exact .here (u := z) (by simp [Instr.lookup, run_underlying hu, hgo, hck, hf, hzero]) (ofConst_ok z) hW
          · exact .here (u := .tuple #[z, .bool false]) (by simp [Instr.lookup, run_underlying hu, hgo, hck, hf, hzero]) (vtup (ofConst_ok z) (.sc _)) hW
        | some i =>
          obtain ⟨k', a', m1, m2, m3, _⟩ := mIdx_some hm
          have hi : i < en.size := by rw [h3]; exact (List.getElem?_eq_some_iff.1 m1).1
          have hen := Array.getElem?_eq_getElem hi
          rw [hm] at hf
          simp only [Option.bind_some, hen, Option.map_some] at hf
          rw [m3] at he
          simp only [Option.some.injEq, Prod.mk.injEq] at he
          obtain ⟨rfl, rfl⟩ := he
          have hval := (h4 i k' a' en[i] m1 hen).2.2.1
          cases ok
          · exact .here (u := en[i].val) (by simp [Instr.lookup, run_underlying hu, hgo, hck, hf]) hval hW
          · exact .here (u := .tuple #[en[i].val, .bool true]) (by simp [Instr.lookup, run_underlying hu, hgo, hck, hf]) (vtup hval (.sc _)) hW
  · rename_i kv hkv
    obtain ⟨rfl, hkey⟩ := KK.of_ok hy hkv
    cases hx
    have hck := checkKey_ok (P := P) (w := w) hk hkey true
    have hf := find_ok (P := P) (w := w) (es := []) (en := #[]) hk hkey rfl (fun i k' x e h => by simp at h) (fun p h => by simp at h)
    simp only [mIdx, Option.bind_none] at hf
    simp only [Option.some.injEq, Prod.mk.injEq] at he
    obtain ⟨rfl, rfl⟩ := he
    cases ok
    · exact .here (u := z) (by simp [Instr.lookup, run_underlying hu, hck, hf, hzero]) (ofConst_ok z) hW
    · exact .here (u := .tuple #[z, .bool false]) (by simp [Instr.lookup, run_underlying hu, hck, hf, hzero]) (vtup (ofConst_ok z) (.sc _)) hW
  · cases he
end
end Go.Proofs.Ytgnpihhakogeeaa
