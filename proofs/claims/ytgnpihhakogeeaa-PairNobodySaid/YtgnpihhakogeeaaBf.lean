/- The abstract machine: regions whose order is open. -/
import Derived.Test.YtgnpihhakogeeaaBe
import Derived.Orders
namespace Go.Proofs.Ytgnpihhakogeeaa
set_option linter.unusedSimpArgs false
set_option linter.unusedVariables false
open Go.RowKit

def AX.tmps : AX → List Nat
  | .t n => [n]
  | .c _ => []
def oTmps (o : Option AX) : List Nat := match o with
  | some x => x.tmps
  | none => []
def AOp.tmps : AOp → List Nat
  | .mv x | .box _ x | .ld _ _ x | .nck x | .un _ x | .cnv _ x | .cvs x | .sob x | .clr x | .fla _ x | .fld _ _ _ x | .ext x _ | .len _ x | .mln x | .eqs _ x | .cap x => x.tmps
  | .pick c a b => c.tmps ++ (a.tmps ++ b.tmps)
  | .bld _ ps => ps.flatMap fun p => p.2.2.tmps
  | .bsl _ xs => xs.flatMap AX.tmps
  | .st _ x y | .bin _ x y | .eqf _ _ x y | .bnb _ x y | .eqn _ _ x y | .ixa _ x y | .ixA _ _ x y | .ixv _ _ _ x y | .ixs x y | .app _ _ _ x y | .mm _ x y | .lkp _ _ _ x y | .men _ _ x y | .del _ x y | .mks _ _ _ _ x y => x.tmps ++ y.tmps
  | .mkf _ xs ys => xs.flatMap AX.tmps ++ ys.flatMap AX.tmps
  | .slc _ x lo hi mx => x.tmps ++ (oTmps lo ++ (oTmps hi ++ oTmps mx))
  | .slS x lo hi => x.tmps ++ (oTmps lo ++ oTmps hi)
  | .mup _ x y z | .est x y z => x.tmps ++ (y.tmps ++ z.tmps)
  | .lnA _ | .mkm _ | .bad => []
  | .call f xs => f.tmps ++ xs.flatMap AX.tmps
def Agr (ts : List Nat) (F F' : Fr) : Prop := ∀ t ∈ ts, Fr.get F t = Fr.get F' t
theorem Agr.left {a b : List Nat} {F F' : Fr} (h : Agr (a ++ b) F F') : Agr a F F' := fun t ht => h t (List.mem_append_left _ ht)
theorem Agr.right {a b : List Nat} {F F' : Fr} (h : Agr (a ++ b) F F') : Agr b F F' := fun t ht => h t (List.mem_append_right _ ht)
theorem AX.congr {x : AX} {F F' : Fr} (h : Agr x.tmps F F') : x.ev F = x.ev F' := by
  cases x with
  | t n => exact h n (by simp [AX.tmps])
  | c a => rfl
theorem evs_congr {xs : List AX} {F F' : Fr} (h : Agr (xs.flatMap AX.tmps) F F') : evs F xs = evs F' xs := by
  induction xs with
  | nil => rfl
  | cons x xs ih =>
    simp only [List.flatMap_cons] at h
    simp only [evs, List.map_cons]
    rw [AX.congr h.left]
    have := ih h.right
    simp only [evs] at this
    rw [this]
theorem bnd_congr {o : Option AX} {F F' : Fr} {d : Nat} (h : Agr (oTmps o) F F') : bndA F d o = bndA F' d o := by
  cases o with
  | none => rfl
  | some x => simp only [bndA]; rw [AX.congr h]
theorem fillA_congr {F F' : Fr} : ∀ {ps : List (Nat × Nat × AX)} {cs : List AV}, Agr (ps.flatMap fun p => p.2.2.tmps) F F' → fillA F cs ps = fillA F' cs ps
  | [], _, _ => rfl
  | (o, s, x) :: ps, cs, h => by
    simp only [List.flatMap_cons] at h
    simp only [fillA]
    rw [AX.congr h.left]
    split
    · rw [fillA_congr h.right]
    · rfl
theorem rowsOf_congr {F F' : Fr} {sz : Nat} : ∀ {xs : List AX}, Agr (xs.flatMap AX.tmps) F F' → rowsOf F sz xs = rowsOf F' sz xs
  | [], _ => rfl
  | x :: xs, h => by
    simp only [List.flatMap_cons] at h
    simp only [rowsOf]
    rw [AX.congr h.left, rowsOf_congr h.right]
theorem AOp.congr {op : AOp} {F F' : Fr} {H : AHeap} (h : Agr op.tmps F F') : op.ev F H = op.ev F' H := by
  cases op
  case bld => simp only [AOp.ev]; rw [fillA_congr h]
  case bsl => simp only [AOp.ev]; rw [rowsOf_congr h]
  case mkf => simp only [AOp.ev]; rw [evs_congr h.left, evs_congr h.right]
  case slc => simp only [AOp.ev]; rw [AX.congr h.left]; simp only [bnd_congr h.right.left, bnd_congr h.right.right.left, bnd_congr h.right.right.right]
  case slS => simp only [AOp.ev]; rw [AX.congr h.left]; simp only [bnd_congr h.right.left, bnd_congr h.right.right]
  case pick => simp only [AOp.ev]; rw [AX.congr h.left, AX.congr h.right.left, AX.congr h.right.right]
  case mup => simp only [AOp.ev]; rw [AX.congr h.left, AX.congr h.right.left, AX.congr h.right.right]
  case est => simp only [AOp.ev]; rw [AX.congr h.left, AX.congr h.right.left, AX.congr h.right.right]
  case call => rfl
  case lnA => rfl
  case mkm => rfl
  case bad => rfl
  case len s x => cases s <;> (simp only [AOp.ev]; rw [AX.congr h])
  case eqn k n x y => rcases k with _ | _ | k <;> (simp only [AOp.ev]; rw [AX.congr h.left, AX.congr h.right])
  all_goals first
    | (simp only [AOp.ev]; rw [AX.congr h]; done)
    | (simp only [AOp.ev]; rw [AX.congr h.left, AX.congr h.right]; done)
/-- 0: neither reads nor writes memory; 1: reads it; 2: does more -/
def AOp.kind : AOp → Nat
  | .ld .. | .lkp .. | .mln _ | .sob _ => 1
  | .box .. | .st .. | .mks .. | .app .. | .mkm _ | .mup .. | .men .. | .est .. | .del .. | .clr _ | .call .. => 2
  | _ => 0
theorem pure_map {op : AOp} {F : Fr} (H H2 : AHeap) (hk : op.kind = 0) : op.ev F H2 = (op.ev F H).map fun p => (p.1, H2) := by
  cases op <;> simp only [AOp.kind] at hk <;> try (cases hk; done)
  case mm mx x y =>
    simp only [AOp.ev]
    split
    · split <;> rfl
    · rfl
  case len s x => cases s <;> (simp only [AOp.ev]; split <;> rfl)
  case eqn k n x y => rcases k with _ | _ | k <;> (simp only [AOp.ev]; split <;> rfl)
  all_goals
    simp only [AOp.ev]
    first
      | rfl
      | (split <;> rfl)
      | (split <;> first | rfl | (split <;> rfl))
      | (split <;> first | rfl | (split <;> first | rfl | (split <;> rfl)))
      | (split <;> first | rfl | (split <;> first | rfl | (split <;> first | rfl | (split <;> rfl))))
      | (split <;> first | rfl | (simp; rfl))
      | (split <;> first | rfl | (split <;> first | rfl | (simp; rfl)))
theorem pure_ev {op : AOp} {F : Fr} {H H' : AHeap} {v : AV} (hk : op.kind = 0) (h : op.ev F H = some (v, H')) : H' = H ∧ ∀ H2, op.ev F H2 = some (v, H2) := by
  constructor
  · have := pure_map (F := F) H H hk
    rw [h] at this
    simp at this
    exact this
  · intro H2
    rw [pure_map (F := F) H H2 hk, h]
    rfl
theorem read_ev {op : AOp} {F : Fr} {H H' : AHeap} {v : AV} (hk : op.kind = 1) (h : op.ev F H = some (v, H')) : H' = H := by
  cases op <;> simp only [AOp.kind] at hk <;> try (cases hk; done)
  case ld sz ag x =>
    simp only [AOp.ev] at h
    split at h
    · rename_i row off _
      cases hr : ldRow sz ag row off with
      | none => rw [hr] at h; cases h
      | some y => rw [hr] at h; simp at h; exact h.2.symm
    · split at h
      · rename_i cs _ _
        rename_i off _ _ _
        revert h
        generalize ldRow sz ag _ _ = q
        intro h
        cases q with
        | none => cases h
        | some y => simp at h; exact h.2.symm
      · cases h
    · cases h
  case lkp kk z ok m k =>
    simp only [AOp.ev] at h
    split at h
    · split at h
      · split at h
        · split at h <;> (simp at h; exact h.2.symm)
        · cases h
      · cases h
    · simp at h; exact h.2.symm
    · cases h
  case mln m =>
    simp only [AOp.ev] at h
    split at h
    · split at h
      · simp at h; exact h.2.symm
      · cases h
    · simp at h; exact h.2.symm
    · cases h
  case sob x =>
    simp only [AOp.ev] at h
    split at h
    · split at h
      · simp at h; exact h.2.symm
      · cases h
    · cases h
/-! the order is open -/
def AI.reads (i : AI) : List Nat := i.op.tmps ++ (match i.gd with | some (s, _) => [s] | none => [])
theorem AI.want_congr {i : AI} {F F' : Fr} (h : Agr i.reads F F') : i.want F = i.want F' := by
  obtain ⟨gd, dst, op⟩ := i
  cases gd with
  | none => rfl
  | some p =>
    obtain ⟨s, b⟩ := p
    have : Fr.get F s = Fr.get F' s := h s (by simp [AI.reads])
    simp only [AI.want, this]
theorem AI.ev_congr {i : AI} {F F' : Fr} {H : AHeap} (h : Agr i.reads F F') : i.op.ev F H = i.op.ev F' H := AOp.congr h.left
theorem AI.step_congr {P : Program} {i : AI} {F F' : Fr} {H : AHeap} {K : Fr → AHeap → Prop} (h : Agr i.reads F F') (hs : i.step P F' H K) : i.step P F H fun F2 H2 => ∃ v, F2 = Fr.put F i.dst v ∧ K (Fr.put F' i.dst v) H2 := by
  have key : (∀ f args, i.op ≠ .call f args) → i.step P F H fun F2 H2 => ∃ v, F2 = Fr.put F i.dst v ∧ K (Fr.put F' i.dst v) H2 := by
    intro hnc
    have e : i.op.ev F H = i.op.ev F' H := AI.ev_congr h
    unfold AI.step at hs ⊢
    split
    · rename_i f args he; exact absurd he (hnc f args)
    · split at hs
      · rename_i f args he; exact absurd he (hnc f args)
      · rw [e]
        split at hs
        · exact ⟨_, rfl, hs⟩
        · exact hs.elim
  cases hio : i.op with
  | call f args =>
    have ht : Agr (f.tmps ++ args.flatMap AX.tmps) F F' := by
      have := h.left
      rw [hio] at this
      exact this
    unfold AI.step at hs ⊢
    rw [hio] at hs ⊢
    simp only at hs ⊢
    rw [AX.congr ht.left, evs_congr ht.right]
    split at hs
    · exact hs.mono fun r H' hr => ⟨r, rfl, hr⟩
    · exact hs.elim
  | _ => exact key (by intro f args e; rw [hio] at e; cases e)
/-- an instruction that was done early, or late: it yields the same -/
def AI.stable (r : AI) (F : Fr) (H : AHeap) : Prop := match r.want F with
  | some false => True
  | some true => ∃ d, r.dst = some d ∧ r.op.ev F H = some (Fr.get F d, H)
  | none => False
def AWDraw (P : Program) : List (AI × List AI) → Fr → AHeap → (Fr → AHeap → Prop) → Prop
  | [], F, H, K => K F H
  | (i, chk) :: l, F, H, K => match i.want F with
    | some true => i.step P F H fun F' H' => (∀ r ∈ chk, r.stable F' H') ∧ AWDraw P l F' H' K
    | some false => AWDraw P l (Fr.put F i.dst undefA) H K
    | none => False
def dstA (ais : List AI) (i : Nat) : Option Nat := (ais[i]?).bind (·.dst)
def rdsA (ais : List AI) (i : Nat) : List Nat := ((ais[i]?).map AI.reads).getD []
/-- 3: makes a new cell of zeros, whenever -/
def AI.kind (i : AI) : Nat := match i.gd, i.dst, i.op with
  | none, some _, .box _ (.c _) => 3
  | _, _, op => op.kind
def kindA (ais : List AI) (i : Nat) : Nat := ((ais[i]?).map AI.kind).getD 0
/-- what is asked of an order L, of a table of who must stand ahead of whom, and of what is looked at again -/
structure DrawOk (n : Nat) (dirs : List (List Nat)) (ais : List AI) (tab : List (List Nat)) (L : List Nat) (chk : List (List Nat)) : Prop where
  len : L.length = n
  nd : L.Nodup
  alen : ais.length = n
  mem : ∀ i < n, i ∈ L
  lt : ∀ i ∈ L, i < n
  htab : ∀ j < n, ∀ i ∈ tab.getD j [], ∃ k ∈ dirs.getD j [], k < j ∧ (i = k ∨ i ∈ tab.getD k [])
  lin : ∀ j < n, ∀ i ∈ tab.getD j [], i < n ∧ L.idxOf i < L.idxOf j
  dir : ∀ j < n, ∀ i ∈ dirs.getD j [], i < n ∧ L.idxOf i < L.idxOf j
  tmp : ∀ i < n, ∀ j < n, i ≠ j → ∀ d ∈ dstA ais i, (d ∈ rdsA ais j ∨ d ∈ dstA ais j) → i ∈ tab.getD j [] ∨ j ∈ tab.getD i []
  eff : ∀ e < n, 2 ≤ kindA ais e → ∀ j < n, kindA ais j ≠ 3 → L.idxOf e < L.idxOf j → e ∈ tab.getD j []
  own : ∀ e < n, kindA ais e = 3 → ∀ j < n, j ≠ e → ∀ d ∈ dstA ais e, d ∉ dstA ais j
  hchk : ∀ e < n, kindA ais e = 2 → ∀ r < n, kindA ais r = 1 → L.idxOf r < L.idxOf e → r ∉ tab.getD e [] → r ∈ chk.getD e [] ∧ (dstA ais r).isSome = true ∧ (∀ d ∈ dstA ais r, d ∉ rdsA ais r) ∧ ∀ j < n, L.idxOf r < L.idxOf j → L.idxOf j ≤ L.idxOf e → ∀ d ∈ dstA ais j, d ∉ rdsA ais r ∧ d ∉ dstA ais r
theorem AI.kind_cases (i : AI) : (i.kind = 3 ∧ ∃ d E z, i = ⟨none, some d, .box E (.c z)⟩) ∨ i.kind = i.op.kind := by
  obtain ⟨gd, dst, op⟩ := i
  cases gd with
  | some p => right; simp [AI.kind]
  | none =>
    cases dst with
    | none => right; simp [AI.kind]
    | some d =>
      cases op with
      | box E x =>
        cases x with
        | c z => exact .inl ⟨rfl, d, E, z, rfl⟩
        | t n => right; rfl
      | _ => right; rfl
theorem AOp.kind_le (op : AOp) : op.kind ≤ 2 := by cases op <;> simp [AOp.kind]
theorem rowsIn_alloc {H : AHeap} {sz : Nat} {x : AV} {rows : List (List AV)} (o : AObj) (h : rowsIn H sz x = some rows) : rowsIn (H.alloc o) sz x = some rows := by
  cases x with
  | arr id off len cap =>
    simp only [rowsIn] at h ⊢
    split at h
    · rename_i cs E hg
      rw [AHeap.get_alloc_lt (AHeap.lt hg), hg]
      exact h
    · cases h
  | sl tok rows => exact h
  | _ => cases h
theorem read_alloc {op : AOp} {F : Fr} {H : AHeap} {v : AV} (o : AObj) (hk : op.kind = 1) (h : op.ev F H = some (v, H)) : op.ev F (H.alloc o) = some (v, H.alloc o) := by
  cases op <;> simp only [AOp.kind] at hk <;> try (cases hk; done)
  case ld sz ag x =>
    simp only [AOp.ev] at h ⊢
    split at h
    · revert h
      generalize ldRow sz ag _ _ = q
      intro h
      cases q with
      | none => cases h
      | some y => simp at h; subst h; rfl
    · rename_i id off _
      split at h
      · rename_i cs E hg
        rw [AHeap.get_alloc_lt (AHeap.lt hg), hg]
        simp only
        revert h
        generalize ldRow sz ag _ _ = q
        intro h
        cases q with
        | none => cases h
        | some y => simp at h; subst h; rfl
      · cases h
    · cases h
  case lkp kk z ok m k =>
    simp only [AOp.ev] at h ⊢
    split at h
    · rename_i id kv _ _
      split at h
      · rename_i kk' es d hg
        rw [AHeap.get_alloc_lt (AHeap.lt hg), hg]
        simp only
        split at h
        · rename_i hkk
          rw [if_pos hkk]
          split at h <;> (simp at h; subst h; rfl)
        · cases h
      · cases h
    · simp at h; subst h; rfl
    · cases h
  case sob x =>
    simp only [AOp.ev] at h ⊢
    split at h
    · rename_i rows hr
      rw [rowsIn_alloc o hr]
      simp only
      split at h
      · rename_i ns hb
        simp at h
        subst h
        rfl
      · cases h
    · cases h
  case mln m =>
    simp only [AOp.ev] at h ⊢
    split at h
    · split at h
      · rename_i kk es d hg
        rw [AHeap.get_alloc_lt (AHeap.lt hg), hg]
        simp at h; subst h; rfl
      · cases h
    · simp at h; subst h; rfl
    · cases h
end Go.Proofs.Ytgnpihhakogeeaa
