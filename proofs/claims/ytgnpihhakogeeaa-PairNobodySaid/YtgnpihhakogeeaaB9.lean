/- The abstract machine is sound: slice expressions, make. -/
import Derived.Test.YtgnpihhakogeeaaB8
namespace Go.Proofs.Ytgnpihhakogeeaa
set_option linter.unusedSimpArgs false
set_option linter.unusedVariables false
open Go.RowKit

section
variable {P : Program} {g g' : Gh} {H H' : AHeap} {w w' : World} {N : Nat} {F : Fr} {a : Act}
theorem bnd_ok (hF : FR g w N F a) {o : Option Operand} {d l : Nat} (h : bndA F d (o.map cX) = some l) : (o = none ∧ l = d) ∨ ∃ x k n, o = some x ∧ a.eval x = .int k n ∧ 0 ≤ n ∧ l = n.toNat := by
  cases o with
  | none => simp [bndA] at h; exact .inl ⟨rfl, h.symm⟩
  | some x =>
    have hx := cX_ok hF x
    simp only [Option.map_some, bndA] at h
    split at h
    · rename_i k n he
      rw [he] at hx
      split at h
      · rename_i hn
        injection h with h
        refine .inr ⟨x, k, n, rfl, ?_, hn, h.symm⟩
        generalize a.eval x = u at hx ⊢
        cases hx; rfl
      · cases h
    · cases h
theorem run_bounds (hF : FR g w N F a) (isS : Bool) {len cap l h m : Nat} {lo hi mx : Option Operand} (hl : bndA F 0 (lo.map cX) = some l) (hh : bndA F len (hi.map cX) = some h) (hm : (mx = none ∧ m = cap) ∨ (mx.isSome = true ∧ hi.isSome = true ∧ ∀ d, bndA F d (mx.map cX) = some m))
    (h1 : l ≤ h) (h2 : h ≤ m) (h3 : m ≤ cap) : (Instr.sliceBounds isS len cap (lo.map a.eval) (hi.map a.eval) (mx.map a.eval)).run P w = .ok (l, h, m) w := by
  have bl := bnd_ok hF hl
  have bh := bnd_ok hF hh
  have sb : ∀ (k : IntKind) (n : Int) (y : Nat) (code : BoundsCode), 0 ≤ n → n.toNat ≤ y → (Instr.sliceBound (.int k n) y code).run P w = .ok n.toNat w := fun k n y code h0 h1 => run_sliceBound w k n y code h0 (by omega)
  rcases hm with ⟨rfl, rfl⟩ | ⟨hs1, hs2, hm⟩
  · rcases bh with ⟨rfl, rfl⟩ | ⟨x, k, n, rfl, e, hn, rfl⟩
    · rcases bl with ⟨rfl, rfl⟩ | ⟨y, k', n', rfl, e', hn', rfl⟩
      · simp [Instr.sliceBounds]
      · have b1 := fun code => sb k' n' h code hn' h1
        simp [Instr.sliceBounds, e', b1]
    · have b2 := fun code => sb k n m code hn h2
      rcases bl with ⟨rfl, rfl⟩ | ⟨y, k', n', rfl, e', hn', rfl⟩
      · simp [Instr.sliceBounds, e, b2]
      · have b1 := fun code => sb k' n' n.toNat code hn' h1
        simp [Instr.sliceBounds, e, e', b1, b2]
  · have bm := bnd_ok hF (hm 0)
    rcases bm with ⟨rfl, _⟩ | ⟨z, k2, n2, rfl, e2, hn2, rfl⟩
    · cases hs1
    · rcases bh with ⟨rfl, rfl⟩ | ⟨x, k, n, rfl, e, hn, rfl⟩
      · cases hs2
      · have b3 := fun code => sb k2 n2 cap code hn2 h3
        have b2 := fun code => sb k n n2.toNat code hn h2
        rcases bl with ⟨rfl, rfl⟩ | ⟨y, k', n', rfl, e', hn', rfl⟩
        · simp [Instr.sliceBounds, e, e2, b2, b3]
        · have b1 := fun code => sb k' n' n.toNat code hn' h1
          simp [Instr.sliceBounds, e, e', e2, b1, b2, b3]
theorem bnd_any {o : Option AX} {d d' l : Nat} (h : bndA F d o = some l) (ho : o.isSome = true) : bndA F d' o = some l := by
  cases o with
  | none => cases ho
  | some x => exact h
theorem slc_ok (hF : FR g w N F a) (hW : WR g H w) {t e : TypeId} {sz : Nat} {x v : AV} {u : Value} {lo hi mx : Option Operand} (hu : P.underlying t = some (.slice e)) (hs : tySz P e = some sz) (hmh : ¬ (mx.isSome = true ∧ hi.isNone = true)) (hx : VR g w x u)
    (he : AOp.ev F H (.slc sz (.c x) (lo.map cX) (hi.map cX) (mx.map cX)) = some (v, H')) : DoesV P g H w (Instr.sliceAt t u (lo.map a.eval) (hi.map a.eval) (mx.map a.eval)) v H' := by
  simp only [AOp.ev, AX.ev] at he
  have hat : ∀ (u : Value) lo hi mx, (Instr.sliceAt t u lo hi mx).run P w = (Instr.slice t u lo hi mx).run P w := by
    intro u lo hi mx
    simp [Instr.sliceAt, run_underlying hu]
  cases hx with
  | sl tok rows A c sz' b o f hc hm hA hsz hcell hv ht =>
    simp only at he
    split at he
    · rename_i l h m hl hh hmm
      split at he
      · rename_i hle
        obtain ⟨h1, h2, h3, h4⟩ := hle
        simp only [Option.some.injEq, Prod.mk.injEq] at he
        obtain ⟨rfl, rfl⟩ := he
        obtain ⟨M, hM, hMc, hMl⟩ : ∃ M, ((mx = none ∧ M = c) ∨ (mx.isSome = true ∧ hi.isSome = true ∧ ∀ d, bndA F d (mx.map cX) = some M)) ∧ M ≤ c ∧ h ≤ M := by
          cases mx with
          | none => exact ⟨c, .inl ⟨rfl, rfl⟩, Nat.le_refl _, by omega⟩
          | some y =>
            refine ⟨m, .inr ⟨rfl, ?_, fun d => bnd_any hmm rfl⟩, by omega, h2⟩
            cases hi with
            | none => exact absurd ⟨rfl, rfl⟩ hmh
            | some _ => rfl
        have hrun := run_bounds (P := P) hF true hl hh hM h1 hMl hMc
        have hlen : ((rows.take h).drop l).length = h - l := by simp; omega
        refine .here (u := .slice (if M = l then A else A.map (·.add (l * sz))) (h - l) (M - l)) ?_ ?_ hW
        · rw [hat]
          simp [Instr.slice, run_underlying hu, hrun, run_sz hs]
        · rw [← hlen]
          have hget : ∀ i r, ((rows.take h).drop l)[i]? = some r → rows[l + i]? = some r ∧ l + i < h := by
            intro i r hr
            rw [List.getElem?_drop, List.getElem?_take] at hr
            split at hr
            · rename_i hlt; exact ⟨hr, hlt⟩
            · cases hr
          refine .sl _ _ _ (M - l) sz' b (o + l * sz') (fun i j => f (l + i) j) (by omega) (by omega) ?_ ?_ ?_ ?_ ?_
          · intro hne
            have hl2 : l < h := by
              rcases Nat.lt_or_ge l h with h' | h'
              · exact h'
              · exact absurd (List.eq_nil_of_length_eq_zero (by omega)) hne
            have hA' := hA (by rintro rfl; simp at h3; omega)
            rw [if_neg (by omega), hA']
            simp only [Option.map_some, addr_add, Option.some.injEq]
            rcases h4 with rfl | h4
            · simp
            · have hr0 : 0 < rows.length := by omega
              have e1 : rows[0].length = sz := by simpa using List.all_eq_true.1 h4 _ (List.getElem_mem hr0)
              have e2 := (hsz _ (List.getElem_mem hr0)).1
              rw [← e1, e2]
          · intro r hr
            exact hsz r (List.mem_of_mem_take (List.mem_of_mem_drop hr))
          · intro i r j y hr hy
            obtain ⟨hr', _⟩ := hget i r hr
            have := hcell _ r j y hr' hy
            have e1 : o + (l + i) * sz' + j = o + l * sz' + i * sz' + j := by rw [Nat.add_mul]; omega
            rw [e1] at this
            exact this
          · intro i r j y hr hy
            exact hv _ r j y (hget i r hr).1 hy
          · rw [hlen]
            unfold sliceTok
            cases mx with
            | some y =>
              simp only [Option.map_some]
              split
              · rename_i e0
                rcases hM with ⟨h', _⟩ | ⟨_, _, h'⟩
                · cases h'
                · have := h' (rows.length)
                  rw [hmm] at this
                  injection this with this
                  show M - l = h - l
                  omega
              · trivial
            | none =>
              simp only [Option.map_none]
              have hMc' : M = c := by
                rcases hM with ⟨_, h'⟩ | ⟨h', _⟩
                · exact h'
                · cases h'
              subst hMc'
              split
              · rename_i h0
                obtain ⟨rfl, rfl⟩ := h0
                simp only [Nat.zero_mul, Nat.sub_zero]
                have eA : (if M = 0 then A else A.map (·.add 0)) = A := by
                  split
                  · rfl
                  · cases A with
                    | none => rfl
                    | some ad => simp [Addr.add]
                rw [eA]
                exact ht
              · split
                · rename_i h0 hn
                  subst hn
                  cases tok with
                  | full =>
                    have : M = rows.length := ht
                    show M - l = rows.length - l
                    omega
                  | no => trivial
                  | own id => trivial
                · trivial
      · cases he
    · cases he
  | arr id off len cap b hid hc hm =>
    simp only at he
    split at he
    · rename_i l h m hl hh hmm
      split at he
      · rename_i hle
        obtain ⟨h1, h2, h3⟩ := hle
        have hM : (mx = none ∧ m = cap) ∨ (mx.isSome = true ∧ hi.isSome = true ∧ ∀ d, bndA F d (mx.map cX) = some m) := by
          cases mx with
          | none => simp [bndA] at hmm; exact .inl ⟨rfl, hmm.symm⟩
          | some y =>
            refine .inr ⟨rfl, ?_, fun d => bnd_any hmm rfl⟩
            cases hi with
            | none => exact absurd ⟨rfl, rfl⟩ hmh
            | some _ => rfl
        have hrun := run_bounds (P := P) hF true hl hh hM h1 h2 h3
        have hfull : (Instr.sliceAt t (.slice (some ⟨b, off, none⟩) len cap) (lo.map a.eval) (hi.map a.eval) (mx.map a.eval)).run P w = .ok (.slice (if m = l then some ⟨b, off, none⟩ else (some ⟨b, off, none⟩ : Option Addr).map (·.add (l * sz))) (h - l) (m - l)) w := by
          rw [hat]
          simp [Instr.slice, run_underlying hu, hrun, run_sz hs]
        split at he
        · rename_i hml
          simp only [Option.some.injEq, Prod.mk.injEq] at he
          obtain ⟨rfl, rfl⟩ := he
          refine .here hfull ?_ hW
          have e0 : h - l = 0 := by omega
          have e1 : m - l = 0 := by omega
          rw [e0, e1]
          exact VR.sl .full [] _ 0 0 0 0 (fun _ _ => undef) (Nat.le_refl _) (by unfold maxLen; omega) (fun h => absurd rfl h) (fun r h => by cases h) (fun i r j x h => by simp at h) (fun i r j x h => by simp at h) rfl
        · rename_i hml
          simp only [Option.some.injEq, Prod.mk.injEq] at he
          obtain ⟨rfl, rfl⟩ := he
          refine .here hfull ?_ hW
          rw [if_neg hml]
          simp only [Option.map_some, addr_add]
          exact .arr id _ _ _ b hid (by omega) (by omega)
      · cases he
    · cases he
  | _ => cases he
theorem slS_ok (hF : FR g w N F a) (hW : WR g H w) {t : TypeId} {x v : AV} {u : Value} {lo hi : Option Operand} (hu : P.underlying t = some .string) (hx : VR g w x u)
    (he : AOp.ev F H (.slS (.c x) (lo.map cX) (hi.map cX)) = some (v, H')) : DoesV P g H w (Instr.sliceAt t u (lo.map a.eval) (hi.map a.eval) none) v H' := by
  simp only [AOp.ev, AX.ev] at he
  cases hx with
  | sc u =>
    cases u with
    | string s =>
      simp only at he
      split at he
      · rename_i l h hl hh
        split at he
        · rename_i hle
          simp only [Option.some.injEq, Prod.mk.injEq] at he
          obtain ⟨rfl, rfl⟩ := he
          have hrun := run_bounds (P := P) hF (mx := none) false hl hh (.inl ⟨rfl, rfl⟩) hle.1 hle.2 (Nat.le_refl _)
          simp only [Option.map_none] at hrun
          exact .here (by simp [Instr.sliceAt, Instr.slice, run_underlying hu, hrun]) (.sc _) hW
        · cases he
      · cases he
    | _ => cases he
  | _ => cases he
theorem cvs_ok (hW : WR g H w) {src dst : TypeId} {x v : AV} {u : Value} (h1 : P.underlying src = some .string) (h2 : P.underlying dst = some .string) (hx : VR g w x u) (he : AOp.ev F H (.cvs (.c x)) = some (v, H')) : DoesV P g H w (convert src dst u) v H' := by
  simp only [AOp.ev, AX.ev] at he
  cases hx with
  | sc u =>
    cases u with
    | string s =>
      simp only [Option.some.injEq, Prod.mk.injEq] at he
      obtain ⟨rfl, rfl⟩ := he
      exact .here (by simp [convert, run_underlying h1, run_underlying h2]) (.sc _) hW
    | _ => cases he
  | _ => cases he

/-- a token, and where its row lies -/
def Gh.tok (g : Gh) (id n cap b sz : Nat) : Gh := { g with τ := fun i => if i = id then some (n, cap, b) else g.τ i, RO := fun b' j => g.RO b' j ∨ (b' = b ∧ j < n * sz ∧ 0 < cap) }
theorem le_tok (hW : WR g H w) {id n cap b sz : Nat} (hid : ∀ fr c b', g.τ id = some (fr, c, b') → fr < n ∨ (n = fr ∧ cap = c ∧ b = b')) (hcell : ∀ b' j, g.RO b' j → w'.cell? ⟨b', j, none⟩ = w.cell? ⟨b', j, none⟩) : g.le (g.tok id n cap b sz) w w' := by
  refine ⟨fun _ _ h => h, fun i fr c b' h => ?_, fun _ _ _ h => h, fun _ _ h => .inl h, fun b' j h => hcell b' j h⟩
  by_cases e : i = id
  · subst e
    refine ⟨n, cap, b, by simp [Gh.tok], hid fr c b' h⟩
  · exact ⟨fr, c, b', by simp [Gh.tok, e, h], .inr ⟨rfl, rfl, rfl⟩⟩
/-- a new row that may be appended to, in a new block -/
theorem new_tok (hW : WR g H w) {n cap b E sz : Nat} {carr : Array Value} (hgr : w.grownBy w' none) (hb : w.heap.size ≤ b) (hbl : w'.heap[b]? = some (.cells carr E (0, 0))) (hcs : carr.size = cap * sz) (hnc : n ≤ cap) (hcm : cap ≤ maxLen) :
    WR (g.tok H.next n cap b sz) (H.alloc (.tok n E sz)) w' ∧ Stp g H w (g.tok H.next n cap b sz) (H.alloc (.tok n E sz)) w' := by
  have hdom := hW.dom H.next (Nat.le_refl _)
  have hold : ∀ b', b' < w.heap.size → w'.heap[b']? = w.heap[b']? := fun b' h => hgr.block b' h (by simp)
  have hle : g.le (g.tok H.next n cap b sz) w w' := le_tok hW (fun fr c b' h => by rw [hdom.2.1] at h; cases h) (fun b' j h => cell?_block (hold b' (hW.ro b' j h)) j)
  have hlt : b < w'.heap.size := (Array.getElem?_eq_some_iff.1 hbl).1
  have hown : ∀ id o' b', id < H.next → (Owns (g.tok H.next n cap b sz) id o' b' ↔ Owns g id o' b') := fun id o' b' hl => Owns.le (by simp [Gh.tok]; omega) rfl
  have hnew : ∀ b', Owns (g.tok H.next n cap b sz) H.next (.tok n E sz) b' → b' = b ∧ 0 < cap := by
    rintro b' ⟨fr, c, h, hc⟩
    simp [Gh.tok] at h
    omega
  have hget : ∀ id o', (H.alloc (.tok n E sz)).get id = some o' → (id = H.next ∧ o' = .tok n E sz) ∨ (id < H.next ∧ H.get id = some o') := by
    intro id o' h
    by_cases e : id = H.next
    · subst e; rw [AHeap.get_alloc_self] at h; injection h with h; exact .inl ⟨rfl, h.symm⟩
    · rw [AHeap.get_alloc_ne e] at h; exact .inr ⟨AHeap.lt h, h⟩
  refine ⟨⟨fun id o' h => ?_, fun id id' o1 o2 b' h1 h2 h3 h4 => ?_, fun id hid => ?_, fun id o' b' h1 h2 => ?_, fun b' j h => ?_⟩, ⟨hle, Nat.le_succ _, hgr.os, hgr.tape, hgr.output, hgr.size, fun b' hb' _ => hold b' hb', fun b' hb' ⟨id, o', h1, h2⟩ => ?_, fun b' j hb' h => by
      rcases h with h | ⟨rfl, _⟩
      · exact .inl h
      · omega⟩⟩
  · rcases hget id o' h with ⟨rfl, rfl⟩ | ⟨hl, h⟩
    · refine ⟨cap, b, by simp [Gh.tok], hnc, hcm, fun hc => ⟨carr, hbl, hcs, fun j hj hr => ?_⟩⟩
      rcases hr with hr | ⟨_, hr, _⟩
      · have := hW.ro _ _ hr; omega
      · omega
    · refine (hW.obj id o' h).mono hle (fun b' hb' => hold b' (hW.bd id o' b' h hb')) (fun b' j hb' hr => ?_) (by simp [Gh.tok]; omega) rfl (fun _ => rfl)
      rcases hr with hr | ⟨rfl, _⟩
      · exact hr
      · have := hW.bd id o' _ h hb'; omega
  · rcases hget id o1 h1 with ⟨e1, e2⟩ | ⟨hl, k1⟩
    · rcases hget id' o2 h2 with ⟨e3, _⟩ | ⟨hl2, k2⟩
      · omega
      · have e := hnew b' (by have h := h3; rw [e1, e2] at h; exact h)
        have := hW.bd id' o2 b' k2 ((hown id' o2 b' hl2).1 h4)
        omega
    · rcases hget id' o2 h2 with ⟨e3, e4⟩ | ⟨hl2, k2⟩
      · have e := hnew b' (by have h := h4; rw [e3, e4] at h; exact h)
        have := hW.bd id o1 b' k1 ((hown id o1 b' hl).1 h3)
        omega
      · exact hW.inj id id' o1 o2 b' k1 k2 ((hown id o1 b' hl).1 h3) ((hown id' o2 b' hl2).1 h4)
  · simp only [AHeap.next_alloc] at hid
    have h := hW.dom id (by omega)
    refine ⟨h.1, ?_, h.2.2⟩
    simp [Gh.tok, h.2.1]; omega
  · rcases hget id o' h1 with ⟨rfl, rfl⟩ | ⟨hl, h1⟩
    · rw [(hnew b' h2).1]; exact hlt
    · have := hW.bd id o' b' h1 ((hown id o' b' hl).1 h2)
      have := hgr.size; omega
  · rcases h with h | ⟨rfl, _⟩
    · have := hW.ro b' j h; have := hgr.size; omega
    · exact hlt
  · rcases hget id o' h1 with ⟨rfl, rfl⟩ | ⟨hl, h1⟩
    · have := (hnew b' h2).1; omega
    · exact ⟨id, o', h1, (hown id o' b' hl).1 h2⟩
theorem made_rows (z : Array Value) (n : Nat) (h0 : 0 < z.size) : (madeCells z (n * z.size)).toList = (List.replicate n z.toList).flatten := by
  apply List.ext_getElem?
  intro j
  have hl : ∀ r ∈ List.replicate n z.toList, r.length = z.size := by
    intro r hr
    rw [(List.mem_replicate.1 hr).2]; simp
  rw [flatGet hl h0]
  by_cases hj : j < n * z.size
  · have hi : j / z.size < n := Nat.div_lt_of_lt_mul (by rw [Nat.mul_comm]; exact hj)
    have hm : j % z.size < z.size := Nat.mod_lt _ h0
    simp [madeCells, hj, hi, hm]
  · have hi : ¬ j / z.size < n := by
      intro h
      exact hj ((Nat.div_lt_iff_lt_mul h0).1 h)
    simp [madeCells, hj, hi]
theorem VRs.rep {cs : List AV} {vs : List Value} (h : VRs g w cs vs) : ∀ n, VRs g w (List.replicate n cs).flatten (List.replicate n vs).flatten
  | 0 => .nil
  | n + 1 => by
    simp only [List.replicate_succ, List.flatten_cons]
    exact h.app (h.rep n)
theorem mks_ok (hW : WR g H w) {t e : TypeId} {i : TypeInfo} {z : Value} {zc : List AV} {x y v : AV} {u r : Value} (hu : P.underlying t = some (.slice e)) (hi : P.info? e = some i) (hz : i.zero = some z) (hzc : (ofConst z).cells = some zc) (h0 : 0 < i.size) (hzs : z.cells.size = i.size) (hx : VR g w x u) (hy : VR g w y r)
    (he : AOp.ev F H (.mks e i.size i.bytes zc (.c x) (.c y)) = some (v, H')) : DoesV P g H w (Instr.makeSlice t u r) v H' := by
  simp only [AOp.ev, AX.ev] at he
  split at he
  · rename_i ln cn
    cases hx; cases hy
    split at he
    · rename_i hc
      obtain ⟨h1, h2, h3, h4⟩ := hc
      have h63 : cn ≤ 9223372036854775807 := by unfold maxLen at h3; omega
      have hby : (i.bytes : Int) * cn ≤ 281474976710656 := by
        have e1 : cn = (cn.toNat : Int) := by omega
        rw [e1]
        have e2 : (i.bytes : Int) * (cn.toNat : Int) = ((cn.toNat * i.bytes : Nat) : Int) := by simp [Int.mul_comm]
        rw [e2]; omega
      have hrun := run_make (P := P) w t e i z hu hi hz .i64 .i64 ln cn h1 h2 hby h63
      split at he
      · rename_i hc0
        simp only [Option.some.injEq, Prod.mk.injEq] at he
        obtain ⟨rfl, rfl⟩ := he
        obtain ⟨k1, k2⟩ := new_tree hW (.cells (madeCells z.cells (cn.toNat * i.size)) e)
        have hl0 : ln = 0 := by omega
        subst hc0 hl0
        exact ⟨_, _, _, hrun, VR.sl .full [] _ 0 0 0 0 (fun _ _ => undef) (Nat.le_refl _) (by unfold maxLen; omega) (fun h => absurd rfl h) (fun r h => by cases h) (fun i r j x h => by simp at h) (fun i r j x h => by simp at h) rfl, k1, k2⟩
      · split at he
        · rename_i hc0 hlc
          subst hlc
          simp only [Option.some.injEq, Prod.mk.injEq] at he
          obtain ⟨rfl, rfl⟩ := he
          obtain ⟨hzv, hz1⟩ := (ofConst_ok (g := g) (w := w) z).cells hzc
          have hV : VRs g w (List.replicate ln.toNat zc).flatten (madeCells z.cells (ln.toNat * i.size)).toList := by
            rw [← hzs, made_rows _ _ (by omega)]
            exact hzv.rep _
          obtain ⟨k1, k2, k3⟩ := new_cells hW e hV (by
            intro q hq
            obtain ⟨l, hl, hql⟩ := List.mem_flatten.1 hq
            rw [(List.mem_replicate.1 hl).2] at hql
            exact hz1 q hql)
          refine ⟨_, _, _, hrun, ?_, k1, k2⟩
          cases k3 with
          | ptr _ _ _ h => exact .arr _ _ _ _ _ h (Nat.le_refl _) h3
        · split at he
          · rename_i hc0 hlc hl0
            subst hl0
            simp only [Option.some.injEq, Prod.mk.injEq] at he
            obtain ⟨rfl, rfl⟩ := he
            have hgr : w.grownBy (w.alloc (.cells (madeCells z.cells (cn.toNat * i.size)) e)) none := ⟨rfl, rfl, rfl, by simp, fun k hk _ => heap_alloc_old w _ hk⟩
            obtain ⟨k1, k2⟩ := new_tok (n := 0) hW hgr (Nat.le_refl _) (heap_alloc_new w _) (by rw [size_madeCells]) (Nat.zero_le _) h3
            refine ⟨_, _, _, hrun, ?_, k1, k2⟩
            exact VR.sl (.own H.next) [] _ cn.toNat 0 0 0 (fun _ _ => undef) (Nat.zero_le _) h3 (fun h => absurd rfl h) (fun r h => by cases h) (fun i r j x h => by simp at h) (fun i r j x h => by simp at h) ⟨0, cn.toNat, w.heap.size, by simp [Gh.tok], Nat.le_refl _, fun _ => ⟨rfl, fun _ => rfl⟩⟩
          · cases he
    · cases he
  · cases he
end
end Go.Proofs.Ytgnpihhakogeeaa
