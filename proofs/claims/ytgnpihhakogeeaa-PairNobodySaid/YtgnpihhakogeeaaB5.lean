/- The abstract machine is sound: boxes, stores, addresses, parts, numbers. -/
import Derived.Test.YtgnpihhakogeeaaB4
namespace Go.Proofs.Ytgnpihhakogeeaa
set_option linter.unusedSimpArgs false
set_option linter.unusedVariables false
open Go.RowKit

def DoesV (P : Program) (g : Gh) (H : AHeap) (w : World) (s : Sem Value) (v : AV) (H' : AHeap) : Prop :=
  ∃ u w' g', s.run P w = .ok u w' ∧ VR g' w' v u ∧ WR g' H' w' ∧ Stp g H w g' H' w'
def DoesU (P : Program) (g : Gh) (H : AHeap) (w : World) (s : Sem Unit) (H' : AHeap) : Prop :=
  ∃ w' g', s.run P w = .ok () w' ∧ WR g' H' w' ∧ Stp g H w g' H' w'
section
variable {P : Program} {g g' : Gh} {H H' : AHeap} {w w' : World} {N : Nat} {F : Fr} {a : Act}
theorem DoesV.does {s : Sem Value} {v : AV} (h : DoesV P g H w s v H') : Does P g H w (do pure (Next.value (← s)) : Sem Next) v H' := by
  obtain ⟨u, w', g', h1, h2, h3, h4⟩ := h
  exact ⟨_, u, w', g', run_v h1, .inl rfl, h2, h3, h4⟩
theorem DoesU.does {s : Sem Unit} (h : DoesU P g H w s H') : Does P g H w (do s; pure Next.skip : Sem Next) undefA H' := by
  obtain ⟨w', g', h1, h2, h3⟩ := h
  exact ⟨_, undef, w', g', run_u h1, .inr ⟨rfl, rfl⟩, .sc _, h2, h3⟩
theorem DoesV.here {s : Sem Value} {u : Value} {v : AV} (h : s.run P w = .ok u w) (hv : VR g w v u) (hW : WR g H w) : DoesV P g H w s v H := ⟨u, w, g, h, hv, hW, .refl _ _ _⟩

theorem VRs.drop {as : List AV} {vs : List Value} (h : VRs g w as vs) (i : Nat) : VRs g w (as.drop i) (vs.drop i) :=
  ⟨by simp [h.1], fun j x u hx hu => by rw [List.getElem?_drop] at hx hu; exact h.2 _ x u hx hu⟩
theorem VRs.take {as : List AV} {vs : List Value} (h : VRs g w as vs) (n : Nat) : VRs g w (as.take n) (vs.take n) := by
  have := h.cut 0 n
  simpa using this
theorem box_ok (hW : WR g H w) {E : TypeId} {x v : AV} {u : Value} (hx : VR g w x u) (he : AOp.ev F H (.box E (.c x)) = some (v, H')) : DoesV P g H w (Instr.box E u) v H' := by
  simp only [AOp.ev, AX.ev] at he
  cases hc : x.cells with
  | none => rw [hc] at he; cases he
  | some cs =>
    rw [hc] at he
    simp at he
    obtain ⟨rfl, rfl⟩ := he
    obtain ⟨h1, h2⟩ := hx.cells hc
    obtain ⟨h3, h4, h5⟩ := new_cells hW E h1 h2
    exact ⟨_, _, _, by simp [Instr.box, newVar, newRow], h5, h3, h4⟩
theorem st_ok (hW : WR g H w) {t : TypeId} {sz : Nat} {x y v : AV} {u r : Value} (hs : tySz P t = some sz) (hx : VR g w x u) (hy : VR g w y r) (he : AOp.ev F H (.st sz (.c x) (.c y)) = some (v, H')) : v = undefA ∧ DoesU P g H w (Instr.storeAt t u r) H' := by
  simp only [AOp.ev, AX.ev] at he
  cases hx with
  | ptr id off b h =>
    cases hc : y.cells with
    | none => rw [hc] at he; cases he
    | some vs =>
      rw [hc] at he
      simp only at he
      cases ho : H.get id with
      | none => rw [ho] at he; cases he
      | some o =>
        rw [ho] at he
        cases o with
        | tok n E s => cases he
        | map kk es d => cases he
        | cells cs E =>
          simp only at he
          split at he
          · rename_i hle
            simp at he
            obtain ⟨rfl, rfl⟩ := he
            obtain ⟨hvs, hones⟩ := hy.cells hc
            obtain ⟨b', carr, h1, h2, h3, h4, h5⟩ := hW.obj id _ ho
            rw [h] at h1
            injection h1 with h1
            subst h1
            have hl1 : r.cells.size = sz := by have := hvs.1; simp at this; omega
            have hl2 : carr.size = cs.length := by have := h3.1; simp at this; omega
            have hrun := run_storeCells_at P b off E r.cells.toList 0 carr w h2 (by simp; omega) (hvs.ones hones)
            simp only [Nat.add_zero] at hrun
            refine ⟨rfl, w.setRow b (carr.toList.take off ++ r.cells.toList ++ carr.toList.drop (off + r.cells.toList.length)).toArray, g, by simp [Instr.storeAt, Instr.sureAddr, storeVar, run_sz hs, hl1, hrun], ?_⟩
            refine set_obj hW ho (b := b) h (fun b' => Iff.rfl) (fun b' hb' => setRow_other w b b' _ hb') (by simp [World.setRow]) rfl rfl rfl (fun j hj => absurd hj (h5 j)) (fun hle2 => ?_)
            refine ⟨b, _, h, setRow_heap w b carr _ E _ h2, ?_, ?_, h5⟩
            · have e : splice cs off vs = cs.take off ++ vs ++ cs.drop (off + vs.length) := rfl
              rw [e]
              have hvl : vs.length = r.cells.toList.length := hvs.1
              rw [hvl]
              exact (((h3.mono hle2).take off).app (hvs.mono hle2)).app ((h3.mono hle2).drop (off + r.cells.toList.length))
            · intro z hz
              unfold splice at hz
              simp only [List.mem_append] at hz
              rcases hz with (hz | hz) | hz
              · exact h4 z (List.mem_of_mem_take hz)
              · exact hones z hz
              · exact h4 z (List.mem_of_mem_drop hz)
          · cases he
  | _ => simp at he
theorem nck_ok (hW : WR g H w) {x v : AV} {u : Value} (hx : VR g w x u) (he : AOp.ev F H (.nck (.c x)) = some (v, H')) (o : Oper) (y : Operand) (ho : o.op = .nilCheck y) (hy : a.eval y = u) : Does P g H w (execOp a.eval o) v H' := by
  simp only [AOp.ev, AX.ev] at he
  have hd : execOp a.eval o = pure (Next.value u) → v = x → H' = H → Does P g H w (execOp a.eval o) v H' := by
    intro h1 h2 h3
    subst h2 h3
    rw [h1]
    exact .pure hx hW
  cases hx with
  | ptr id off b h => simp at he; exact hd (by simp [execOp, ho, hy]) he.1.symm he.2.symm
  | el row off b base f h1 h2 h3 => simp at he; exact hd (by simp [execOp, ho, hy]) he.1.symm he.2.symm
  | fn f first caps vf vc h1 h2 h3 h4 => simp at he; exact hd (by simp [execOp, ho, hy]) he.1.symm he.2.symm
  | _ => cases he
theorem fla_ok (hW : WR g H w) {s : TypeId} {fs : Array Field} {fi : Nat} {fd : Field} {sz : Nat} {x v : AV} {u : Value} (hu : P.underlying s = some (.struct fs)) (hf : fs[fi]? = some fd) (hs : tySz P fd.type = some sz) (h0 : sz ≠ 0) (hx : VR g w x u)
    (he : AOp.ev F H (.fla fd.offset (.c x)) = some (v, H')) : DoesV P g H w (Instr.fieldAt s u fi) v H' := by
  simp only [AOp.ev, AX.ev] at he
  cases hx with
  | ptr id off b h =>
    simp at he
    obtain ⟨rfl, rfl⟩ := he
    refine .here (u := .pointer (some ⟨b, off + fd.offset, none⟩)) ?_ (.ptr id _ b h) hW
    simp [Instr.fieldAt, run_underlying hu, hf, Instr.sureAddr, fieldPlace, run_sz hs, h0, addr_add]
  | el row off b base f h1 h2 h3 =>
    simp at he
    obtain ⟨rfl, rfl⟩ := he
    refine .here (u := .pointer (some ⟨b, base + (off + fd.offset), none⟩)) ?_ (.el row _ b base f h1 h2 h3) hW
    simp [Instr.fieldAt, run_underlying hu, hf, Instr.sureAddr, fieldPlace, run_sz hs, h0, addr_add, Nat.add_assoc]
  | _ => cases he
theorem part_ok {t : TypeId} {sz : Nat} {ag : Bool} {cs : List AV} {vs : Array Value} {off : Nat} {v : AV} (hs : tySz P t = some sz) (ha : tyAgg P t = some ag) (h : VR g w (.agg cs) (.agg vs)) (hv : ldRow sz ag cs off = some v) :
    ∃ u, (part t vs off).run P w = .ok u w ∧ VR g w v u := by
  cases h with
  | agg _ _ hl hone hval =>
  unfold ldRow at hv
  have hV : VRs g w cs vs.toList := ⟨by simpa using hl, fun i x u hx hu => hval i x u hx (by simpa using hu)⟩
  cases ag with
  | false =>
    simp only [cond_false] at hv
    obtain ⟨u, hu, hr⟩ := hV.get hv
    have hu' : vs[off]? = some u := by simpa using hu
    exact ⟨u, by simp [part, run_isAgg ha, hu'], hr⟩
  | true =>
    simp only [cond_true] at hv
    split at hv
    · rename_i hle
      injection hv with hv
      subst hv
      refine ⟨.agg (vs.extract off (off + sz)), by simp [part, run_isAgg ha, run_sz hs], .agg _ _ ?_ ?_ ?_⟩
      · simp; omega
      · intro x hx
        exact hone x (List.mem_of_mem_drop (List.mem_of_mem_take hx))
      · intro i x u hx hu
        rw [List.getElem?_take] at hx
        split at hx
        · rw [List.getElem?_drop] at hx
          refine hval (off + i) x u hx ?_
          rw [Array.getElem?_extract] at hu
          split at hu
          · exact hu
          · cases hu
        · cases hx
    · cases hv
theorem fld_ok (hW : WR g H w) {t : TypeId} {fs : Array Field} {fi : Nat} {fd : Field} {sz : Nat} {ag : Bool} {x v : AV} {u : Value} (hu : P.underlying t = some (.struct fs)) (hf : fs[fi]? = some fd) (hs : tySz P fd.type = some sz) (ha : tyAgg P fd.type = some ag) (hx : VR g w x u)
    (he : AOp.ev F H (.fld fd.offset sz ag (.c x)) = some (v, H')) : DoesV P g H w (Instr.field t u fi) v H' := by
  simp only [AOp.ev, AX.ev] at he
  have hx' := hx
  cases hx with
  | agg cs vs h1 h2 h3 =>
    simp only at he
    cases hr : ldRow sz ag cs fd.offset with
    | none => rw [hr] at he; cases he
    | some y =>
      rw [hr] at he
      simp at he
      obtain ⟨rfl, rfl⟩ := he
      obtain ⟨r, h4, h5⟩ := part_ok (P := P) hs ha hx' hr
      exact .here (by simp [Instr.field, run_underlying hu, hf, asAgg, h4]) h5 hW
  | _ => cases he
theorem ixv_ok (hW : WR g H w) {t e : TypeId} {n sz : Nat} {ag : Bool} {x i v : AV} {u r : Value} (hu : P.underlying t = some (.array n e)) (hs : tySz P e = some sz) (ha : tyAgg P e = some ag) (hx : VR g w x u) (hi : VR g w i r)
    (he : AOp.ev F H (.ixv n sz ag (.c x) (.c i)) = some (v, H')) : DoesV P g H w (Instr.index t u r) v H' := by
  simp only [AOp.ev, AX.ev] at he
  have hx' := hx
  cases hx with
  | agg cs vs h1 h2 h3 =>
    cases hi with
    | sc r =>
      cases r with
      | int k j =>
        simp only at he
        split at he
        · rename_i hj
          cases hr : ldRow sz ag cs (j.toNat * sz) with
          | none => rw [hr] at he; cases he
          | some y =>
            rw [hr] at he
            simp at he
            obtain ⟨rfl, rfl⟩ := he
            obtain ⟨q, h4, h5⟩ := part_ok (P := P) hs ha hx' hr
            exact .here (by simp [Instr.index, asIntOf, run_underlying hu, hj, run_sz hs, h4]) h5 hW
        · cases he
      | _ => cases he
    | _ => cases he
  | _ => cases he
theorem ixs_ok (hW : WR g H w) {t : TypeId} {x i v : AV} {u r : Value} (hu : P.underlying t = some .string) (hx : VR g w x u) (hi : VR g w i r)
    (he : AOp.ev F H (.ixs (.c x) (.c i)) = some (v, H')) : DoesV P g H w (Instr.index t u r) v H' := by
  simp only [AOp.ev, AX.ev] at he
  cases hx with
  | sc u =>
    cases hi with
    | sc r =>
      cases u with
      | string s =>
        cases r with
        | int k j =>
          simp only at he
          split at he
          · rename_i hj
            cases hb : s[j.toNat]? with
            | none => rw [hb] at he; cases he
            | some b =>
              rw [hb] at he
              simp at he
              obtain ⟨rfl, rfl⟩ := he
              exact .here (by simp [Instr.index, asIntOf, run_underlying hu, hj, hb]) (.sc _) hW
          · cases he
        | _ => cases he
      | _ => simp at he
    | _ => cases u <;> cases he
  | _ => cases he
theorem ext_ok (hW : WR g H w) {x v : AV} {u : Value} {i : Nat} (hx : VR g w x u) (he : AOp.ev F H (.ext (.c x) i) = some (v, H')) : DoesV P g H w (Instr.extract u i) v H' := by
  simp only [AOp.ev, AX.ev] at he
  cases hx with
  | tup cs vs hl hv =>
    simp only at he
    cases hr : cs[i]? with
    | none => rw [hr] at he; cases he
    | some y =>
      rw [hr] at he
      simp at he
      obtain ⟨rfl, rfl⟩ := he
      have hi : i < vs.size := by rw [← hl]; exact (List.getElem?_eq_some_iff.1 hr).1
      exact .here (u := vs[i]) (by simp [Instr.extract, hi]) (hv i _ _ hr (Array.getElem?_eq_getElem hi)) hW
  | _ => cases he
theorem ixa_ok (hW : WR g H w) {t e : TypeId} {sz : Nat} {x i v : AV} {u r : Value} (hu : P.underlying t = some (.slice e)) (hs : tySz P e = some sz) (hx : VR g w x u) (hi : VR g w i r)
    (he : AOp.ev F H (.ixa sz (.c x) (.c i)) = some (v, H')) : DoesV P g H w (Instr.indexAt t u r) v H' := by
  simp only [AOp.ev, AX.ev] at he
  cases hx with
  | sl tok rows A c sz' b o f hc hm hA hsz hcell hv ht =>
    cases hi with
    | sc r =>
      cases r with
      | int k j =>
        simp only at he
        split at he
        · rename_i hj
          cases hr : rows[j.toNat]? with
          | none => rw [hr] at he; cases he
          | some row =>
            rw [hr] at he
            simp only at he
            split at he
            · rename_i hl
              simp at he
              obtain ⟨rfl, rfl⟩ := he
              have hlt := (List.getElem?_eq_some_iff.1 hr).1
              have hmem : row ∈ rows := List.mem_of_getElem? hr
              have e1 : sz' = sz := by rw [← hl]; exact ((hsz row hmem).1).symm
              subst e1
              have hA' := hA (by rintro rfl; simp at hr)
              subst hA'
              have hj2 : j < (rows.length : Int) := by omega
              refine .here (u := .pointer (some ⟨b, o + j.toNat * sz' + 0, none⟩)) ?_ (.el row 0 b (o + j.toNat * sz') (fun q => f j.toNat q) (hsz row hmem).2 (fun q x hq => hcell _ row q x hr hq) (fun q x hq => hv _ row q x hr hq)) hW
              simp [Instr.indexAt, asIntOf, run_underlying hu, hj, hj2, run_sz hs, addr_add]
            · cases he
        · cases he
      | _ => cases he
    | _ => cases he
  | arr id off len cap b h hc hm =>
    cases hi with
    | sc r =>
      cases r with
      | int k j =>
        simp only at he
        split at he
        · rename_i hj
          simp at he
          obtain ⟨rfl, rfl⟩ := he
          refine .here (u := .pointer (some ⟨b, off + j.toNat * sz, none⟩)) ?_ (.ptr id _ b h) hW
          simp [Instr.indexAt, asIntOf, run_underlying hu, hj.1, hj.2, run_sz hs, addr_add]
        · cases he
      | _ => cases he
    | _ => cases he
  | _ => cases he
theorem ixA_ok (hW : WR g H w) {t e : TypeId} {n sz : Nat} {x i v : AV} {u r : Value} (hu : P.underlying t = some (.array n e)) (hs : tySz P e = some sz) (hx : VR g w x u) (hi : VR g w i r)
    (he : AOp.ev F H (.ixA n sz (.c x) (.c i)) = some (v, H')) : DoesV P g H w (Instr.indexAt t u r) v H' := by
  simp only [AOp.ev, AX.ev] at he
  cases hx with
  | ptr id off b h =>
    cases hi with
    | sc r =>
      cases r with
      | int k j =>
        simp only at he
        split at he
        · rename_i hj
          simp at he
          obtain ⟨rfl, rfl⟩ := he
          refine .here (u := .pointer (some ⟨b, off + j.toNat * sz, none⟩)) ?_ (.ptr id _ b h) hW
          simp [Instr.indexAt, asIntOf, run_underlying hu, hj.1, hj.2, run_sz hs, addr_add, Instr.sureAddr]
        · cases he
      | _ => cases he
    | _ => cases he
  | el row off b base f h1 h2 h3 =>
    cases hi with
    | sc r =>
      cases r with
      | int k j =>
        simp only at he
        split at he
        · rename_i hj
          simp at he
          obtain ⟨rfl, rfl⟩ := he
          refine .here (u := .pointer (some ⟨b, base + (off + j.toNat * sz), none⟩)) ?_ (.el row _ b base f h1 h2 h3) hW
          simp [Instr.indexAt, asIntOf, run_underlying hu, hj.1, hj.2, run_sz hs, addr_add, Instr.sureAddr, Nat.add_assoc]
        · cases he
      | _ => cases he
    | _ => cases he
  | _ => cases he
end
end Go.Proofs.Ytgnpihhakogeeaa
