/- Layer 25, the program: Load. -/
import Derived.Test.YtgnpihhakogeeaaR25d
namespace Go.Proofs.Ytgnpihhakogeeaa
open Go.RowKit

/-- an arena, to be read -/
def ArR (w : World) (g : Nat) (x : Shp) (l : List Nod) : Prop :=
  ∃ SA sc NA nc most, Blk w g 75 [.slice SA x.sizes.length sc, .int .i64 x.measures, .slice NA l.length nc, .int .i64 most] ∧ ElemsAt w (· < w.heap.size) SA x.sizes ∧ ElemsAt w (· < w.heap.size) NA l ∧ x.sizes.length ≤ sc ∧ sc ≤ maxLen ∧ l.length ≤ nc ∧ nc ≤ maxLen
theorem ArR.below {w w' : World} {g : Nat} {x : Shp} {l : List Nod} (h : ArR w g x l) (k : Below w.heap.size w w') : ArR w' g x l := by
  obtain ⟨SA, sc, NA, nc, most, h1, h2, h3, h4⟩ := h
  have hz := k.size
  exact ⟨SA, sc, NA, nc, most, h1.below k h1.lt, (h2.below k (fun b hb => hb)).more (fun b hb => by omega), (h3.below k (fun b hb => hb)).more (fun b hb => by omega), h4⟩
theorem ArM.read {w : World} {B g : Nat} {x : Shp} {most : Int} {l : List Nod} (h : ArM w B g x most l) : ArR w g x l := by
  obtain ⟨SA, sc, NA, nc, h1, h2, h3, h4, h5, h6, h7⟩ := h
  obtain ⟨A', c', e, h8, h9, h10⟩ := h7.sl
  injection e with e1 e2 e3
  subst e1 e3
  exact ⟨SA, sc, NA, nc, most, h1, h4.more (fun b hb => by omega), h10, h5, h6, h8, h9⟩
theorem loadFrom_step (x : Shp) (most : Int) (l : List Nod) (k : Nat) (h : k < l.length) : loadFrom x most (l.take k) (l.drop k) = if addErr x most (l.take k) l[k] ≠ 0 then addErr x most (l.take k) l[k] else loadFrom x most (l.take (k + 1)) (l.drop (k + 1)) := by
  rw [List.drop_eq_getElem_cons h, loadFrom, List.take_succ_eq_append_getElem h]

def LoadPost (w : World) (x : Shp) (l : List Nod) (e : Ending) (w' : World) : Prop :=
  (loadErr x l ≠ 0 ∧ RetV w (.tuple #[.pointer none, .int .i64 (loadErr x l)]) e w') ∨
  (loadErr x l = 0 ∧ ∃ g, e = .returned (.tuple #[.pointer (some ⟨g, 0, none⟩), .int .i64 0]) ∧ w.heap.size ≤ g ∧ ArR w' g x l ∧ Below w.heap.size w w')
def fewNods (l : List Nod) : Prop := l.length ≤ 200000 ∧ ∀ n ∈ l, leBytes n ∧ n.lists.length ≤ 1000000
set_option maxHeartbeats 4000000 in
set_option maxRecDepth 100000 in
theorem load_any (A : Option Addr) (c : Nat) (x : Shp) (LA : Option Addr) (lc : Nat) (l : List Nod) (w : World) (F : Nat → Prop) (hx : ElemsAt w F A x.sizes) (hl : ElemsAt w F LA l) (hF : ∀ b, F b → b < w.heap.size) (hxl : x.sizes.length ≤ maxLen) (hf : fewNods l) :
    Calls Try.prog 14 #[.agg #[.slice A x.sizes.length c, .int .i64 x.measures], .slice LA l.length lc] w (LoadPost w x l) := by
  have HX := Lib.hid hx
  have HL := Lib.hid hl
  have HF := Lib.hid hF
  have HW := Lib.hid hf.2
  have hlen := hf.1
  clear hx hl hF hf
  have b0 : Hid (Below w.heap.size w (w.alloc (.cells #[.slice A x.sizes.length c, .int .i64 x.measures] 24))) := below1 _ _
  have HX0 := Lib.hid (HX.out.below b0.out HF.out)
  have HF0 : Hid (∀ b, F b → b < (w.alloc (.cells #[.slice A x.sizes.length c, .int .i64 x.measures] 24)).heap.size) := fun b hb => by have := HF.out b hb; have := b0.out.size; omega
  cases hms : shpMay x with
  | false =>
    have he : Hid (loadErr x l = 2) := by unfold Hid loadErr; rw [if_pos hms]
    have HN := Lib.hid (anew_no A c x 131072 _ F HX0.out HF0.out hxl (by unfold mayNew; rw [hms]; rfl))
    clear hms
    go_enter Try.func14, Try.ntmps14
    go_wp2_with (go_at_call 45; refine (HN.out).mono ?_; rintro e w1 h1; obtain ⟨rfl, hb1, hz1, hc1, hf1⟩ := h1.imp; clear h1)
    go_ret2
    exact .inl ⟨by rw [he.out]; decide, by rw [he.out]; exact ⟨rfl, bon b0.out hb1⟩⟩
  | true =>
    have he : Hid (loadErr x l = loadFrom x 131072 (l.take 0) (l.drop 0)) := by unfold Hid loadErr; rw [if_neg (by rw [hms]; simp)]; rfl
    have hsb := shpMay_bounds hms
    have hx1 := hsb.1
    have hx2 := hsb.2.1
    have HN := Lib.hid (anew_yes A c x 131072 _ F HX0.out HF0.out (by unfold mayNew; rw [hms]; rfl))
    clear hms hsb
    go_enter Try.func14, Try.ntmps14
    go_wp2_with fail
    generalize w.alloc (.cells #[.slice A x.sizes.length c, .int .i64 x.measures] 24) = w0 at b0 HX0 HF0 HN ⊢
    refine HN.out.mono ?_
    rintro e w1 ⟨g, SA, sc, rfl, hab, hg, hsl, hb1⟩
    have hz0 := b0.out.size
    have hz1 := hb1.size
    have hglt := hab.lt
    have HM1 : Hid (ArM w1 w1.heap.size g x 131072 (l.take 0)) := by
      obtain ⟨A', c', e, h8, h9, h10⟩ := hsl
      injection e with e1 e2 e3
      subst e1 e3
      exact ⟨SA, sc, none, 0, hab, hglt, Nat.le_refl _, h10.more (fun b hb => by omega), h8, h9, OwnG.nil⟩
    have B1 : Hid (Below w.heap.size w w1) := bon b0.out hb1
    have HL1 := Lib.hid (HL.out.below B1.out HF.out)
    have k1 : Hid (Kp (fun b => b = g ∨ w1.heap.size ≤ b) w1 w1) := Kp.refl _ _
    clear hab hsl hb1 HN HX0 HF0 b0 HX
    go_wp2_with fail
    go_loopw [25] (fun i wr => ∃ k : Nat, k ≤ l.length ∧ i = .int .i64 k ∧ Hid (loadErr x l = loadFrom x 131072 (l.take k) (l.drop k)) ∧ Hid (ArM wr w1.heap.size g x 131072 (l.take k)) ∧ Hid (Kp (fun b => b = g ∨ w1.heap.size ≤ b) w1 wr)) (fun i _ => l.length - (intOf i).toNat)
    case atStart => exact ⟨0, Nat.zero_le _, rfl, he, HM1, k1⟩
    case round =>
      clear he HM1 k1
      obtain ⟨k, hk, rfl, ht, hM, hkp⟩ := hrel
      have hzr := hkp.out.size
      have BR : Hid (Below w.heap.size w wr) := B1.out.trans (hkp.out.to_below B1.out.size (fun b hb => by omega))
      by_cases hlt : k < l.length
      · obtain ⟨nb, no, NB, nd, rfl, _, hnb, d0, d1, ⟨a0, a1, a2, a3, a4, a5, a6, a7, a8, a9, a10, a11⟩, hdi, hlc1, hlc2, hNB, hok⟩ := (HL1.out.kp hkp.out (fun b hb => by have := HF.out b hb; omega)).nod hlt
        have HT : Hid (loadErr x l = _) := ht.out.trans (loadFrom_step x 131072 l k hlt)
        have hwl := HW.out _ (List.getElem_mem hlt)
        have HAD := Lib.hid (add_any w1.heap.size g x 131072 (l.take k) l[k] NB nd (wr.alloc (.cells (nodArr l[k].dim (.slice NB l[k].lists.length nd) l[k].all) 45)) F (hM.out.below (below1 _ _)) (hNB.below (below1 _ _) (fun b hb => by have := HF.out b hb; omega)) hdi hok (fun b hb => by have := HF.out b hb; simp; omega) hwl.1 hwl.2 (by rw [List.length_take]; omega) hx1 (by omega))
        have HTK : Hid (l.take (k + 1) = l.take k ++ [l[k]]) := List.take_succ_eq_append_getElem hlt
        have HTL : Hid ((l.take k).length = k) := by unfold Hid; rw [List.length_take]; omega
        clear ht hwl hNB hdi hok hlc1 hlc2
        generalize l[k] = n at *
        generalize l.take k = lk at *
        obtain ⟨dim, lists, all⟩ := n
        simp only at d0 d1 a0 a1 a2 a3 a4 a5 a6 a7 a8 a9 a10 a11 HAD
        unfold AddPost at HAD
        generalize addErr x 131072 lk ⟨dim, lists, all⟩ = ae at HAD HT
        unfold nodArr at HAD
        have bn : Hid (Below wr.heap.size wr (wr.alloc (.cells #[.int .i64 dim, .slice NB lists.length nd, .int .i64 all.key, .int .i64 all.child, .int .i64 all.agg.n, .int .i64 all.agg.s0, .int .i64 all.agg.l0, .int .i64 all.agg.h0, .int .i64 all.agg.s1, .int .i64 all.agg.l1, .int .i64 all.agg.h1, .int .i64 all.agg.s2, .int .i64 all.agg.l2, .int .i64 all.agg.h2] 45))) := below1 _ _
        go_wp2_with fail
        generalize wr.alloc _ = wn at HAD bn ⊢
        have hzn := bn.out.size
        refine HAD.out.mono ?_
        rintro e w2 h2
        rcases h2 with ⟨hne, rfl, hb2⟩ | ⟨h0, rfl, hM2, hK2⟩
        · have hbn : (ae != 0) = true := by simpa using hne
          have HT2 : Hid (loadErr x l = ae) := HT.out.trans (if_pos hne)
          have hne2 := Lib.hid hne
          clear HT hne HAD
          go_wp2
          go_ret2
          exact .inl ⟨by rw [HT2.out]; exact hne2.out, by rw [HT2.out]; exact ⟨rfl, bon BR.out (bon bn.out hb2)⟩⟩
        · have HT2 : Hid (loadErr x l = loadFrom x 131072 (l.take (k + 1)) (l.drop (k + 1))) := HT.out.trans (if_neg (by simpa using h0))
          have HM2 := Lib.hid hM2
          have HK2 : Hid (Kp (fun b => b = g ∨ w1.heap.size ≤ b) w1 w2) := (hkp.out.trans (Kp.of_below (S := fun _ => False) bn.out) (fun b _ h => h.elim)).trans hK2 (fun b _ h => h)
          clear HT h0 HAD hM2 hK2
          go_wp2
          go_roundw
          case rel => exact ⟨k + 1, by omega, by go_num, HT2, by unfold Hid; rw [HTK.out]; exact HM2.out, HK2⟩
          case measure => simp [intOf]; omega
      · have hf2 : Hid (loadErr x l = 0) := by unfold Hid; rw [ht.out, List.drop_eq_nil_of_le (by omega)]; rfl
        have hlk : Hid (l.take k = l) := List.take_of_length_le (by omega)
        go_wp2
        go_ret2
        refine .inr ⟨hf2.out, g, rfl, by omega, ?_, BR.out⟩
        have := hM.out.read
        rw [hlk.out] at this
        exact this
end Go.Proofs.Ytgnpihhakogeeaa
