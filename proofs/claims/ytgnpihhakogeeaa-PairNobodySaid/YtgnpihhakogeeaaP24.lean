/- Layers 24, 25, plain: what may be, and why not. -/
import Derived.Test.YtgnpihhakogeeaaD24
namespace Go.Proofs.Ytgnpihhakogeeaa
set_option linter.unusedSimpArgs false
set_option linter.unusedVariables false

def prtMay (i m n s l h : Int) : Bool := if m ≤ i then decide (s = 0 ∧ l = 0 ∧ h = 0) else decide (l ≤ h) && !(decide (n = 1) && (decide (s ≠ l) || decide (s ≠ h)))
def aggMay (m : Int) (a : Ag) : Bool := decide (0 ≤ m) && decide (m ≤ 3) && decide (1 ≤ a.n) && prtMay 0 m a.n a.s0 a.l0 a.h0 && prtMay 1 m a.n a.s1 a.l1 a.h1 && prtMay 2 m a.n a.s2 a.l2 a.h2
/-- a part -/
structure Prt where
  (s l h : Int)
def Ag.prt (a : Ag) : Nat → Prt
  | 0 => ⟨a.s0, a.l0, a.h0⟩
  | 1 => ⟨a.s1, a.l1, a.h1⟩
  | _ => ⟨a.s2, a.l2, a.h2⟩
/-- what is left to ask behind so many parts -/
def tailMay (k : Nat) (m : Int) (a : Ag) : Bool := match k with
  | 0 => prtMay 0 m a.n a.s0 a.l0 a.h0 && prtMay 1 m a.n a.s1 a.l1 a.h1 && prtMay 2 m a.n a.s2 a.l2 a.h2
  | 1 => prtMay 1 m a.n a.s1 a.l1 a.h1 && prtMay 2 m a.n a.s2 a.l2 a.h2
  | 2 => prtMay 2 m a.n a.s2 a.l2 a.h2
  | _ => true
theorem tail0 {m : Int} {a : Ag} (h0 : 0 ≤ m) (h1 : m ≤ 3) (h2 : 1 ≤ a.n) : aggMay m a = tailMay 0 m a := by
  unfold aggMay tailMay
  simp [h0, h1, h2]
theorem tail_step {k : Nat} (hk : k < 3) (m : Int) (a : Ag) : tailMay k m a = (prtMay k m a.n (a.prt k).s (a.prt k).l (a.prt k).h && tailMay (k + 1) m a) := by
  obtain rfl | rfl | rfl : k = 0 ∨ k = 1 ∨ k = 2 := by omega
  · simp [tailMay, Ag.prt, Bool.and_assoc]
  · simp [tailMay, Ag.prt]
  · simp [tailMay, Ag.prt]

def lastB (x : Shp) (dim : Int) : Bool := dim == (x.sizes.length : Int) - 1
def cellOk (x : Shp) (dim : Int) (c : Cel) : Bool := if lastB x dim then decide (c.child = 0) && aggMay x.measures c.agg else decide (0 ≤ c.child) && decide (c.agg = ag0)
def overK : Option Int → Int → Bool
  | none, _ => false
  | some q, k => decide (k ≤ q)
def overN : Option Nat → Nat → Bool
  | none, _ => false
  | some q, k => decide (q < k)
/-- why the rest of a list may not be, behind a key -/
def listErr (x : Shp) (dim size : Int) : Option Int → List Cel → Int
  | _, [] => 0
  | p, c :: r => if c.key < 0 ∨ size ≤ c.key then 13 else if overK p c.key = true then 4 else if cellOk x dim c = false then 2 else listErr x dim size (some c.key) r
/-- the key ahead of a place -/
def keyAhead (l : List Cel) (k : Nat) : Option Int := if k = 0 then none else (l[k - 1]?).map Cel.key
theorem keyAhead_succ {l : List Cel} {k : Nat} (h : k < l.length) : keyAhead l (k + 1) = some l[k].key := by
  unfold keyAhead; simp [h]
theorem listErr_step (x : Shp) (dim size : Int) (l : List Cel) (k : Nat) (h : k < l.length) : listErr x dim size (keyAhead l k) (l.drop k) =
    if l[k].key < 0 ∨ size ≤ l[k].key then 13 else if overK (keyAhead l k) l[k].key = true then 4 else if cellOk x dim l[k] = false then 2 else listErr x dim size (keyAhead l (k + 1)) (l.drop (k + 1)) := by
  rw [List.drop_eq_getElem_cons h, keyAhead_succ h, listErr]
def listErr0 (x : Shp) (dim size : Int) (l : List Cel) : Int := if l.length = 0 then 2 else listErr x dim size none l
/-- why the rest of the lists may not be, behind one of so many cells -/
def listsErr (x : Shp) (dim : Int) : Option Nat → List Int → List (List Cel) → Int
  | _, _, [] => 0
  | _, [], _ => 0
  | p, s :: ss, l :: r => if listErr0 x dim s l ≠ 0 then listErr0 x dim s l else if overN p l.length = true then 14 else listsErr x dim (some l.length) ss r
/-- how many cells the list ahead of a place has -/
def lenAhead (l : List (List Cel)) (k : Nat) : Option Nat := if k = 0 then none else (l[k - 1]?).map List.length
theorem lenAhead_succ {l : List (List Cel)} {k : Nat} (h : k < l.length) : lenAhead l (k + 1) = some l[k].length := by
  unfold lenAhead; simp [h]
theorem listsErr_step (x : Shp) (dim : Int) (s : List Int) (l : List (List Cel)) (k : Nat) (h : k < l.length) (h' : k < s.length) : listsErr x dim (lenAhead l k) (s.drop k) (l.drop k) =
    if listErr0 x dim s[k] l[k] ≠ 0 then listErr0 x dim s[k] l[k] else if overN (lenAhead l k) l[k].length = true then 14 else listsErr x dim (lenAhead l (k + 1)) (s.drop (k + 1)) (l.drop (k + 1)) := by
  rw [List.drop_eq_getElem_cons h, List.drop_eq_getElem_cons h', lenAhead_succ h, listsErr]
theorem listsErr_end (x : Shp) (dim : Int) (p : Option Nat) (s : List Int) : listsErr x dim p s [] = 0 := by
  cases p <;> cases s <;> rfl
def checkErr (x : Shp) (n : Nod) : Int :=
  if n.dim < 0 ∨ (x.sizes.length : Int) ≤ n.dim then 2 else
  let s := x.sizes.getD n.dim.toNat []
  if n.lists.length ≠ s.length ∨ n.lists.length = 0 then 2 else
  if listsErr x n.dim none s n.lists ≠ 0 then listsErr x n.dim none s n.lists else
  if n.all.key ≠ 0 ∨ cellOk x n.dim n.all = false then 2 else 0
def each (n : Nod) : List Cel := n.lists.flatten ++ [n.all]
/-- all that a node leads to is there, one dimension on -/
def leadsB (x : Shp) (l : List Nod) (n : Nod) : Bool := lastB x n.dim || (each n).all fun c => decide (c.child < l.length) && decide ((l.getD c.child.toNat ⟨0, [], cel0⟩).dim = n.dim + 1)
def addErr (x : Shp) (most : Int) (l : List Nod) (n : Nod) : Int :=
  if checkErr x n ≠ 0 then checkErr x n else if leadsB x l n = false then 9 else if most ≤ l.length then 7 else 0
def rowMay : Option Int → List Int → Bool
  | _, [] => true
  | p, n :: r => decide (1 ≤ n) && decide (n ≤ 200) && (match p with | none => true | some q => decide (n ≤ q)) && rowMay (some n) r
def sizesMay (l : List Int) : Bool := decide (1 ≤ l.length) && decide (l.length ≤ 4) && rowMay none l
def shpMay (x : Shp) : Bool := decide (1 ≤ x.sizes.length) && decide (x.sizes.length ≤ 16) && decide (1 ≤ x.measures) && decide (x.measures ≤ 3) && x.sizes.all sizesMay
def loadFrom (x : Shp) (most : Int) (was : List Nod) : List Nod → Int
  | [] => 0
  | n :: r => if addErr x most was n ≠ 0 then addErr x most was n else loadFrom x most (was ++ [n]) r
def loadErr (x : Shp) (l : List Nod) : Int := if shpMay x = false then 2 else loadFrom x 131072 [] l
end Go.Proofs.Ytgnpihhakogeeaa
