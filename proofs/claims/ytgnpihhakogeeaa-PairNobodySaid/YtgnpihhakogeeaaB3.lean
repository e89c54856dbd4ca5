/- The abstract machine: its instructions, what each does, and which operation of the model becomes which. -/
import Derived.Test.YtgnpihhakogeeaaB2
namespace Go.Proofs.Ytgnpihhakogeeaa
set_option linter.unusedSimpArgs false
set_option linter.unusedVariables false
open Go.RowKit

inductive AX where
  | t (n : Nat)
  | c (a : AV)
abbrev Fr := List (Nat × AV)
def Fr.get : Fr → Nat → AV
  | [], _ => .any
  | (k, a) :: F, t => if t = k then a else Fr.get F t
def Fr.put (F : Fr) (d : Option Nat) (a : AV) : Fr := match d with
  | some d => (d, a) :: F
  | none => F
def AX.ev (F : Fr) : AX → AV
  | .t n => Fr.get F n
  | .c a => a
def evs (F : Fr) (xs : List AX) : List AV := xs.map (AX.ev F)
def undefA : AV := .sc undef

/-! constants -/
def ofConst1 : Value → AV
  | .slice none 0 0 => .sl .full []
  | v => .sc v
def ofConst : Value → AV
  | .agg cs => if (cs.toList.map ofConst1).all AV.one then .agg (cs.toList.map ofConst1) else .any
  | .func (.func f) first caps => if first.isEmpty && caps.isEmpty then .fn f [] [] else .any
  | v => ofConst1 v
def cX : Operand → AX
  | .tmp t => .t t
  | .const v => .c (ofConst v)
  | .global g => .c (.sc (.pointer (some ⟨g, 0, none⟩)))
  | .func f => .c (.fn f [] [])

/-! plain kinds, and equality -/
def scs : List SK → List AV → Option (List Value)
  | [], [] => some []
  | k :: ks, .sc v :: cs => bif k.is v then (scs ks cs).map (v :: ·) else none
  | _, _ => none
def vEq : Value → Value → Bool
  | .int _ a, .int _ b => a == b
  | .string a, .string b => a == b
  | .bool a, .bool b => a == b
  | _, _ => false
def vsEq : List Value → List Value → Bool
  | [], [] => true
  | a :: as, b :: bs => vEq a b && vsEq as bs
  | _, _ => false
/-- how keys of a map are held against each other -/
def KK.of : KK → AV → Option Value
  | .one k, .sc v => bif k.is v then some v else none
  | .row ks, .agg cs => (scs ks cs).map fun vs => .agg vs.toArray
  | _, _ => none
def kEq : Value → Value → Bool
  | .agg a, .agg b => vsEq a.toList b.toList
  | a, b => vEq a b
def mFind (k : Value) : List (Value × AV) → Option AV
  | [] => none
  | (k', a) :: es => bif kEq k k' then some a else mFind k es
def mSet (k : Value) (a : AV) : List (Value × AV) → List (Value × AV)
  | [] => [(k, a)]
  | (k', b) :: es => bif kEq k k' then (k, a) :: es else (k', b) :: mSet k a es
def mDel (k : Value) : List (Value × AV) → List (Value × AV)
  | [] => []
  | (k', b) :: es => bif kEq k k' then es else (k', b) :: mDel k es

/-! instructions -/
inductive AOp where
  | mv (x : AX)
  | pick (c a b : AX)
  | box (E : TypeId) (x : AX)
  | bld (zero : List AV) (parts : List (Nat × Nat × AX))
  | bsl (sz : Nat) (parts : List AX)
  | ld (sz : Nat) (agg : Bool) (x : AX)
  | st (sz : Nat) (x y : AX)
  | nck (x : AX)
  | bin (op : BinOp) (x y : AX)
  | eqf (ks : List SK) (neg : Bool) (x y : AX)
  | bnb (neg : Bool) (x y : AX)
  | eqn (kd : Nat) (neg : Bool) (x y : AX)
  | un (op : UnOp) (x : AX)
  | cnv (k : IntKind) (x : AX)
  | cvs (x : AX)
  | sob (x : AX)
  | clr (m : AX)
  | mkf (f : FuncId) (first caps : List AX)
  | mks (E sz bytes : Nat) (zero : List AV) (l c : AX)
  | slc (sz : Nat) (x : AX) (lo hi mx : Option AX)
  | slS (x : AX) (lo hi : Option AX)
  | fla (off : Nat) (x : AX)
  | fld (off sz : Nat) (agg : Bool) (x : AX)
  | ixa (sz : Nat) (x i : AX)
  | ixA (n sz : Nat) (x i : AX)
  | ixv (n sz : Nat) (agg : Bool) (x i : AX)
  | ixs (x i : AX)
  | ext (x : AX) (i : Nat)
  | len (str : Bool) (x : AX)
  | lnA (n : Nat)
  | app (E sz bytes : Nat) (s x : AX)
  | mm (max : Bool) (x y : AX)
  | mkm (kk : KK)
  | lkp (kk : KK) (zero : AV) (ok : Bool) (m k : AX)
  | mup (kk : KK) (m k x : AX)
  | men (kk : KK) (zero : AV) (m k : AX)
  | est (m s x : AX)
  | mln (m : AX)
  | del (kk : KK) (m k : AX)
  | call (f : AX) (args : List AX)
  | eqs (neg : Bool) (x : AX)
  | cap (x : AX)
  | bad

def intSc (op : BinOp) (k : IntKind) (a b : Int) : Option Value :=
  match op with
  | .add => some (.int k (k.wrap (a + b)))
  | .sub => some (.int k (k.wrap (a - b)))
  | .mul => some (.int k (k.wrap (a * b)))
  | .quo => if b = 0 then none else some (.int k (k.wrap (a.tdiv b)))
  | .rem => if b = 0 then none else some (.int k (a.tmod b))
  | .and => some (.int k (k.wrap (BitVec.ofInt k.bits a &&& BitVec.ofInt k.bits b).toNat))
  | .or => some (.int k (k.wrap (BitVec.ofInt k.bits a ||| BitVec.ofInt k.bits b).toNat))
  | .xor => some (.int k (k.wrap (BitVec.ofInt k.bits a ^^^ BitVec.ofInt k.bits b).toNat))
  | .andNot => some (.int k (k.wrap (BitVec.ofInt k.bits a &&& ~~~ BitVec.ofInt k.bits b).toNat))
  | .eql => some (.bool (a == b))
  | .neq => some (.bool (a != b))
  | .lss => some (.bool (a < b))
  | .leq => some (.bool (a ≤ b))
  | .gtr => some (.bool (a > b))
  | .geq => some (.bool (a ≥ b))
  | _ => none
def strSc (op : BinOp) (a b : ByteArray) : Option Value :=
  match op with
  | .add => if a.size + b.size ≤ maxLen then some (.string (a ++ b)) else none
  | .eql => some (.bool (a.toList == b.toList))
  | .neq => some (.bool !(a.toList == b.toList))
  | .lss => some (.bool (Op.bytesLess a.toList b.toList))
  | .leq => some (.bool (Op.bytesLess a.toList b.toList || a.toList == b.toList))
  | .gtr => some (.bool !(Op.bytesLess a.toList b.toList || a.toList == b.toList))
  | .geq => some (.bool !(Op.bytesLess a.toList b.toList))
  | _ => none
def binSc (op : BinOp) (u v : Value) : Option Value :=
  match u, v with
  | .int k a, .int k' b =>
    match op with
    | .shl => if b < 0 then none else some (.int k (k.wrap (a * 2 ^ min b.toNat k.bits)))
    | .shr => if b < 0 then none else some (.int k (a.fdiv (2 ^ min b.toNat k.bits)))
    | _ => if k = k' then intSc op k a b else none
  | .string a, .string b => strSc op a b
  | _, _ => none
def unSc (op : UnOp) (u : Value) : Option Value :=
  match op, u with
  | .not, .bool b => some (.bool !b)
  | .neg, .int k n => some (.int k (k.wrap (0 - n)))
  | .xor, .int k n => some (.int k (k.wrap (BitVec.ofInt k.bits (if k.signed then -1 else k.max) ^^^ BitVec.ofInt k.bits n).toNat))
  | _, _ => none
def splice {α : Type} (cs : List α) (off : Nat) (vs : List α) : List α := cs.take off ++ vs ++ cs.drop (off + vs.length)
def ldRow (sz : Nat) (agg : Bool) (row : List AV) (off : Nat) : Option AV :=
  bif agg then (if off + sz ≤ row.length then some (.agg ((row.drop off).take sz)) else none) else row[off]?
def fillA (F : Fr) : List AV → List (Nat × Nat × AX) → Option (List AV)
  | cs, [] => some cs
  | cs, (off, sz, x) :: rest => match (x.ev F).cells with
    | some vs => if vs.length = sz ∧ off + sz ≤ cs.length then fillA F (splice cs off vs) rest else none
    | none => none
def rowsOf (F : Fr) (sz : Nat) : List AX → Option (List (List AV))
  | [] => some []
  | x :: xs => match (x.ev F).cells with
    | some vs => if vs.length = sz then (rowsOf F sz xs).map (vs :: ·) else none
    | none => none
/-- a bound of a slice expression -/
def bndA (F : Fr) (d : Nat) : Option AX → Option Nat
  | none => some d
  | some x => match x.ev F with
    | .sc (.int _ n) => if 0 ≤ n then some n.toNat else none
    | _ => none
def sliceTok (tok : Tok) (n l h : Nat) (m : Option Nat) : Tok :=
  match m with
  | some m => if h = m then .full else .no
  | none => if l = 0 ∧ h = n then tok else if h = n then (match tok with | .full => .full | _ => .no) else .no
def allLen (sz : Nat) (rows : List (List AV)) : Bool := rows.all (·.length == sz)
/-- the rows of a slice of an object's cells -/
def chunk (sz : Nat) : Nat → List AV → List (List AV)
  | 0, _ => []
  | n + 1, cs => cs.take sz :: chunk sz n (cs.drop sz)
def rowsIn (H : AHeap) (sz : Nat) : AV → Option (List (List AV))
  | .sl _ rows => some rows
  | .arr id off len _ => match H.get id with
    | some (.cells cs _) => if off + len * sz ≤ cs.length then some (chunk sz len (cs.drop off)) else none
    | _ => none
  | _ => none

/-- a row as a byte; rows as a text -/
def byteRow : List AV → Option Int
  | [.sc (.int .u8 n)] => some n
  | _ => none
def bytesA : List (List AV) → Option (List Int)
  | [] => some []
  | r :: rs => match byteRow r, bytesA rs with
    | some n, some ns => some (n :: ns)
    | _, _ => none
def strOf (ns : List Int) : ByteArray := ns.foldl (fun r n => r.push (UInt8.ofNat n.toNat)) ByteArray.empty
def AOp.ev (F : Fr) (H : AHeap) : AOp → Option (AV × AHeap)
  | .mv x => some (x.ev F, H)
  | .pick c a b => match c.ev F with
    | .sc (.bool t) => some (bif t then a.ev F else b.ev F, H)
    | _ => none
  | .box E x => match (x.ev F).cells with
    | some cs => some (.ptr H.next 0, H.alloc (.cells cs E))
    | none => none
  | .bld zero parts => match fillA F zero parts with
    | some cs => some (.agg cs, H)
    | none => none
  | .bsl sz parts => match rowsOf F sz parts with
    | some rows => some (.sl .full rows, H)
    | none => none
  | .ld sz agg x => match x.ev F with
    | .el row off => (ldRow sz agg row off).map (·, H)
    | .ptr id off => match H.get id with
      | some (.cells cs _) => (ldRow sz agg cs off).map (·, H)
      | _ => none
    | _ => none
  | .st sz x y => match x.ev F, (y.ev F).cells with
    | .ptr id off, some vs => match H.get id with
      | some (.cells cs E) => if vs.length = sz ∧ off + sz ≤ cs.length then some (undefA, H.set id (.cells (splice cs off vs) E)) else none
      | _ => none
    | _, _ => none
  | .nck x => match x.ev F with
    | .ptr id off => some (.ptr id off, H)
    | .el row off => some (.el row off, H)
    | .fn f a b => some (.fn f a b, H)
    | _ => none
  | .bin op x y => match x.ev F, y.ev F with
    | .sc u, .sc v => (binSc op u v).map fun r => (.sc r, H)
    | _, _ => none
  | .eqf ks neg x y => match x.ev F, y.ev F with
    | .agg cs, .agg ds => match scs ks cs, scs ks ds with
      | some us, some vs => some (.b (neg ^^ vsEq us vs), H)
      | _, _ => none
    | _, _ => none
  | .bnb neg x y => match x.ev F, y.ev F with
    | .sc (.bool a), .sc (.bool b) => some (.b (neg ^^ (a == b)), H)
    | _, _ => none
  | .eqn 0 neg x y => match x.ev F, y.ev F with
    | .sc (.pointer none), .sc (.pointer none) => some (.b (neg ^^ true), H)
    | .ptr _ _, .sc (.pointer none) => some (.b (neg ^^ false), H)
    | .el _ _, .sc (.pointer none) => some (.b (neg ^^ false), H)
    | _, _ => none
  | .eqn 1 neg x y => match x.ev F, y.ev F with
    | .sc (.map none), .sc (.map none) => some (.b (neg ^^ true), H)
    | .mp _, .sc (.map none) => some (.b (neg ^^ false), H)
    | _, _ => none
  | .eqn _ neg x y => match x.ev F, y.ev F with
    | .sc .nilFunc, .sc .nilFunc => some (.b (neg ^^ true), H)
    | .fn _ _ _, .sc .nilFunc => some (.b (neg ^^ false), H)
    | _, _ => none
  | .un op x => match x.ev F with
    | .sc u => (unSc op u).map fun r => (.sc r, H)
    | _ => none
  | .cnv k x => match x.ev F with
    | .sc (.int _ n) => some (.sc (.int k (k.wrap n)), H)
    | _ => none
  | .cvs x => match x.ev F with
    | .sc (.string s) => some (.sc (.string s), H)
    | _ => none
  | .sob x => match rowsIn H 1 (x.ev F) with
    | some rows => match bytesA rows with
      | some ns => some (.sc (.string (strOf ns)), H)
      | none => none
    | none => none
  | .clr m => match m.ev F with
    | .mp id => match H.get id with
      | some (.map kk _ _) => some (.tup [], H.set id (.map kk [] true))
      | _ => none
    | _ => none
  | .mkf f first caps => some (.fn f (evs F first) (evs F caps), H)
  | .mks E sz bytes zero l c => match l.ev F, c.ev F with
    | .sc (.int .i64 ln), .sc (.int .i64 cn) =>
      if 0 ≤ ln ∧ ln ≤ cn ∧ cn.toNat ≤ maxLen ∧ cn.toNat * bytes ≤ 140737488355328 then
        (if cn = 0 then some (.sl .full [], H)
         else if ln = cn then some (.arr H.next 0 ln.toNat ln.toNat, H.alloc (.cells ((List.replicate ln.toNat zero).flatten) E))
         else if ln = 0 then some (.sl (.own H.next) [], H.alloc (.tok 0 E sz)) else none)
      else none
    | _, _ => none
  | .slc sz x lo hi mx => match x.ev F with
    | .sl tok rows => match bndA F 0 lo, bndA F rows.length hi, bndA F rows.length mx with
      | some l, some h, some m => if l ≤ h ∧ h ≤ m ∧ m ≤ rows.length ∧ (l = 0 ∨ allLen sz rows = true) then some (.sl (sliceTok tok rows.length l h (mx.map fun _ => m)) ((rows.take h).drop l), H) else none
      | _, _, _ => none
    | .arr id off ln cp => match bndA F 0 lo, bndA F ln hi, bndA F cp mx with
      | some l, some h, some m => if l ≤ h ∧ h ≤ m ∧ m ≤ cp then (if m = l then some (.sl .full [], H) else some (.arr id (off + l * sz) (h - l) (m - l), H)) else none
      | _, _, _ => none
    | _ => none
  | .slS x lo hi => match x.ev F with
    | .sc (.string s) => match bndA F 0 lo, bndA F s.size hi with
      | some l, some h => if l ≤ h ∧ h ≤ s.size then some (.sc (.string (s.extract l h)), H) else none
      | _, _ => none
    | _ => none
  | .fla off x => match x.ev F with
    | .ptr id o => some (.ptr id (o + off), H)
    | .el row o => some (.el row (o + off), H)
    | _ => none
  | .fld off sz agg x => match x.ev F with
    | .agg cs => (ldRow sz agg cs off).map (·, H)
    | _ => none
  | .ixa sz x i => match x.ev F, i.ev F with
    | .sl _ rows, .sc (.int _ n) => if 0 ≤ n then (match rows[n.toNat]? with
      | some r => if r.length = sz then some (.el r 0, H) else none
      | none => none) else none
    | .arr id off ln _, .sc (.int _ n) => if 0 ≤ n ∧ n < (ln : Int) then some (.ptr id (off + n.toNat * sz), H) else none
    | _, _ => none
  | .ixA n sz x i => match x.ev F, i.ev F with
    | .ptr id off, .sc (.int _ j) => if 0 ≤ j ∧ j < (n : Int) then some (.ptr id (off + j.toNat * sz), H) else none
    | .el row off, .sc (.int _ j) => if 0 ≤ j ∧ j < (n : Int) then some (.el row (off + j.toNat * sz), H) else none
    | _, _ => none
  | .ixv n sz agg x i => match x.ev F, i.ev F with
    | .agg cs, .sc (.int _ j) => if 0 ≤ j ∧ j < (n : Int) then (ldRow sz agg cs (j.toNat * sz)).map (·, H) else none
    | _, _ => none
  | .ixs x i => match x.ev F, i.ev F with
    | .sc (.string s), .sc (.int _ j) => if 0 ≤ j then (match s[j.toNat]? with
      | some b => some (.sc (.int .u8 b.toNat), H)
      | none => none) else none
    | _, _ => none
  | .ext x i => match x.ev F with
    | .tup vs => match vs[i]? with
      | some v => some (v, H)
      | none => none
    | _ => none
  | .len false x => match x.ev F with
    | .sl _ rows => some (.i rows.length, H)
    | .arr _ _ ln _ => some (.i ln, H)
    | _ => none
  | .len true x => match x.ev F with
    | .sc (.string s) => some (.i s.size, H)
    | _ => none
  | .lnA n => some (.i n, H)
  | .app E sz bytes s x => match s.ev F, rowsIn H sz (x.ev F) with
    | .sl tok rows, some xs =>
      if allLen sz xs = true ∧ rows.length + xs.length ≤ maxLen ∧ (rows.length + xs.length) * bytes ≤ 140737488355328 ∧ allLen sz rows = true then
        (match tok with
         | .own id => match H.get id with
           | some (.tok n E' sz') => if n = rows.length ∧ E' = E ∧ sz' = sz then some (.sl (.own id) (rows ++ xs), H.set id (.tok (n + xs.length) E sz)) else none
           | _ => none
         | .full => match xs with
           | [] => some (.sl .full rows, H)
           | _ => some (.sl (.own H.next) (rows ++ xs), H.alloc (.tok (rows.length + xs.length) E sz))
         | .no => match xs with
           | [] => some (.sl .no rows, H)
           | _ => none)
      else none
    | _, _ => none
  | .mm mx x y => match x.ev F, y.ev F with
    | .sc (.int k a), .sc (.int k' b) => if k = k' then some (.sc (.int k (bif mx then (if b > a then b else a) else (if b < a then b else a))), H) else none
    | _, _ => none
  | .mkm kk => some (.mp H.next, H.alloc (.map kk [] false))
  | .lkp kk zero ok m k => match m.ev F, kk.of (k.ev F) with
    | .mp id, some kv => match H.get id with
      | some (.map kk' es _) => if kk' = kk then (match mFind kv es with
        | some a => some (bif ok then .tup [a, .b true] else a, H)
        | none => some (bif ok then .tup [zero, .b false] else zero, H)) else none
      | _ => none
    | .sc (.map none), some _ => some (bif ok then .tup [zero, .b false] else zero, H)
    | _, _ => none
  | .mup kk m k x => match m.ev F, kk.of (k.ev F) with
    | .mp id, some kv => match H.get id with
      | some (.map kk' es d) => if kk' = kk then some (undefA, H.set id (.map kk (mSet kv (x.ev F) es) d)) else none
      | _ => none
    | _, _ => none
  | .men kk zero m k => match m.ev F, kk.of (k.ev F) with
    | .mp id, some kv => match H.get id with
      | some (.map kk' es false) => if kk' = kk then (match mFind kv es with
        | some a => some (.tup [a, .stp id kv], H)
        | none => some (.tup [zero, .stp id kv], H.set id (.map kk (mSet kv zero es) false))) else none
      | _ => none
    | _, _ => none
  | .est m s x => match m.ev F, s.ev F with
    | .mp id, .stp id' kv => match H.get id with
      | some (.map kk es false) => if id = id' ∧ (mFind kv es).isSome then some (undefA, H.set id (.map kk (mSet kv (x.ev F) es) false)) else none
      | _ => none
    | _, _ => none
  | .mln m => match m.ev F with
    | .mp id => match H.get id with
      | some (.map _ es _) => some (.i es.length, H)
      | _ => none
    | .sc (.map none) => some (.i 0, H)
    | _ => none
  | .del kk m k => match m.ev F, kk.of (k.ev F) with
    | .mp id, some kv => match H.get id with
      | some (.map kk' es _) => if kk' = kk then some (.tup [], H.set id (.map kk (mDel kv es) true)) else none
      | _ => none
    | _, _ => none
  | .call _ _ => none
  | .eqs neg x => match x.ev F with
    | .sl _ [] => some (.ub, H)
    | .sl _ (_ :: _) => some (.b (neg ^^ false), H)
    | .arr _ _ _ _ => some (.b (neg ^^ false), H)
    | _ => none
  | .cap x => match x.ev F with
    | .sl .full rows => some (.i rows.length, H)
    | .arr _ _ _ c => some (.i c, H)
    | _ => none
  | .bad => none

/-! from the model's operations -/
def tyAgg (P : Program) (t : TypeId) : Option Bool := match P.underlying t with
  | some (.struct _) | some (.array _ _) => some true
  | some _ => some false
  | none => none
def tySz (P : Program) (t : TypeId) : Option Nat := (P.info? t).map (·.size)
def tyZero (P : Program) (t : TypeId) : Option Value := (P.info? t).bind (·.zero)
def keyK (P : Program) (eqT : TypeId → Option (List SK)) (t : TypeId) : Option KK := match P.underlying t with
  | some (.int k) => some (.one (.int k))
  | some .string => some (.one .str)
  | some .bool => some (.one .bool)
  | some (.struct _) | some (.array _ _) => (eqT t).map .row
  | _ => none
/-- the parts of a struct or an array that is built, by their places -/
def prt (place : Nat → Option (Nat × Nat)) (p : Nat × Operand) : Option (Nat × Nat × AX) := (place p.1).map fun os => (os.1, os.2, cX p.2)
def fldPlaces (P : Program) (fs : Array Field) : Array (Nat × Nat) := fs.map fun f => (f.offset, ((P.info? f.type).map (·.size)).getD 0)
def isNilC : Operand → Bool
  | .const (.slice none 0 0) => true
  | _ => false
def eqsOp (op : BinOp) (x : AX) : Option AOp := match op with
  | .eql => some (.eqs false x)
  | .neq => some (.eqs true x)
  | _ => none
def cOp (P : Program) (eqT : TypeId → Option (List SK)) (op : Op) : Option AOp := match op with
  | .move x | .assign x => some (.mv (cX x))
  | .pick c a b => some (.pick (cX c) (cX a) (cX b))
  | .alloc E => do let z ← tyZero P E; some (.box E (.c (ofConst z)))
  | .box E x => some (.box E (cX x))
  | .build t parts => do
    let z ← tyZero P t
    let zc ← (ofConst z).cells
    match ← P.underlying t with
    | .struct fs =>
      if fs.all fun f => (P.info? f.type).isSome then
        let ps ← parts.toList.mapM (prt fun i => (fldPlaces P fs)[i]?)
        some (.bld zc ps)
      else none
    | .array _ e => do
      let s ← tySz P e
      let ps ← parts.toList.mapM (prt fun i => some (i * s, s))
      some (.bld zc ps)
    | _ => none
  | .buildSlice t len parts => do
    match ← P.underlying t with
    | .slice e =>
      let s ← tySz P e
      let z ← tyZero P e
      if 0 < s ∧ z.cells.size = s ∧ len * s ≤ 16777216 ∧ parts.toList.map (·.1) = List.range len then some (.bsl s (parts.toList.map fun p => cX p.2)) else none
    | _ => none
  | .load t x => do let s ← tySz P t; let a ← tyAgg P t; some (.ld s a (cX x))
  | .store t x y => do let s ← tySz P t; some (.st s (cX x) (cX y))
  | .nilCheck x => some (.nck (cX x))
  | .binOp op t x y _ => do
    match ← P.underlying t with
    | .int _ | .string => some (.bin op (cX x) (cX y))
    | .bool => match op with
      | .eql => some (.bnb false (cX x) (cX y))
      | .neq => some (.bnb true (cX x) (cX y))
      | _ => none
    | .pointer _ => match op with
      | .eql => some (.eqn 0 false (cX x) (cX y))
      | .neq => some (.eqn 0 true (cX x) (cX y))
      | _ => none
    | .map _ _ => match op with
      | .eql => some (.eqn 1 false (cX x) (cX y))
      | .neq => some (.eqn 1 true (cX x) (cX y))
      | _ => none
    | .slice _ => if isNilC y = true then eqsOp op (cX x) else none
    | .func _ _ _ => match op with
      | .eql => some (.eqn 2 false (cX x) (cX y))
      | .neq => some (.eqn 2 true (cX x) (cX y))
      | _ => none
    | .struct _ | .array _ _ =>
      if P.eqGuardType P.depth t then none else
      let ks ← eqT t
      match op with
      | .eql => some (.eqf ks false (cX x) (cX y))
      | .neq => some (.eqf ks true (cX x) (cX y))
      | _ => none
    | _ => none
  | .unOp op _ x => some (.un op (cX x))
  | .convert src dst x => do
    match ← P.underlying src, ← P.underlying dst with
    | .int _, .int k => some (.cnv k (cX x))
    | .string, .string => some (.cvs (cX x))
    | .slice e, .string => match P.underlying e with
      | some (.int .u8) => some (.sob (cX x))
      | _ => none
    | _, _ => none
  | .makeFunc (.func f) first caps => some (.mkf f (first.toList.map cX) (caps.toList.map cX))
  | .makeSlice t l c => do
    match ← P.underlying t with
    | .slice e =>
      let i ← P.info? e
      let z ← i.zero
      let zc ← (ofConst z).cells
      if 0 < i.size ∧ z.cells.size = i.size then some (.mks e i.size i.bytes zc (cX l) (cX c)) else none
    | _ => none
  | .slice t x lo hi mx => do
    match ← P.underlying t with
    | .slice e => do
      let s ← tySz P e
      if mx.isSome ∧ hi.isNone then none else some (.slc s (cX x) (lo.map cX) (hi.map cX) (mx.map cX))
    | .string => match mx with
      | none => some (.slS (cX x) (lo.map cX) (hi.map cX))
      | some _ => none
    | _ => none
  | .fieldAddr s x f => do
    match ← P.underlying s with
    | .struct fs => do
      let f ← fs[f]?
      let sz ← tySz P f.type
      if sz = 0 then none else some (.fla f.offset (cX x))
    | _ => none
  | .field t x f => do
    match ← P.underlying t with
    | .struct fs => do
      let f ← fs[f]?
      let s ← tySz P f.type
      let a ← tyAgg P f.type
      some (.fld f.offset s a (cX x))
    | _ => none
  | .indexAddr t x i => do
    match ← P.underlying t with
    | .slice e => do let s ← tySz P e; some (.ixa s (cX x) (cX i))
    | .array n e => do let s ← tySz P e; some (.ixA n s (cX x) (cX i))
    | _ => none
  | .index t x i => do
    match ← P.underlying t with
    | .array n e => do let s ← tySz P e; let a ← tyAgg P e; some (.ixv n s a (cX x) (cX i))
    | .string => some (.ixs (cX x) (cX i))
    | _ => none
  | .lookup t m k ok => do
    match ← P.underlying t with
    | .map kt et => do
      let kk ← keyK P eqT kt
      let z ← tyZero P et
      some (.lkp kk (ofConst z) ok (cX m) (cX k))
    | _ => none
  | .mapUpdate t m k x | .insert t m k x => do
    match ← P.underlying t with
    | .map kt _ => do let kk ← keyK P eqT kt; some (.mup kk (cX m) (cX k) (cX x))
    | _ => none
  | .mapEntry t m k => do
    match ← P.underlying t with
    | .map kt et => do
      let kk ← keyK P eqT kt
      let z ← tyZero P et
      some (.men kk (ofConst z) (cX m) (cX k))
    | _ => none
  | .entryStore _ m s x => some (.est (cX m) (cX s) (cX x))
  | .makeMap t none => do
    match ← P.underlying t with
    | .map kt _ => do let kk ← keyK P eqT kt; some (.mkm kk)
    | _ => none
  | .extract x i => some (.ext (cX x) i)
  | .call c => match c.callee with
    | .value f => some (.call (cX f) (c.args.toList.map cX))
    | .builtin .len => match c.args.toList, c.argTypes.toList with
      | [x], [t] => do
        match ← P.underlying t with
        | .slice _ => some (.len false (cX x))
        | .string => some (.len true (cX x))
        | .array n _ => some (.lnA n)
        | .map _ _ => some (.mln (cX x))
        | _ => none
      | _, _ => none
    | .builtin .append => match c.args.toList, c.argTypes.toList with
      | [s, x], [t, t'] => do
        match ← P.underlying t with
        | .slice e =>
          let i ← P.info? e
          let z ← i.zero
          if t = t' ∧ 0 < i.size ∧ z.cells.size = i.size then some (.app e i.size i.bytes (cX s) (cX x)) else none
        | _ => none
      | _, _ => none
    | .builtin .cap => match c.args.toList, c.argTypes.toList with
      | [x], [t] => do
        match ← P.underlying t with
        | .slice _ => some (.cap (cX x))
        | _ => none
      | _, _ => none
    | .builtin .min => match c.args.toList with
      | [x, y] => some (.mm false (cX x) (cX y))
      | _ => none
    | .builtin .max => match c.args.toList with
      | [x, y] => some (.mm true (cX x) (cX y))
      | _ => none
    | .builtin .clear => match c.args.toList, c.argTypes.toList with
      | [m], [t] => do
        match ← P.underlying t with
        | .map _ _ => some (.clr (cX m))
        | _ => none
      | _, _ => none
    | .builtin .delete => match c.args.toList, c.argTypes.toList with
      | [m, k], t :: _ => do
        match ← P.underlying t with
        | .map kt _ => do let kk ← keyK P eqT kt; some (.del kk (cX m) (cX k))
        | _ => none
      | _, _ => none
    | _ => none
  | _ => none
/-- what is not known is stuck -/
def cOpB (P : Program) (eqT : TypeId → Option (List SK)) (op : Op) : AOp := match cOp P eqT op with
  | some a => a
  | none => .bad
end Go.Proofs.Ytgnpihhakogeeaa
