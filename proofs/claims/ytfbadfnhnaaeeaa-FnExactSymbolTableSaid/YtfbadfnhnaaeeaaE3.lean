/- The abstract machine: from Go's operations to its own. -/
import Derived.Test.YtfbadfnhnaaeeaaE2
namespace Go.Proofs.Ytfbadfnhnaaeeaa
set_option linter.unusedSimpArgs false
set_option linter.unusedVariables false
open Go.RowKit

def copd : Operand → Option Opd
  | .tmp t => some (.t t)
  | .const v => if oneV v then some (.k v) else none
  | .func f => some (.k (.func (.func f) #[] #[]))
  | .global _ => none
def copds : List Operand → Option (List Opd)
  | [] => some []
  | x :: r => match copd x, copds r with
    | some y, some l => some (y :: l)
    | _, _ => none
/-- none: one cell; some n: a struct or an array of n cells. -/
def csize (P : Program) (t : TypeId) : Option (Option Nat) := match P.underlying t, P.info? t with
  | some (.struct _), some i => some (some i.size)
  | some (.array _ _), some i => some (some i.size)
  | some _, some i => if i.size = 1 then some none else none
  | _, _ => none
def zeroOf (P : Program) (t : TypeId) : Option Value := (P.info? t).bind (·.zero)
/-- The slices among a zero value's cells: at which cell, of which elements. -/
def slicesIn (P : Program) (t : TypeId) : List (Nat × TypeId × Nat) := match P.underlying t with
  | some (.struct fs) => fs.toList.filterMap fun f => match P.underlying f.type with
    | some (.slice e) => match P.info? e with
      | some i => if 0 < i.size then some (f.offset, e, i.size) else none
      | none => none
    | _ => none
  | some (.slice e) => match P.info? e with
    | some i => if 0 < i.size then [(0, e, i.size)] else []
    | none => []
  | _ => []
def isNilS : Value → Bool
  | .slice none 0 0 => true
  | _ => false
/-- A zero value's cells: the nil slices get names of their own. -/
def zcells (d : Nat) (sl : List (Nat × TypeId × Nat)) : List Value → Nat → List C × ML
  | [], _ => ([], [])
  | v :: r, j => match isNilS v, sl.find? fun p => p.1 == j with
    | true, some (_, e, sz) => (.slc (d, 1 + j) 0 :: (zcells d sl r (j + 1)).1, ((d, 1 + j), .fl e sz []) :: (zcells d sl r (j + 1)).2)
    | _, _ => (.pv v :: (zcells d sl r (j + 1)).1, (zcells d sl r (j + 1)).2)
def cparts (P : Program) (fs : Array Field) : List (Nat × Operand) → Option (List (Nat × Option Nat × Opd))
  | [] => some []
  | (i, x) :: r => match fs[i]?, copd x, cparts P fs r with
    | some f, some y, some l => match csize P f.type with
      | some (some 0) => none
      | some s => some ((f.offset, s, y) :: l)
      | none => none
    | _, _, _ => none
/-- An array's elements as if they were fields. -/
def virt (e : TypeId) (sz n : Nat) : Array Field := ((List.range n).map fun i => { name := "", type := e, offset := i * sz, embedded := false, tag := "", pkgPath := "", byteOffset := 0 }).toArray
/-- The fields of a struct of integers, or of such structs, one behind the other: how many integers. -/
def flatF (P : Program) (rec : TypeId → Option Nat) : List Field → Nat → Option Nat
  | [], off => some off
  | f :: r, off => if f.name != "_" && f.offset == off then match P.underlying f.type, csize P f.type with
      | some (.int .i64), some none => flatF P rec r (off + 1)
      | some (.struct _), some (some m) => match rec f.type with
        | some n => if n = m then flatF P rec r (off + n) else none
        | none => none
      | _, _ => none
    else none
def flatT (P : Program) : Nat → TypeId → Option Nat
  | 0, _ => none
  | d + 1, t => match P.underlying t with
    | some (.struct fs) => if !P.stoodInHeld t then flatF P (flatT P d) fs.toList 0 else none
    | _ => none
def flatS (P : Program) (t : TypeId) : Option Nat := if !P.eqGuardType P.depth t then flatT P 3 t else none
/-- Is this a type of slices? -/
def isSl (P : Program) (t : TypeId) : Bool := match P.underlying t with
  | some (.slice _) => true
  | _ => false
def cmv (P : Program) (ty : TypeId) (x : Operand) : Option AOp := match x with
  | .const (.slice none 0 0) => match P.underlying ty with
    | some (.slice e) => match P.info? e with
      | some i => match isSl P e with
        | true => some (.nilC e)
        | false => if 0 < i.size then some (.nilS e i.size) else none
      | none => none
    | _ => none
  | x => (copd x).map .mv
/-- An operation that yields into d. -/
def cop (P : Program) (d : Nat) (o : Oper) : Option AOp := match o.op with
  | .move x | .assign x => cmv P o.type x
  | .pick c a b => match copd c, copd a, copd b with
    | some c, some a, some b => some (.pick c a b)
    | _, _, _ => none
  | .alloc t => match zeroOf P t with
    | some z => if oneVs z.cells.toList then some (.alloc (zcells d (slicesIn P t) z.cells.toList 0).1 (zcells d (slicesIn P t) z.cells.toList 0).2) else none
    | none => none
  | .box _ x => (copd x).map .box
  | .build t parts => match P.underlying t, zeroOf P t with
    | some (.struct fs), some z => match cparts P fs parts.toList with
      | some ps => if oneVs z.cells.toList && fs.all fun f => (P.info? f.type).isSome then some (.build (zcells d (slicesIn P t) z.cells.toList 0).1 (zcells d (slicesIn P t) z.cells.toList 0).2 ps) else none
      | none => none
    | some (.array n e), some z => match P.info? e with
      | some i => match cparts P (virt e i.size n) parts.toList with
        | some ps => if oneVs z.cells.toList then some (.build (zcells d (slicesIn P t) z.cells.toList 0).1 (zcells d (slicesIn P t) z.cells.toList 0).2 ps) else none
        | none => none
      | none => none
    | _, _ => none
  | .buildSlice t len parts => match P.underlying t with
    | some (.slice e) => match P.info? e, copds (parts.toList.map (·.2)) with
      | some i, some xs => if 0 < i.size ∧ parts.toList.map (·.1) = List.range len ∧ len * i.size ≤ 2 ^ 24 ∧ (match i.zero with | some z => z.cells.size == i.size | none => false) = true then (match isSl P e with
        | true => if i.size = 1 then some (.bsliceC e xs) else none
        | false => some (.bslice e i.size xs)) else none
      | _, _ => none
    | _ => none
  | .load t x => match csize P t, copd x with
    | some s, some x => some (.load s x)
    | _, _ => none
  | .store t x y => match csize P t, copd x, copd y with
    | some (some 0), _, _ => none
    | some s, some x, some y => some (.store s x y)
    | _, _, _ => none
  | .binOp op t x y _ => match copd x, copd y with
    | some x, some y => match flatS P t with
      | some n => match op with
        | .eql => some (.eqS false n x y)
        | .neq => some (.eqS true n x y)
        | _ => none
      | none => match P.underlying t with
        | some (.int .i64) => match op with
          | .shr => some (.shr .i64 x y)
          | .and => some (.binU .i64 .and x y)
          | op => some (.bin op x y)
        | some (.int k) => match op with
          | .shr => some (.shr k x y)
          | op => some (.binU k op x y)
        | some .bool => match op with
          | .eql => some (.binB false x y)
          | .neq => some (.binB true x y)
          | _ => none
        | some .string => some (.strop op x y)
        | _ => none
    | _, _ => none
  | .unOp op _ x => match op, copd x with
    | .neg, some x => some (.neg x)
    | .not, some x => some (.not x)
    | _, _ => none
  | .fieldAddr s x i => match P.underlying s, copd x with
    | some (.struct fs), some x => match fs[i]? with
      | some f => match P.info? f.type with
        | some j => if j.size = 0 then none else some (.faddr f.offset x)
        | none => none
      | none => none
    | _, _ => none
  | .field s x i => match P.underlying s, copd x with
    | some (.struct fs), some x => match fs[i]? with
      | some f => match csize P f.type with
        | some z => some (.fld f.offset z x)
        | none => none
      | none => none
    | _, _ => none
  | .indexAddr t x i => match P.underlying t, copd x, copd i with
    | some (.slice e), some x, some i => match P.info? e with
      | some j => some (.iaddrS j.size x i)
      | none => none
    | some (.array n e), some x, some i => match P.info? e with
      | some j => some (.iaddrA n j.size x i)
      | none => none
    | _, _, _ => none
  | .index t x i => match P.underlying t, copd x, copd i with
    | some (.array n e), some x, some i => match P.info? e, csize P e with
      | some j, some s => some (.idxA n j.size s x i)
      | _, _ => none
    | some .string, some x, some i => some (.sidx x i)
    | _, _, _ => none
  | .extract x i => (copd x).map fun x => .ext x i
  | .makeSlice t l c => match P.underlying t, copd l, l, c with
    | some (.slice e), some x, .tmp i, .tmp j => match P.info? e with
      | some k => match k.zero with
        | some z => if i = j ∧ 0 < k.size ∧ z.cells.size = k.size ∧ oneVs z.cells.toList = true then some (.mks e k.size k.bytes z.cells.toList x) else none
        | none => none
      | none => none
    | some (.slice e), some x, .const (.int .i64 a), .const (.int .i64 b) => match P.info? e with
      | some k => match k.zero with
        | some z => if a = b ∧ 0 < k.size ∧ z.cells.size = k.size ∧ oneVs z.cells.toList = true then some (.mks e k.size k.bytes z.cells.toList x) else none
        | none => none
      | none => none
    | _, _, _, _ => none
  | .nilCheck x => (copd x).map .nchk
  | .slice t x lo hi mx => match P.underlying t, copd x, mx with
    | some (.slice e), some x, none => match P.info? e, lo, hi with
      | some j, none, none => some (.sl j.size x none none)
      | some j, some lo, none => (copd lo).map fun lo => .sl j.size x (some lo) none
      | some j, none, some hi => (copd hi).map fun hi => .sl j.size x none (some hi)
      | some j, some lo, some hi => match copd lo, copd hi with
        | some lo, some hi => some (.sl j.size x (some lo) (some hi))
        | _, _ => none
      | none, _, _ => none
    | some .string, some x, none => match lo, hi with
      | some lo, some hi => match copd lo, copd hi with
        | some lo, some hi => some (.ssub x lo hi)
        | _, _ => none
      | _, _ => none
    | _, _, _ => none
  | .sliceToArrayPointer t x => match P.underlying t, copd x with
    | some (.array n _), some x => some (.s2a n x)
    | _, _ => none
  | .convert s t x => match P.underlying s, P.underlying t, copd x with
    | some (.int _), some (.int k), some x => some (.conv k x)
    | _, _, _ => none
  | .makeMap _ none => some .mkm
  | .mapUpdate t m k v | .insert t m k v => match P.underlying t with
    | some (.map kt _) => match P.underlying kt, copd m, copd k, copd v with
      | some (.int .i64), some m, some k, some v => some (.mset m k v)
      | _, _, _, _ => none
    | _ => none
  | .range t x => match P.underlying t, copd x with
    | some (.map _ _), some x => some (.rng x)
    | _, _ => none
  | .entry x => (copd x).map .ent
  | .makeFunc (.func f) fst caps => match fst.toList, copds caps.toList with
    | [], some xs => some (.mkf f xs)
    | _, _ => none
  | .call c => match c.callee, copds c.args.toList with
    | .value (.func f), some xs => if isUser P f then some (.call f xs) else none
    | .value (.tmp t), some xs => some (.callc (.t t) xs)
    | .builtin .len, some [x] => match c.argTypes.toList with
      | [t] => match P.underlying t with
        | some (.slice _) => some (.len x)
        | some .string => some (.slen x)
        | _ => none
      | _ => none
    | .builtin .max, some [x, y] => some (.max2 x y)
    | .builtin .append, some [x, y] => match c.argTypes.toList with
      | [t, u] => if t = u then match P.underlying t with
        | some (.slice e) => match P.info? e with
          | some i => match i.zero with
            | some z => if 0 < i.size ∧ z.cells.size = i.size then some (.app e i.size i.bytes x y) else none
            | none => none
          | none => none
        | _ => none
        else none
      | _ => none
    | _, _ => none
  | _ => none

def appN : ML → Mem → Mem
  | [], M => M
  | (n, b) :: r, M => appN r (M.set n b)
def okN : ML → Mem → Prop
  | [], _ => True
  | (n, b) :: r, M => M n = none ∧ okN r (M.set n b)
def okU : ML → Mem → Prop
  | [], _ => True
  | (n, b) :: r, M => (M n).isSome = true ∧ okU r (M.set n b)
def Eff.app : Eff → Mem → Mem
  | .non, M => M
  | .new l, M => appN l M
  | .upd n b, M => M.set n b
  | .lent us l, M => appN l (appN us M)
def Eff.ok : Eff → Mem → Prop
  | .non, _ => True
  | .new l, M => okN l M
  | .upd n _, M => (M n).isSome = true
  | .lent us l, M => okU us M ∧ okN l (appN us M)
end Go.Proofs.Ytfbadfnhnaaeeaa
