/- An abstract machine for functions over integers, structs and slices: values, memory, one step. -/
import Derived.Test.YtfbadfnhnaaeeaaRows
import Derived.WalkKit
import Derived.WalkSpells
import Derived.WalkLawsBesides
import Derived.StillTactics
import Derived.Laws.Pointers
import Derived.Laws.StructEq
import Derived.Laws.OwnMore
import Derived.Laws.MakeOwn
import Derived.Orders
import Derived.Lib.Hide
import Derived.RowKit3
import Derived.Below
import Derived.Laws.Strings
import Derived.Laws.Strings2
import Derived.Laws.Slices
namespace Go.Proofs.Ytfbadfnhnaaeeaa
set_option linter.unusedSimpArgs false
set_option linter.unusedVariables false
open Go.RowKit

abbrev Nm := Nat × Nat

/-- A cell: unknown; a plain value; a pointer into a box; a pointer to an element of an own array; an own slice; a slice that only is read; a pointer into such; a part of an own slice; an own map or an iterator; a pointer to a box that holds a slice that only is read. -/
inductive C where
  | any
  | pv (v : Value)
  | ptr (n : Nm) (j : Nat)
  | eptr (n : Nm) (len i j : Nat)
  | slc (n : Nm) (len : Nat)
  | view (sz : Nat) (l : List (List Value))
  | vptr (es : List Value) (j : Nat)
  | sub (n : Nm) (len lo cnt : Nat)
  | ref (n : Nm)
  | pview (sz : Nat) (l : List (List Value))
  | pvw (v : Value) (sz : Nat) (l : List (List Value))

inductive V where
  | c (x : C)
  | agg (l : List C)
  | tup (l : List (Bool × List C))
  | clo (f : FuncId) (caps : List C)

inductive Blk where
  | bx (l : List C)
  | fl (e : TypeId) (sz : Nat) (l : List (List Value))
  | mp (clock : Nat) (l : List (Int × Value × Nat))
  | it (n : Nm) (since : Nat) (seen : List Nat) (c0 : Nat)
  | cs (e : TypeId) (l : List C)

/-- A block that is an array: the cells of an element, and how many elements. -/
def arrB : Blk → Option (Nat × Nat)
  | .fl _ sz l => some (sz, l.length)
  | .cs _ l => some (1, l.length)
  | _ => none

abbrev Mem := Nm → Option Blk
abbrev ML := List (Nm × Blk)

def nmB (m n : Nm) : Bool := match Nat.beq m.1 n.1 with
  | true => Nat.beq m.2 n.2
  | false => false
theorem nmB_iff {m n : Nm} : nmB m n = true ↔ m = n := by
  obtain ⟨a, b⟩ := m
  obtain ⟨c, d⟩ := n
  simp only [nmB]
  cases h : Nat.beq a c with
  | true => simp [Nat.eq_of_beq_eq_true h]
  | false => simp; intro e; exact absurd e (Nat.ne_of_beq_eq_false h)
def sem : ML → Mem
  | [], _ => none
  | (m, b) :: r, n => match nmB m n with
    | true => some b
    | false => sem r n
def Mem.set (M : Mem) (n : Nm) (b : Blk) : Mem := fun m => if m = n then some b else M m

/-! ### lists, by continuations -/
def getK {α : Type} : List α → Nat → (α → Prop) → Prop
  | [], _, _ => False
  | a :: _, 0, k => k a
  | _ :: l, n + 1, k => getK l n k
def setK {α : Type} : List α → Nat → α → (List α → Prop) → Prop
  | [], _, _, _ => False
  | _ :: l, 0, x, k => k (x :: l)
  | a :: l, n + 1, x, k => setK l n x fun l' => k (a :: l')
def dropK {α : Type} : List α → Nat → (List α → Prop) → Prop
  | l, 0, k => k l
  | [], _ + 1, _ => False
  | _ :: l, n + 1, k => dropK l n k
def takeK {α : Type} : List α → Nat → (List α → Prop) → Prop
  | _, 0, k => k []
  | [], _ + 1, _ => False
  | a :: l, n + 1, k => takeK l n fun l' => k (a :: l')
def spliceK {α : Type} : List α → List α → Nat → (List α → Prop) → Prop
  | [], l, _, k => k l
  | x :: xs, l, j, k => setK l j x fun l' => spliceK xs l' (j + 1) k
theorem getK_iff {α : Type} {l : List α} {n : Nat} {k : α → Prop} : getK l n k ↔ ∃ a, l[n]? = some a ∧ k a := by
  induction l generalizing n with
  | nil => simp [getK]
  | cons a l ih => cases n with
    | zero => simp [getK]
    | succ n => simp [getK, ih]
theorem setK_iff {α : Type} {l : List α} {n : Nat} {x : α} {k : List α → Prop} : setK l n x k ↔ n < l.length ∧ k (l.set n x) := by
  induction l generalizing n k with
  | nil => simp [setK]
  | cons a l ih => cases n with
    | zero => simp [setK]
    | succ n => simp [setK, ih]
theorem dropK_iff {α : Type} {l : List α} {n : Nat} {k : List α → Prop} : dropK l n k ↔ n ≤ l.length ∧ k (l.drop n) := by
  induction l generalizing n with
  | nil => cases n <;> simp [dropK]
  | cons a l ih => cases n with
    | zero => simp [dropK]
    | succ n => simp [dropK, ih]
theorem takeK_iff {α : Type} {l : List α} {n : Nat} {k : List α → Prop} : takeK l n k ↔ n ≤ l.length ∧ k (l.take n) := by
  induction l generalizing n k with
  | nil => cases n <;> simp [takeK]
  | cons a l ih => cases n with
    | zero => simp [takeK]
    | succ n => simp [takeK, ih]
/-- What a splice leaves. -/
def splice {α : Type} : List α → List α → Nat → List α
  | [], l, _ => l
  | x :: xs, l, j => splice xs (l.set j x) (j + 1)
theorem spliceK_iff {α : Type} {xs l : List α} {j : Nat} {k : List α → Prop} : spliceK xs l j k ↔ (xs = [] ∨ j + xs.length ≤ l.length) ∧ k (splice xs l j) := by
  induction xs generalizing l j k with
  | nil => simp [spliceK, splice]
  | cons x xs ih =>
    simp only [spliceK, setK_iff, ih, splice, List.length_set, List.length_cons]
    constructor
    · rintro ⟨h1, h2, h3⟩
      refine ⟨.inr ?_, h3⟩
      rcases h2 with h2 | h2
      · subst h2; simp; omega
      · omega
    · rintro ⟨h1, h3⟩
      rcases h1 with h1 | h1
      · cases h1
      · exact ⟨by omega, .inr (by omega), h3⟩
theorem splice_length {α : Type} (xs l : List α) (j : Nat) : (splice xs l j).length = l.length := by
  induction xs generalizing l j with
  | nil => rfl
  | cons x xs ih => simp [splice, ih]
theorem splice_get {α : Type} (xs l : List α) (j i : Nat) (h : xs = [] ∨ j + xs.length ≤ l.length) : (splice xs l j)[i]? = if j ≤ i ∧ i < j + xs.length then xs[i - j]? else l[i]? := by
  induction xs generalizing l j with
  | nil => simp [splice]; omega
  | cons x xs ih =>
    have h' : j + (xs.length + 1) ≤ l.length := by simpa using h
    rw [splice, ih _ _ (by simp; right; omega)]
    simp only [List.length_cons]
    by_cases h1 : i = j
    · subst h1
      rw [if_neg (by omega), if_pos (by omega), List.getElem?_set_self (by omega)]
      simp
    · rw [List.getElem?_set_ne (by omega)]
      by_cases h2 : j + 1 ≤ i ∧ i < j + 1 + xs.length
      · rw [if_pos h2, if_pos (by omega), show i - j = (i - (j + 1)) + 1 by omega]; simp
      · rw [if_neg h2, if_neg (by omega)]

/-! ### memory, by continuations -/
def lookK : ML → Nm → (Blk → Prop) → Prop
  | [], _, _ => False
  | (m, b) :: r, n, k => match nmB m n with
    | true => k b
    | false => lookK r n k
def updK : ML → Nm → Blk → (ML → Prop) → Prop
  | [], _, _, _ => False
  | (m, b) :: r, n, x, k => match nmB m n with
    | true => k ((m, x) :: r)
    | false => updK r n x fun r' => k ((m, b) :: r')
def insK : ML → Nm → Blk → (ML → Prop) → Prop
  | [], n, x, k => k [(n, x)]
  | (m, b) :: r, n, x, k => match nmB m n with
    | true => False
    | false => insK r n x fun r' => k ((m, b) :: r')
def newK : ML → ML → (ML → Prop) → Prop
  | [], m, k => k m
  | (n, b) :: r, m, k => insK m n b fun m' => newK r m' k
theorem lookK_iff {m : ML} {n : Nm} {k : Blk → Prop} : lookK m n k ↔ ∃ b, sem m n = some b ∧ k b := by
  induction m with
  | nil => simp [lookK, sem]
  | cons p r ih =>
    obtain ⟨a, b⟩ := p
    simp only [lookK, sem]
    cases nmB a n <;> simp [ih]
theorem updK_sem {m : ML} {n : Nm} {x : Blk} {k : ML → Prop} (h : updK m n x k) : ∃ m', sem m' = (sem m).set n x ∧ (sem m n).isSome = true ∧ k m' := by
  induction m generalizing k with
  | nil => simp [updK] at h
  | cons p r ih =>
    obtain ⟨a, b⟩ := p
    simp only [updK] at h
    cases hb : nmB a n with
    | true =>
      rw [hb] at h
      refine ⟨_, ?_, by simp [sem, hb], h⟩
      funext q
      have e := nmB_iff.1 hb
      subst e
      simp only [sem, Mem.set]
      cases hq : nmB a q with
      | true => rw [if_pos (nmB_iff.1 hq).symm]
      | false => rw [if_neg (fun e => by rw [nmB_iff.2 e.symm] at hq; cases hq)]
    | false =>
      rw [hb] at h
      obtain ⟨m', h1, h2, h3⟩ := ih h
      refine ⟨_, ?_, by simpa [sem, hb] using h2, h3⟩
      funext q
      simp only [sem, h1, Mem.set]
      cases hq : nmB a q with
      | true =>
        have hne : ¬ q = n := fun e => by rw [e, hb] at hq; cases hq
        simp [hne]
      | false => rfl
theorem insK_sem {m : ML} {n : Nm} {x : Blk} {k : ML → Prop} (h : insK m n x k) : ∃ m', sem m' = (sem m).set n x ∧ sem m n = none ∧ k m' := by
  induction m generalizing k with
  | nil =>
    refine ⟨_, ?_, rfl, h⟩
    funext q
    simp only [sem, Mem.set]
    cases hq : nmB n q with
    | true => rw [if_pos (nmB_iff.1 hq).symm]
    | false => rw [if_neg (fun e => by rw [nmB_iff.2 e.symm] at hq; cases hq)]
  | cons p r ih =>
    obtain ⟨a, b⟩ := p
    simp only [insK] at h
    cases hb : nmB a n with
    | true => rw [hb] at h; exact h.elim
    | false =>
      rw [hb] at h
      obtain ⟨m', h1, h2, h3⟩ := ih h
      refine ⟨_, ?_, by simpa [sem, hb] using h2, h3⟩
      funext q
      simp only [sem, h1, Mem.set]
      cases hq : nmB a q with
      | true =>
        have hne : ¬ q = n := fun e => by rw [e, hb] at hq; cases hq
        simp [hne]
      | false => rfl

/-! ### operations -/
inductive Opd where
  | t (i : Nat)
  | k (v : Value)

inductive AOp where
  | mv (x : Opd)
  | nilS (e : TypeId) (sz : Nat)
  | pick (c a b : Opd)
  | alloc (cells : List C) (nils : ML)
  | box (x : Opd)
  | build (cells : List C) (nils : ML) (parts : List (Nat × Option Nat × Opd))
  | bslice (e : TypeId) (sz : Nat) (parts : List Opd)
  | load (s : Option Nat) (x : Opd)
  | store (s : Option Nat) (x y : Opd)
  | bin (op : BinOp) (x y : Opd)
  | binB (ne : Bool) (x y : Opd)
  | eqS (neg : Bool) (n : Nat) (x y : Opd)
  | neg (x : Opd)
  | not (x : Opd)
  | faddr (off : Nat) (x : Opd)
  | fld (off : Nat) (s : Option Nat) (x : Opd)
  | iaddrS (sz : Nat) (x i : Opd)
  | iaddrA (n sz : Nat) (x i : Opd)
  | idxA (n sz : Nat) (s : Option Nat) (x i : Opd)
  | ext (x : Opd) (i : Nat)
  | len (x : Opd)
  | max2 (x y : Opd)
  | app (e : TypeId) (sz by_ : Nat) (x y : Opd)
  | sl (sz : Nat) (x : Opd) (lo hi : Option Opd)
  | mks (e : TypeId) (sz by_ : Nat) (z : List Value) (x : Opd)
  | call (f : FuncId) (xs : List Opd)
  | mkf (f : FuncId) (xs : List Opd)
  | callc (x : Opd) (xs : List Opd)
  | mkm
  | mset (x y z : Opd)
  | rng (x : Opd)
  | ent (x : Opd)
  | nchk (x : Opd)
  | nilC (e : TypeId)
  | bsliceC (e : TypeId) (parts : List Opd)
  | s2a (n : Nat) (x : Opd)
  | binU (kd : IntKind) (op : BinOp) (x y : Opd)
  | shr (kd : IntKind) (x y : Opd)
  | conv (kd : IntKind) (x : Opd)
  | strop (op : BinOp) (x y : Opd)
  | slen (x : Opd)
  | sidx (x i : Opd)
  | ssub (x lo hi : Opd)

/-- Is a value one cell? -/
def oneV : Value → Bool
  | .agg _ => false
  | .tuple _ => false
  | _ => true
def okC : C → Bool
  | .any => false
  | .pv v => oneV v
  | _ => true
def okCs : List C → Bool
  | [] => true
  | x :: r => match okC x with
    | true => okCs r
    | false => false
def oneVs : List Value → Bool
  | [] => true
  | x :: r => match oneV x with
    | true => oneVs r
    | false => false

def evK (T : List V) : Opd → (V → Prop) → Prop
  | .t i, k => getK T i k
  | .k v, k => k (.c (.pv v))
/-- The cells of a value that is boxed or stored. -/
def cellsK : V → (List C → Prop) → Prop
  | .c x, k => match okC x with
    | true => k [x]
    | false => False
  | .agg l, k => match okCs l with
    | true => k l
    | false => False
  | .tup _, _ => False
  | .clo _ _, _ => False
def pvsK : List C → (List Value → Prop) → Prop
  | [], k => k []
  | .pv v :: r, k => pvsK r fun l => k (v :: l)
  | _ :: _, _ => False
/-- The plain values of a value. -/
def valsK (v : V) (k : List Value → Prop) : Prop := cellsK v fun l => pvsK l k
def aggK : V → (List Value → Prop) → Prop
  | .agg l, k => pvsK l k
  | _, _ => False
def pvmap : List Value → List C
  | [] => []
  | v :: r => .pv v :: pvmap r
def pvmapK : List Value → (List C → Prop) → Prop
  | [], k => k []
  | v :: r, k => pvmapK r fun l => k (.pv v :: l)
def sizeB (s : Option Nat) (n : Nat) : Bool := match s with
  | none => Nat.beq n 1
  | some m => Nat.beq n m
def guardK (b : Bool) (k : Prop) : Prop := match b with
  | true => k
  | false => False
def mkV (s : Option Nat) (l : List C) (k : V → Prop) : Prop := match s, l with
  | none, [x] => k (.c x)
  | some _, l => k (.agg l)
  | _, _ => False
/-- Some cells as a value: one cell, or a struct of so many. -/
def loadC (s : Option Nat) (l : List C) (j : Nat) (k : V → Prop) : Prop := dropK l j fun l' => takeK l' (s.getD 1) fun l'' => mkV s l'' k
def loadV (s : Option Nat) (l : List Value) (j : Nat) (k : V → Prop) : Prop := dropK l j fun l' => takeK l' (s.getD 1) fun l'' => pvmapK l'' fun l3 => mkV s l3 k
def partsK (T : List V) : List (Nat × Option Nat × Opd) → List C → (List C → Prop) → Prop
  | [], cells, k => k cells
  | (off, s, x) :: r, cells, k => evK T x fun v => cellsK v fun l => guardK (sizeB s l.length) (spliceK l cells off fun cells' => partsK T r cells' k)
def rowsK (T : List V) (sz : Nat) : List Opd → (List (List Value) → Prop) → Prop
  | [], k => k []
  | x :: r, k => evK T x fun v => valsK v fun l => guardK (Nat.beq l.length sz) (rowsK T sz r fun rs => k (l :: rs))
def asI : Value → Option Int
  | .int .i64 a => some a
  | _ => none
theorem asI_some {v : Value} {a : Int} (h : asI v = some a) : v = .int .i64 a := by
  unfold asI at h
  split at h
  · cases h; rfl
  · cases h
def eqK : List Value → List Value → (Bool → Prop) → Prop
  | [], [], k => k true
  | x :: r, y :: r', k => match asI x, asI y with
    | some a, some b => eqK r r' fun c => k (a == b && c)
    | _, _ => False
  | _, _, _ => False

inductive Eff where
  | non
  | new (l : ML)
  | upd (n : Nm) (b : Blk)
  | lent (us l : ML)

def binK (op : BinOp) (k : Value → Prop) : V → V → Prop
  | .c (.pv (.int .i64 a)), .c (.pv (.int .i64 b)) => match op with
    | .add => k (.int .i64 (wrap64 (a + b)))
    | .sub => k (.int .i64 (wrap64 (a - b)))
    | .mul => k (.int .i64 (wrap64 (a * b)))
    | .quo => b ≠ 0 ∧ k (.int .i64 (wrap64 (a.tdiv b)))
    | .rem => b ≠ 0 ∧ k (.int .i64 (a.tmod b))
    | .eql => k (.bool (a == b))
    | .neq => k (.bool (a != b))
    | .lss => k (.bool (decide (a < b)))
    | .leq => k (.bool (decide (a ≤ b)))
    | .gtr => k (.bool (decide (b < a)))
    | .geq => k (.bool (decide (b ≤ a)))
    | _ => False
  | _, _ => False
/-- Integers of any kind. -/
def binUK (kd : IntKind) (op : BinOp) (k : Value → Prop) : V → V → Prop
  | .c (.pv (.int k1 a)), .c (.pv (.int k2 b)) => (k1 = kd ∧ k2 = kd) ∧ match op with
    | .add => k (.int kd (kd.wrap (a + b)))
    | .sub => k (.int kd (kd.wrap (a - b)))
    | .mul => k (.int kd (kd.wrap (a * b)))
    | .and => k (.int kd (kd.wrap ((BitVec.ofInt kd.bits a &&& BitVec.ofInt kd.bits b).toNat)))
    | .eql => k (.bool (a == b))
    | .neq => k (.bool (a != b))
    | .lss => k (.bool (decide (a < b)))
    | .leq => k (.bool (decide (a ≤ b)))
    | .gtr => k (.bool (decide (b < a)))
    | .geq => k (.bool (decide (b ≤ a)))
    | _ => False
  | _, _ => False
/-- Strings: joined, compared. -/
def strK (op : BinOp) (k : Value → Prop) : V → V → Prop
  | .c (.pv (.string a)), .c (.pv (.string b)) => match op with
    | .add => a.size + b.size ≤ 9223372036854775807 ∧ k (.string (a ++ b))
    | .eql => k (.bool (decide (a = b)))
    | .neq => k (.bool (!decide (a = b)))
    | _ => False
  | _, _ => False
/-- The cells of a literal whose elements are slices. -/
def cellsLK (T : List V) : List Opd → (List C → Prop) → Prop
  | [], k => k []
  | x :: r, k => evK T x fun
    | .c y => guardK (okC y) (cellsLK T r fun l => k (y :: l))
    | _ => False
end Go.Proofs.Ytfbadfnhnaaeeaa
