/- Slices of integers: compared, marked, looked at again. -/
import Derived.Test.YtnlabjnjcfapiaaF2
namespace Go.Proofs.Ytnlabjnjcfapiaa
set_option linter.unusedSimpArgs false
set_option linter.unusedVariables false
open Go.RowKit
set_option maxRecDepth 100000

abbrev FI (l : List Int) : Blk := .fl 3 1 (ints l)
abbrev PS (n : Nat) (b : Bool) : V := .tup [(false, [.slc (0, 0) n]), (false, [cB b])]
/-- k, k + 1, .. -/
def iota (k : Int) : Nat → List Int
  | 0 => []
  | n + 1 => iota k n ++ [k + n]
@[simp] theorem iota_len (k : Int) : ∀ n, (iota k n).length = n
  | 0 => rfl
  | n + 1 => by simp [iota, iota_len k n]
theorem iota_get (k : Int) : ∀ (n i : Nat), i < n → (iota k n)[i]? = some (k + i)
  | 0, i, h => by omega
  | n + 1, i, h => by
    simp only [iota]
    by_cases e : i = n
    · subst e; rw [List.getElem?_append_right (by simp)]; simp
    · rw [List.getElem?_append_left (by simp; omega)]; exact iota_get k n i (by omega)
/-- A list of which the first n integers are marked. -/
def marked (l : List Int) (k : Int) (n : Nat) : List Int := iota k n ++ l.drop n
theorem marked_len {l : List Int} {k : Int} {n : Nat} (h : n ≤ l.length) : (marked l k n).length = l.length := by simp [marked]; omega
theorem marked_step {l : List Int} {k : Int} {n : Nat} (h : n < l.length) : (marked l k n).set n (k + n) = marked l k (n + 1) := by
  rw [marked, marked, iota, List.set_append_right _ _ (by simp), iota_len, Nat.sub_self, List.drop_eq_getElem_cons h, List.set_cons_zero, List.append_assoc]
  rfl
theorem marked_all {l : List Int} {k : Int} : marked l k l.length = iota k l.length := by simp [marked]
theorem ints_set {l : List Int} {i : Nat} {n : Int} : (ints l).set i [.int .i64 n] = ints (l.set i n) := by simp [ints, List.map_set]
theorem ints_app (l l' : List Int) : ints (l ++ l') = ints l ++ ints l' := by simp [ints]

end Go.Proofs.Ytnlabjnjcfapiaa
