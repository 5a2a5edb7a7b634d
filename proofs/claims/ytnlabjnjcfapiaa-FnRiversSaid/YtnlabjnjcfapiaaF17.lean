/- Slices of forms: compared, marked, looked at again; AllReducedForms. -/
import Derived.Test.YtnlabjnjcfapiaaF13
import Derived.Test.YtnlabjnjcfapiaaF5
import Derived.Test.YtnlabjnjcfapiaaF8
namespace Go.Proofs.Ytnlabjnjcfapiaa
set_option linter.unusedSimpArgs false
set_option linter.unusedVariables false
open Go.RowKit
set_option maxRecDepth 100000

abbrev Vf (l : List T3) : V := .c (.view 3 (fr l))
abbrev FF (l : List T3) : Blk := .fl 25 3 (fr l)
theorem set_at {R : List (List Value)} {i : Nat} {x : List Value} {k : List Value → Prop} (h : i < R.length) (hk : k x) : ∃ es, (R.set i x)[i]? = some es ∧ k es := ⟨x, by rw [List.getElem?_set_self h], hk⟩

/-- Marked Forms. -/
def iotaForm (k : Int) : Nat → List T3
  | 0 => []
  | n + 1 => iotaForm k n ++ [(k + 3 * n, k + 3 * n + 1, k + 3 * n + 2)]
@[simp] theorem iotaForm_len (k : Int) : ∀ n, (iotaForm k n).length = n
  | 0 => rfl
  | n + 1 => by simp [iotaForm, iotaForm_len k n]
theorem iotaForm_get (k : Int) : ∀ (n i : Nat), i < n → (iotaForm k n)[i]? = some (k + 3 * i, k + 3 * i + 1, k + 3 * i + 2)
  | 0, i, h => by omega
  | n + 1, i, h => by
    simp only [iotaForm]
    by_cases e : i = n
    · subst e; rw [List.getElem?_append_right (by simp)]; simp
    · rw [List.getElem?_append_left (by simp; omega)]; exact iotaForm_get k n i (by omega)
def markedForm (l : List T3) (k : Int) (n : Nat) : List T3 := iotaForm k n ++ l.drop n
theorem markedForm_len {l : List T3} {k : Int} {n : Nat} (h : n ≤ l.length) : (markedForm l k n).length = l.length := by simp [markedForm]; omega
theorem markedForm_step {l : List T3} {k : Int} {n : Nat} (h : n < l.length) : (markedForm l k n).set n (k + 3 * n, k + 3 * n + 1, k + 3 * n + 2) = markedForm l k (n + 1) := by
  rw [markedForm, markedForm, iotaForm, List.set_append_right _ _ (by simp), iotaForm_len, Nat.sub_self, List.drop_eq_getElem_cons h, List.set_cons_zero, List.append_assoc]
  rfl
theorem markedForm_all {l : List T3} {k : Int} : markedForm l k l.length = iotaForm k l.length := by simp [markedForm]
theorem fr_set {l : List T3} {i : Nat} {x : T3} : (fr l).set i [.int .i64 x.1, .int .i64 x.2.1, .int .i64 x.2.2] = fr (l.set i x) := by simp [fr, List.map_set]

end Go.Proofs.Ytnlabjnjcfapiaa
