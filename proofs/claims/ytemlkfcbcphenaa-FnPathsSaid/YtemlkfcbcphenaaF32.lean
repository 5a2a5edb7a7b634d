/- Slices of nodes. -/
import Derived.Test.YtemlkfcbcphenaaF13
import Derived.Test.YtemlkfcbcphenaaF17
import Derived.Test.YtemlkfcbcphenaaF31
namespace Go.Proofs.Ytemlkfcbcphenaa
set_option linter.unusedSimpArgs false
set_option linter.unusedVariables false
open Go.RowKit
set_option maxRecDepth 100000
set_option maxHeartbeats 2000000

def nds (l : List N6) : List (List Value) := l.map fun n => [.int .i64 n.1.1, .int .i64 n.1.2, .int .i64 n.2.1.1, .int .i64 n.2.1.2, .int .i64 n.2.2.1, .int .i64 n.2.2.2]
@[simp] theorem nds_len (l : List N6) : (nds l).length = l.length := by simp [nds]
theorem nds_app (l l' : List N6) : nds (l ++ l') = nds l ++ nds l' := by simp [nds]
theorem nds_at {l : List N6} {i : Int} {k : List Value → Prop} (h : 0 ≤ i ∧ i < l.length) (hk : ∀ q, l[i.toNat]? = some q → k [.int .i64 q.1.1, .int .i64 q.1.2, .int .i64 q.2.1.1, .int .i64 q.2.1.2, .int .i64 q.2.2.1, .int .i64 q.2.2.2]) : ∃ es, (nds l)[i.toNat]? = some es ∧ k es := by
  have hi : i.toNat < l.length := by omega
  exact ⟨_, by simp [nds, hi], hk l[i.toNat] (by simp [hi])⟩

abbrev VNode (l : List N6) : V := .c (.view 6 (nds l))
abbrev BNode (l : List N6) : Blk := .fl 32 6 (nds l)
/-- Marked. -/
def iotaNode (k : Int) : Nat → List N6
  | 0 => []
  | n + 1 => iotaNode k n ++ [((k + 6 * n, k + 6 * n + 1), (k + 6 * n + 2, k + 6 * n + 3), (k + 6 * n + 4, k + 6 * n + 5))]
@[simp] theorem iotaNode_len (k : Int) : ∀ n, (iotaNode k n).length = n
  | 0 => rfl
  | n + 1 => by simp [iotaNode, iotaNode_len k n]
theorem iotaNode_get (k : Int) : ∀ (n i : Nat), i < n → (iotaNode k n)[i]? = some ((k + 6 * i, k + 6 * i + 1), (k + 6 * i + 2, k + 6 * i + 3), (k + 6 * i + 4, k + 6 * i + 5))
  | 0, i, h => by omega
  | n + 1, i, h => by
    simp only [iotaNode]
    by_cases e : i = n
    · subst e; rw [List.getElem?_append_right (by simp)]; simp
    · rw [List.getElem?_append_left (by simp; omega)]; exact iotaNode_get k n i (by omega)
def markedNode (l : List N6) (k : Int) (n : Nat) : List N6 := iotaNode k n ++ l.drop n
theorem markedNode_len {l : List N6} {k : Int} {n : Nat} (h : n ≤ l.length) : (markedNode l k n).length = l.length := by simp [markedNode]; omega
theorem markedNode_step {l : List N6} {k : Int} {n : Nat} (h : n < l.length) : (markedNode l k n).set n ((k + 6 * n, k + 6 * n + 1), (k + 6 * n + 2, k + 6 * n + 3), (k + 6 * n + 4, k + 6 * n + 5)) = markedNode l k (n + 1) := by
  rw [markedNode, markedNode, iotaNode, List.set_append_right _ _ (by simp), iotaNode_len, Nat.sub_self, List.drop_eq_getElem_cons h, List.set_cons_zero, List.append_assoc]
  rfl
theorem markedNode_all {l : List N6} {k : Int} : markedNode l k l.length = iotaNode k l.length := by simp [markedNode]
theorem nds_set {l : List N6} {i : Nat} {x : N6} : (nds l).set i [.int .i64 x.1.1, .int .i64 x.1.2, .int .i64 x.2.1.1, .int .i64 x.2.1.2, .int .i64 x.2.2.1, .int .i64 x.2.2.2] = nds (l.set i x) := by simp [nds, List.map_set]

end Go.Proofs.Ytemlkfcbcphenaa
