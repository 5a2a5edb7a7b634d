/- Contracts: the lists of reduced forms. -/
import Derived.Test.YtnlabjnjcfapiaaF4
namespace Go.Proofs.Ytnlabjnjcfapiaa
set_option linter.unusedSimpArgs false
set_option linter.unusedVariables false
open Go.RowKit
set_option maxRecDepth 100000

abbrev T3 := Int × Int × Int
/-- Forms, as rows. -/
def fr (l : List T3) : List (List Value) := l.map fun f => [.int .i64 f.1, .int .i64 f.2.1, .int .i64 f.2.2]
@[simp] theorem fr_len (l : List T3) : (fr l).length = l.length := by simp [fr]
theorem fr_app (l m : List T3) : fr (l ++ m) = fr l ++ fr m := by simp [fr]
theorem fr_at {l : List T3} {i : Int} {k : List Value → Prop} (h : 0 ≤ i ∧ i < l.length) (hk : ∀ f, l[i.toNat]? = some f → k [.int .i64 f.1, .int .i64 f.2.1, .int .i64 f.2.2]) : ∃ es, (fr l)[i.toNat]? = some es ∧ k es := by
  have hi : i.toNat < l.length := by omega
  exact ⟨_, by simp [fr, hi], hk l[i.toNat] (by simp [hi])⟩

/-- The forms of discriminant d with first coefficient a: the first k of its middle ones. -/
def rowB (d a : Int) : Nat → List T3
  | 0 => []
  | k + 1 => rowB d a k ++ if ((1 - a + k) * (1 - a + k) - d) % (4 * a) = 0 ∧ red a (1 - a + k) (((1 - a + k) * (1 - a + k) - d) / (4 * a)) = true then [(a, 1 - a + k, ((1 - a + k) * (1 - a + k) - d) / (4 * a))] else []
def rowsA (d : Int) : Nat → List T3
  | 0 => []
  | n + 1 => rowsA d n ++ rowB d (n + 1) (2 * (n + 1))
theorem rowB_step {d a b : Int} {k : Nat} (hk : 1 - a + (k : Int) = b) : rowB d a (k + 1) = rowB d a k ++ if (b * b - d) % (4 * a) = 0 ∧ red a b ((b * b - d) / (4 * a)) = true then [(a, b, (b * b - d) / (4 * a))] else [] := by rw [rowB, hk]
theorem rowB_len (d a : Int) : ∀ k, (rowB d a k).length ≤ k
  | 0 => by simp [rowB]
  | k + 1 => by have := rowB_len d a k; simp only [rowB]; split <;> simp <;> omega
theorem rowsA_len (d : Int) : ∀ n, n ≤ 30 → (rowsA d n).length ≤ 60 * n
  | 0, _ => by simp [rowsA]
  | n + 1, h => by have := rowsA_len d n (by omega); have := rowB_len d (n + 1) (2 * (n + 1)); simp only [rowsA, List.length_append]; omega
/-- The greatest first coefficient. -/
noncomputable def topA (d : Int) : Int := Classical.epsilon fun A => 0 ≤ A ∧ 3 * A * A ≤ -d ∧ -d < 3 * (A + 1) * (A + 1)
theorem sq3 {a b : Int} (h0 : 0 ≤ a) (h : a ≤ b) : 3 * a * a ≤ 3 * b * b := Int.mul_le_mul (by omega) h h0 (by omega)
theorem topA_eq {d A : Int} (h0 : 0 ≤ A) (h1 : 3 * A * A ≤ -d) (h2 : -d < 3 * (A + 1) * (A + 1)) : topA d = A := by
  have h := Classical.epsilon_spec (p := fun A => 0 ≤ A ∧ 3 * A * A ≤ -d ∧ -d < 3 * (A + 1) * (A + 1)) ⟨A, h0, h1, h2⟩
  change 0 ≤ topA d ∧ 3 * topA d * topA d ≤ -d ∧ -d < 3 * (topA d + 1) * (topA d + 1) at h
  obtain ⟨k0, k1, k2⟩ := h
  rcases Int.lt_trichotomy (topA d) A with hl | hl | hl
  · have := sq3 (a := topA d + 1) (b := A) (by omega) (by omega); omega
  · exact hl
  · have := sq3 (a := A + 1) (b := topA d) (by omega) (by omega); omega
noncomputable def allR (d : Int) : List T3 := rowsA d (topA d).toNat

/-- The machine's numbers in these loops. -/
theorem in_loop {a b d : Int} (ha : 1 ≤ a) (ha2 : a ≤ 27) (hb : -27 ≤ b) (hb2 : b ≤ 28) (h1 : -2000 ≤ d) (h2 : d ≤ 0) :
    wrap64 (wrap64 (b * b) - d) = b * b - d ∧ wrap64 (4 * a) = 4 * a ∧ wrap64 ((b * b - d).tdiv (4 * a)) = (b * b - d) / (4 * a) ∧ (b * b - d).tmod (4 * a) = (b * b - d) % (4 * a) ∧
      ((dsc a b ((b * b - d) / (4 * a)) = d) ↔ (b * b - d) % (4 * a) = 0) ∧ 0 ≤ b * b ∧ b * b ≤ 784 := by
  have e0 : 0 ≤ b * b := by rcases Int.le_total 0 b with h | h <;> first | exact Int.mul_nonneg h h | exact Int.mul_nonneg_of_nonpos_of_nonpos h h
  have e1 : b * b ≤ 784 := by have := mul_bd (A := 28) (B := 28) (by omega) hb2 (by omega) hb2; omega
  have e2 : wrap64 (b * b) = b * b := wrap_small (by omega) (by omega)
  have e3 : wrap64 (4 * a) = 4 * a := wrap_small (by omega) (by omega)
  have e4 : 0 ≤ (b * b - d) / (4 * a) := Int.ediv_nonneg (by omega) (by omega)
  have e5 : (b * b - d) / (4 * a) ≤ b * b - d := Int.ediv_le_self _ (by omega)
  have e6 := Int.mul_ediv_add_emod (b * b - d) (4 * a)
  have e7 := Int.emod_nonneg (b * b - d) (show 4 * a ≠ 0 by omega)
  refine ⟨by rw [e2]; exact wrap_small (by omega) (by omega), e3, ?_, tmod_nonneg' (by omega), ?_, e0, e1⟩
  · rw [tdiv_nonneg' (by omega)]; exact wrap_small (by omega) (by omega)
  · have e8 : 0 ≤ 4 * a * ((b * b - d) / (4 * a)) := Int.mul_nonneg (by omega) e4
    rw [dsc, e2, e3, wrap_small (n := 4 * a * ((b * b - d) / (4 * a))) (by omega) (by omega), wrap_small (by omega) (by omega)]
    omega

/-- The next list, with a form more. -/
theorem next_in {d a b : Int} {R : List (List Value)} (e3 : R = fr (rowsA d (a - 1).toNat ++ rowB d a (b - (1 - a)).toNat)) (e1 : 1 - a ≤ b) (hz : (b * b - d) % (4 * a) = 0) (hr : red a b ((b * b - d) / (4 * a)) = true) :
    R ++ [[.int .i64 a, .int .i64 b, .int .i64 ((b * b - d) / (4 * a))]] = fr (rowsA d (a - 1).toNat ++ rowB d a (b + 1 - (1 - a)).toNat) := by
  rw [show (b + 1 - (1 - a)).toNat = (b - (1 - a)).toNat + 1 by omega, rowB_step (b := b) (by omega), if_pos ⟨hz, hr⟩, ← List.append_assoc, fr_app, ← e3]
  rfl
theorem next_out {d a b : Int} {R : List (List Value)} (e3 : R = fr (rowsA d (a - 1).toNat ++ rowB d a (b - (1 - a)).toNat)) (e1 : 1 - a ≤ b) (hz : ¬ ((b * b - d) % (4 * a) = 0 ∧ red a b ((b * b - d) / (4 * a)) = true)) :
    R = fr (rowsA d (a - 1).toNat ++ rowB d a (b + 1 - (1 - a)).toNat) := by
  rw [show (b + 1 - (1 - a)).toNat = (b - (1 - a)).toNat + 1 by omega, rowB_step (b := b) (by omega), if_neg hz, List.append_nil, ← e3]
/-- A row is done. -/
theorem next_row {d a : Int} {R : List (List Value)} (g1 : 1 ≤ a) (e3 : R = fr (rowsA d (a - 1).toNat ++ rowB d a (a + 1 - (1 - a)).toNat)) : R = fr (rowsA d (a + 1 - 1).toNat) := by
  rw [show (a + 1 - 1).toNat = (a - 1).toNat + 1 by omega, rowsA, show (((a - 1).toNat : Nat) : Int) + 1 = a by omega, show 2 * ((a - 1).toNat + 1) = (a + 1 - (1 - a)).toNat by omega]
  exact e3
theorem all_done {d a : Int} {R : List (List Value)} (g1 : 1 ≤ a) (h1 : 3 * (a - 1) * (a - 1) ≤ -d) (h2 : -d < 3 * a * a) (e : R = fr (rowsA d (a - 1).toNat)) : R = fr (allR d) := by
  rw [e, allR, topA_eq (A := a - 1) (by omega) h1 (by rw [show a - 1 + 1 = a by omega]; exact h2)]

end Go.Proofs.Ytnlabjnjcfapiaa
