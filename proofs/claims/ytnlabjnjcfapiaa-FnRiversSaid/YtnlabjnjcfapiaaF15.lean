/- CornacchiaSteps. -/
import Derived.Test.YtnlabjnjcfapiaaF14
namespace Go.Proofs.Ytnlabjnjcfapiaa
set_option linter.unusedSimpArgs false
set_option linter.unusedVariables false
open Go.RowKit
set_option maxRecDepth 100000

/-- The first of n integers from i on at which f holds. -/
def find (f : Int → Bool) : Nat → Int → Option Int
  | 0, _ => none
  | n + 1, i => if f i then some i else find f n (i + 1)
theorem find_none {f : Int → Bool} {hi i : Int} (h : hi ≤ i) : find f (hi - i).toNat i = none := by rw [show (hi - i).toNat = 0 by omega]; rfl
theorem find_hit {f : Int → Bool} {hi i : Int} (h : i < hi) (hf : f i = true) : find f (hi - i).toNat i = some i := by
  rw [show (hi - i).toNat = (hi - (i + 1)).toNat + 1 by omega, find, if_pos hf]
theorem find_next {f : Int → Bool} {hi i : Int} (h : i < hi) (hf : f i = false) : find f (hi - i).toNat i = find f (hi - (i + 1)).toNat (i + 1) := by
  rw [show (hi - i).toNat = (hi - (i + 1)).toNat + 1 by omega, find, if_neg (by simp [hf])]
theorem find_some {f : Int → Bool} : ∀ {n : Nat} {i r : Int}, find f n i = some r → i ≤ r ∧ r < i + n ∧ f r = true
  | 0, i, r, h => by cases h
  | n + 1, i, r, h => by
    simp only [find] at h
    split at h
    · cases h; exact ⟨by omega, by omega, by assumption⟩
    · have := find_some h; exact ⟨by omega, by omega, this.2.2⟩

/-- The remainders of a and b, down to the root of p. -/
def euL (p a b : Int) : List Int := if h : p < b * b ∧ 0 < b then (a.tmod b) :: euL p b (a.tmod b) else []
termination_by b.toNat
decreasing_by
  have := Int.tmod_lt_of_pos a h.2
  omega
theorem euL_stop {p a b : Int} (h : b * b ≤ p) : euL p a b = [] := by rw [euL, dif_neg (by omega)]
theorem euL_step {p a b : Int} (h : p < b * b) (hb : 0 < b) : euL p a b = a.tmod b :: euL p b (a.tmod b) := by rw [euL, dif_pos ⟨h, hb⟩]
def csF (n p r : Int) : Bool := (r * r + n).tmod p == 0
def csO (p : Int) (o : Option Int) : List Int := match o with
  | some r => [p, r] ++ euL p p r
  | none => []
def csL (n p : Int) : List Int := csO p (find (csF n p) (p - (p / 2 + 1)).toNat (p / 2 + 1))
noncomputable def csG (n p : Int) : Bool := decide (1 ≤ n) && decide (n ≤ 500) && shp p && !decide (p = 2) && !decide (n.tmod p = 0) && !decide (csL n p = [])
noncomputable def csR (n p : Int) : List Int := if csG n p then csL n p else []

theorem eu_len (p : Int) : ∀ (k : Nat) (a b : Int), b.toNat ≤ k → (euL p a b).length ≤ k
  | 0, a, b, h => by rw [euL, dif_neg (by omega)]; exact Nat.le_refl _
  | k + 1, a, b, h => by
    rw [euL]
    split
    · rename_i hc
      have := Int.tmod_lt_of_pos a hc.2
      have := eu_len p k b (a.tmod b) (by omega)
      simp; omega
    · exact Nat.zero_le _
theorem csL_bd {n p : Int} (h4 : p ≤ 10000) : (csL n p).length ≤ 10002 := by
  unfold csL csO
  split
  · rename_i r hr
    have := (find_some hr).2.1
    have := eu_len p r.toNat p r (Nat.le_refl _)
    have := (find_some hr).1
    simp; omega
  · simp

end Go.Proofs.Ytnlabjnjcfapiaa
