/- Reduction of definite forms: the walks; AreEquivalent, ReductionTrail. -/
import Derived.Test.YtnlabjnjcfapiaaF23
import Derived.Test.YtnlabjnjcfapiaaG1
namespace Go.Proofs.Ytnlabjnjcfapiaa
set_option linter.unusedSimpArgs false
set_option linter.unusedVariables false
open Go.RowKit
set_option maxRecDepth 100000
set_option maxHeartbeats 2000000

def redT (f : T3) : Bool := red f.1 f.2.1 f.2.2
def rdS : Nat → T3 → T4 → T3 × T4
  | 0, f, m => (f, m)
  | k + 1, f, m => if redT f then (f, m) else rdS k (nxF f) (mulT m (stp f.1 f.2.1 f.2.2))
theorem mr_zero {f : T3} : mr f = 0 → redT f = true := fun h => by
  unfold mr at h
  split at h
  · assumption
  · split at h <;> omega
theorem nx_gd' {f : T3} (h : gd f) (hr : redT f = false) : gd (nxF f) ∧ mr (nxF f) < mr f := by
  obtain ⟨a, b, c⟩ := f
  exact nx_gd h hr
theorem rdS_fuel : ∀ (k j : Nat) (f : T3) (m : T4), gd f → mr f ≤ k → mr f ≤ j → rdS k f m = rdS j f m
  | 0, 0, f, m, _, _, _ => rfl
  | 0, j + 1, f, m, h, h1, h2 => by simp only [rdS]; rw [if_pos (mr_zero (by omega))]
  | k + 1, 0, f, m, h, h1, h2 => by simp only [rdS]; rw [if_pos (mr_zero (by omega))]
  | k + 1, j + 1, f, m, h, h1, h2 => by
    simp only [rdS]
    split
    · rfl
    · rename_i hr
      obtain ⟨g1, g2⟩ := nx_gd' h (by simpa using hr)
      exact rdS_fuel k j _ _ g1 (by omega) (by omega)
def rdM (f : T3) (m : T4) : T3 × T4 := rdS (mr f) f m
theorem rdM_step {f : T3} {m : T4} (h : gd f) (hr : redT f = false) : rdM f m = rdM (nxF f) (mulT m (stp f.1 f.2.1 f.2.2)) := by
  obtain ⟨g1, g2⟩ := nx_gd' h hr
  obtain ⟨k, hk⟩ : ∃ k, mr f = k + 1 := ⟨mr f - 1, by omega⟩
  rw [rdM, hk, rdS, if_neg (by simp [hr]), rdM]
  exact rdS_fuel _ _ _ _ g1 (by omega) (by omega)
theorem rdM_stop {f : T3} {m : T4} (hr : redT f = true) : rdM f m = (f, m) := by
  rw [rdM]
  cases h : mr f with
  | zero => rfl
  | succ k => rw [rdS, if_pos hr]
abbrev c3 (f : T3) : List C := [cI f.1, cI f.2.1, cI f.2.2]
abbrev c4 (m : T4) : List C := [cI m.1, cI m.2.1, cI m.2.2.1, cI m.2.2.2]
def rdR (f : T3) : T3 × T4 := rdM f (1, 0, 0, 1)


structure Gd (f : T3) : Prop where
  out : gd f


def aeB (f g : T3) : Bool := dfn f.1 f.2.1 f.2.2 && dfn g.1 g.2.1 g.2.2
def aeE (f g : T3) : Bool := aeB f g && decide ((rdR f).1 = (rdR g).1)
abbrev PBB (x y : Bool) : V := .tup [(false, [cB x]), (false, [cB y])]

/-! ReductionTrail -/
def trS : Nat → T3 → List T3
  | 0, _ => []
  | k + 1, f => if redT f then [] else nxF f :: trS k (nxF f)
theorem trS_fuel : ∀ (k j : Nat) (f : T3), gd f → mr f ≤ k → mr f ≤ j → trS k f = trS j f
  | 0, 0, f, _, _, _ => rfl
  | 0, j + 1, f, h, h1, h2 => by simp only [trS]; rw [if_pos (mr_zero (by omega))]
  | k + 1, 0, f, h, h1, h2 => by simp only [trS]; rw [if_pos (mr_zero (by omega))]
  | k + 1, j + 1, f, h, h1, h2 => by
    simp only [trS]
    split
    · rfl
    · rename_i hr
      obtain ⟨g1, g2⟩ := nx_gd' h (by simpa using hr)
      rw [trS_fuel k j _ g1 (by omega) (by omega)]
theorem trS_len : ∀ (k : Nat) (f : T3), (trS k f).length ≤ k
  | 0, f => Nat.le_refl _
  | k + 1, f => by
    simp only [trS]
    split
    · simp
    · have := trS_len k (nxF f); simp; omega
def trF (f : T3) : List T3 := trS (mr f) f
theorem trF_step {f : T3} (h : gd f) (hr : redT f = false) : trF f = nxF f :: trF (nxF f) := by
  obtain ⟨g1, g2⟩ := nx_gd' h hr
  obtain ⟨k, hk⟩ : ∃ k, mr f = k + 1 := ⟨mr f - 1, by omega⟩
  rw [trF, hk, trS, if_neg (by simp [hr]), trF]
  rw [trS_fuel k (mr (nxF f)) _ g1 (by omega) (by omega)]
theorem trF_stop {f : T3} (hr : redT f = true) : trF f = [] := by
  rw [trF]
  cases h : mr f with
  | zero => rfl
  | succ k => rw [trS, if_pos hr]
theorem mr_bd {f : T3} (h : gd f) : mr f ≤ 3000002 := by
  have := h.1
  have := h.2.1
  unfold mr
  split
  · omega
  · split <;> omega
def rtG (f : T3) : Bool := dfn f.1 f.2.1 f.2.2
def rtL (f : T3) : List T3 := if rtG f then f :: trF f else []

end Go.Proofs.Ytnlabjnjcfapiaa
