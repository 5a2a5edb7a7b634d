/- SameCycle. -/
import Derived.Test.YtnlabjnjcfapiaaHA
namespace Go.Proofs.Ytnlabjnjcfapiaa
open Go.RowKit
set_option linter.unusedSimpArgs false
set_option linter.unusedVariables false
set_option maxRecDepth 100000
set_option maxHeartbeats 2000000

def dsF (f : T3) : Int := dsc f.1 f.2.1 f.2.2
def rcT (f : T3) : T3 × T4 × Bool := if cgG f then rcR (dsF f) f else (z3, z4, false)
noncomputable def cyT (f : T3) : List T3 := cyO (dsF f) f (cyP (dsF f) f)
theorem rcT_CG {f : T3} (h : (rcT f).2.2 = true) : CG (dsF (rcT f).1) (rcT f).1 := by
  unfold rcT at h ⊢
  by_cases hg : cgG f = true
  · rw [if_pos hg] at h ⊢
    obtain ⟨h1, h2⟩ := rcR_cyc (IG_of hg) h
    have e : dsF (rcR (dsF f) f).1 = dsF f := h1.dsc
    rw [e]
    exact ⟨h1, h2⟩
  · rw [if_neg hg] at h; cases h
theorem cyT_len {f : T3} (h : CG (dsF f) f) : (cyT f).length ≤ 2016 := by
  rw [cyT, cyO_len]
  exact (cyP_spec h.g h.c).2.1

theorem impl_ReduceT (a b c : Int) : AFun Try.prog 29 [] [Fo a b c] (P3 (c3 (rcT (a, b, c)).1) (c4 (rcT (a, b, c)).2.1) (rcT (a, b, c)).2.2) [] [] := impl_ReduceIndefinite a b c

theorem impl_cycleT (a b c : Int) (h : CG (dsF (a, b, c)) (a, b, c)) : AFun Try.prog 30 [] [Fo a b c] (.c (.slc (0, 0) (cyT (a, b, c)).length)) [] [FF (cyT (a, b, c))] := by
  have := impl_cycle _ a b c h
  rw [cyT, cyO_len]
  exact this


def scB (f g : T3) : Bool := (rcT f).2.2 && (rcT g).2.2
noncomputable def scE (f g : T3) : Bool := scB f g && decide ((rcT g).1 ∈ cyT (rcT f).1)

theorem rcT_no {f : T3} (h : cgG f = false) : (rcT f).2.2 = false := by simp [rcT, h]

end Go.Proofs.Ytnlabjnjcfapiaa
