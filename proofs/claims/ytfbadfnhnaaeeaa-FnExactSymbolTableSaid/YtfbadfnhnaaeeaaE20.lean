/- The abstract machine: from a law's contract to what the row asks. -/
import Derived.Test.YtfbadfnhnaaeeaaE19
namespace Go.Proofs.Ytfbadfnhnaaeeaa
set_option linter.unusedSimpArgs false
set_option linter.unusedVariables false
open Go.RowKit

def valC : C → Value
  | .pv v => v
  | _ => undef
def valOf : V → Value
  | .c x => valC x
  | .agg l => .agg (l.map valC).toArray
  | .tup _ => undef
  | .clo _ _ => undef
def isPv : C → Bool
  | .pv _ => true
  | _ => false
def plainV : V → Bool
  | .c x => isPv x
  | .agg l => l.all isPv
  | .tup _ => false
  | .clo _ _ => false
theorem conc_pv {w : World} {F : Nat → Prop} {G : Gh} {M : Mem} {x : C} (h : isPv x = true) : ConcC w F G M x (valC x) := by
  cases x <;> first | rfl | cases h
theorem conc_plain {w : World} {F : Nat → Prop} {G : Gh} {M : Mem} {x : V} (h : plainV x = true) : ConcV w F G M x (valOf x) := by
  cases x with
  | c x => exact conc_pv h
  | tup l => cases h
  | clo f l => cases h
  | agg l =>
    refine ⟨_, rfl, by simp, fun j x hj => ?_⟩
    refine ⟨valC x, by simp [hj], conc_pv ?_⟩
    exact List.all_eq_true.1 h x (List.mem_of_getElem? hj)

theorem semL_nil (n : Nm) : semL [] n = none := by unfold semL; split <;> simp

/-- A LAW: it returns true and leaves all that was there. -/
theorem law_of_afun {P : Program} {f : FuncId} {args : List V} {b : Bool} {news : List Blk} (hf : AFun P f [] args (.c (.pv (.bool b))) [] news) (hp : args.all plainV = true) (w : World) :
    Calls P f (args.map valOf).toArray w fun e w' => e = .returned (.bool b) ∧ Below w.heap.size w w' := by
  refine (hf.2 w (fun k => k < w.heap.size) (fun _ => undef) (args.map valOf) ?_ (fun k hk => .inl hk) (by simp) ?_).mono ?_
  · exact ⟨fun k hk => hk, rfl, rfl, rfl, Nat.le_refl _, fun k _ => rfl, fun n b h => (by rw [semL_nil] at h; cases h), fun n m B h => absurd (semL_nil n) h⟩
  · intro j x v hx hv
    simp [hx] at hv
    subst hv
    exact conc_plain (List.all_eq_true.1 hp x (List.mem_of_getElem? hx))
  · rintro e w' ⟨v, G', rfl, hr, hv, -, -⟩
    refine ⟨?_, hr.os, hr.tape, hr.output, hr.size, fun k hk => hr.keep k hk⟩
    have : v = .bool b := hv
    rw [this]
theorem leafI {x y : Int} (h : x = y) : eqC (.pv (.int .i64 x)) (.pv (.int .i64 y)) := h ▸ rfl
theorem leafB {x y : Bool} (h : x = y) : eqC (.pv (.bool x)) (.pv (.bool y)) := h ▸ rfl
theorem leafRI {x y : Int} (h : x = y) : eqRes [(false, [.pv (.int .i64 x)])] (.c (.pv (.int .i64 y))) := leafI h
theorem leafRB {x y : Bool} (h : x = y) : eqRes [(false, [.pv (.bool x)])] (.c (.pv (.bool y))) := leafB h
end Go.Proofs.Ytfbadfnhnaaeeaa
