/- The abstract machine: laws of which some arguments are slices of integers. -/
import Derived.Test.YtnlabjnjcfapiaaE20
import Derived.ChangeSlices
import Derived.Lib.SmallJoins
namespace Go.Proofs.Ytnlabjnjcfapiaa
set_option linter.unusedSimpArgs false
set_option linter.unusedVariables false
open Go.RowKit Go.ChangeShapes Go.WideShapes Go.ChangeAt Go.Joins Go.Deep

/-- A LAW of which some arguments are only read: it returns true and leaves all that was there. -/
theorem law_of_afunV {P : Program} {f : FuncId} {args : List V} {b : Bool} {news : List Blk} (hf : AFun P f [] args (.c (.pv (.bool b))) [] news) (w : World) (vs : List Value) (hl : vs.length = args.length)
    (ha : ∀ (j : Nat) x v, args[j]? = some x → vs[j]? = some v → ConcV w (fun k => k < w.heap.size) (fun _ => undef) (semL []) x v) :
    Calls P f vs.toArray w fun e w' => e = .returned (.bool b) ∧ Below w.heap.size w w' := by
  refine (hf.2 w (fun k => k < w.heap.size) (fun _ => undef) vs ?_ (fun k hk => .inl hk) hl ha).mono ?_
  · exact ⟨fun k hk => hk, rfl, rfl, rfl, Nat.le_refl _, fun k _ => rfl, fun n b h => (by rw [semL_nil] at h; cases h), fun n m B h => absurd (semL_nil n) h⟩
  · rintro e w' ⟨v, G', rfl, hr, hv, -, -⟩
    refine ⟨?_, hr.os, hr.tape, hr.output, hr.size, fun k hk => hr.keep k hk⟩
    have : v = .bool b := hv
    rw [this]

/-- A slice of integers that came in. -/
def Came (w : World) (l : List Int) (v : Value) : Prop := ConcC w (fun k => k < w.heap.size) (fun _ => undef) (semL []) (.view 1 (l.map fun n => [.int .i64 n])) v

theorem came_of_trod {H : Type} {enc : TypeId × Value → H} {P : Program} {w : World} {spare : Nat → Bool} {held : Bool} {t e : TypeId} {fuel : Nat} {cs : List Value} {x : DataW H × List MemPlace}
    (ht : P.underlying t = some (.slice e)) (he : P.underlying e = some (.int .i64)) (hc : P.cellsOf e = 1) (h : DataW.trod enc P w 0 spare held fuel t cs = some x) :
    ∃ v l, cs = [v] ∧ Came w l v ∧ (∀ n ∈ l, -9223372036854775808 ≤ n ∧ n ≤ 9223372036854775807) ∧ l.length ≤ 9223372036854775807 := by
  rcases open_ints ht he hc h with ⟨rfl, _⟩ | ⟨a, len, cap, zs, rfl, _, hl, hm, hz, _, hcell, hwf⟩
  · exact ⟨_, [], rfl, ⟨none, 0, rfl, Nat.le_refl _, by simp, by simp, fun h => absurd rfl h⟩, by simp, by simp⟩
  · have hlz : len ≤ zs.length := by rw [hz]; split <;> omega
    have hlen : (zs.take len).length = len := by simp; omega
    refine ⟨_, zs.take len, rfl, ?_, fun n hn => ?_, by rw [hlen]; (have : maxLen = 9223372036854775807 := rfl); omega⟩
    · refine ⟨some a, cap, by rw [List.length_map, hlen], by simp; omega, ?_, ?_, fun hne => ?_⟩
      · intro r hr
        obtain ⟨n, _, rfl⟩ := List.mem_map.1 hr
        rfl
      · intro r hr v hv
        obtain ⟨n, _, rfl⟩ := List.mem_map.1 hr
        simp at hv
        subst hv
        rfl
      · have h0 : 0 < zs.length := by
          cases zs with
          | nil => simp at hne
          | cons _ _ => simp
        have c0 := hcell 0 h0
        obtain ⟨b, o, sp⟩ := a
        have hsp : sp = none := by
          cases sp with
          | none => rfl
          | some s =>
            simp only [Addr.add, if_true, World.cell?] at c0
            split at c0
            · simp at c0
            · cases c0
        subst hsp
        have hb : b < w.heap.size := by
          rw [Addr.add_lit] at c0
          simp only [World.cell?] at c0
          split at c0
          · rename_i hh
            exact (Array.getElem?_eq_some_iff.1 hh).1
          · cases c0
        refine ⟨b, o, rfl, hb, fun i r j v hi hj => ?_⟩
        rw [List.getElem?_map] at hi
        cases hzi : (zs.take len)[i]? with
        | none => rw [hzi] at hi; cases hi
        | some n =>
          rw [hzi] at hi
          simp at hi
          subst hi
          cases j with
          | succ j => simp at hj
          | zero =>
            simp at hj
            subst hj
            obtain ⟨hi1, hi2⟩ := List.getElem?_eq_some_iff.1 hzi
            have hi3 : i < zs.length := by rw [hlen] at hi1; omega
            have := hcell i hi3
            rw [Addr.add_lit] at this
            rw [Nat.mul_one, Nat.add_zero, this]
            have e : zs.getD i 0 = n := by
              rw [List.getElem_take] at hi2
              simp [List.getD_eq_getElem?_getD, hi3, hi2]
            rw [e]
    · have := hwf n (List.mem_of_mem_take hn)
      simp [Lit.wf, IntKind.min, IntKind.max, IntKind.signed, IntKind.bits] at this
      omega

/-- A slice of integers, an argument of its own. -/
theorem came_arg {H : Type} {enc : TypeId × Value → H} {P : Program} {w : World} {spare : Nat → Bool} {held : Bool} {t e : TypeId} {v : Value} {r : Reach} {b0 : Nat} {d : DataW H} {ps : List MemPlace}
    (ht : P.underlying t = some (.slice e)) (he : P.underlying e = some (.int .i64)) (hc : P.cellsOf e = 1) (hval : Value.okWide P w r b0 t v) (h : DataW.Trod enc P w 0 spare held t v d ps) :
    ∃ l, Came w l v ∧ (∀ n ∈ l, -9223372036854775808 ≤ n ∧ n ≤ 9223372036854775807) ∧ l.length ≤ 9223372036854775807 := by
  obtain ⟨a, len, cap, rfl⟩ := okWide_slice ht hval
  obtain ⟨fuel, hf⟩ := h
  obtain ⟨v', l, hv, h1, h2⟩ := came_of_trod ht he hc hf
  simp [Value.cells] at hv
  subst hv
  exact ⟨l, h1, h2⟩

/-- The arguments of a law, one by one. -/
def ArgsOk (w : World) : List V → List Value → Prop
  | [], [] => True
  | x :: r, v :: s => ConcV w (fun k => k < w.heap.size) (fun _ => undef) (semL []) x v ∧ ArgsOk w r s
  | _, _ => False
theorem argsOk {w : World} : ∀ {args : List V} {vs : List Value}, ArgsOk w args vs → vs.length = args.length ∧ ∀ (j : Nat) x v, args[j]? = some x → vs[j]? = some v → ConcV w (fun k => k < w.heap.size) (fun _ => undef) (semL []) x v
  | [], [], _ => ⟨rfl, fun j x v h => by simp at h⟩
  | x :: r, v :: s, h => by
    obtain ⟨h1, h2⟩ := argsOk h.2
    refine ⟨by simp [h1], fun j y u hy hu => ?_⟩
    cases j with
    | zero => simp at hy hu; subst hy hu; exact h.1
    | succ j => exact h2 j y u (by simpa using hy) (by simpa using hu)
  | [], _ :: _, h => h.elim
  | _ :: _, [], h => h.elim
theorem law_of_afunA {P : Program} {f : FuncId} {args : List V} {b : Bool} {news : List Blk} (hf : AFun P f [] args (.c (.pv (.bool b))) [] news) (w : World) {vs : List Value} (h : ArgsOk w args vs) :
    Calls P f vs.toArray w fun e w' => e = .returned (.bool b) ∧ Below w.heap.size w w' := law_of_afunV hf w vs (argsOk h).1 (argsOk h).2
theorem arg_int (w : World) (n : Int) : ConcV w (fun k => k < w.heap.size) (fun _ => undef) (semL []) (.c (.pv (.int .i64 n))) (.int .i64 n) := rfl
theorem arg_ints {w : World} {l : List Int} {v : Value} (h : Came w l v) : ConcV w (fun k => k < w.heap.size) (fun _ => undef) (semL []) (.c (.view 1 (l.map fun n => [.int .i64 n]))) v := h
theorem arg_word {w : World} {g : Int} {l : List Int} {v : Value} (h : Came w l v) : ConcV w (fun k => k < w.heap.size) (fun _ => undef) (semL []) (.agg [.pv (.int .i64 g), .view 1 (l.map fun n => [.int .i64 n])]) (.agg #[.int .i64 g, v]) :=
  ⟨_, rfl, rfl, fun j x hx => by
    match j, hx with
    | 0, hx => simp at hx; subst hx; exact ⟨_, rfl, rfl⟩
    | 1, hx => simp at hx; subst hx; exact ⟨_, rfl, h⟩
    | j + 2, hx => simp at hx⟩
theorem arg_plain {w : World} {x : V} (h : plainV x = true) : ConcV w (fun k => k < w.heap.size) (fun _ => undef) (semL []) x (valOf x) := conc_plain h

theorem array6 {α : Type} {cs : Array α} (h : cs.size = 6) : ∃ c0 c1 c2 c3 c4 c5, cs = #[c0, c1, c2, c3, c4, c5] := by
  obtain ⟨l⟩ := cs
  match l, h with
  | [c0, c1, c2, c3, c4, c5], _ => exact ⟨_, _, _, _, _, _, rfl⟩
/-- Three points, by value. -/
theorem open_node {H : Type} {enc : TypeId × Value → H} {P : Program} {w : World} {spare : Nat → Bool} {held : Bool} {t p e : TypeId} {f0 f1 f2 g0 g1 : Field} {v : Value} {r : Reach} {b0 base : Nat} {d : DataW H} {ps : List MemPlace}
    (ht : P.underlying t = some (.struct #[f0, f1, f2])) (hF : f0.offset = 0 ∧ f1.offset = 2 ∧ f2.offset = 4 ∧ f0.type = p ∧ f1.type = p ∧ f2.type = p) (hp : P.underlying p = some (.struct #[g0, g1])) (hG : g0.offset = 0 ∧ g1.offset = 1 ∧ g0.type = e ∧ g1.type = e)
    (he : P.underlying e = some (.int .i64)) (ct : P.cellsOf t = 6) (cp : P.cellsOf p = 2) (ce : P.cellsOf e = 1) (hval : Value.okWide P w r b0 t v) (h : DataW.Trod enc P w base spare held t v d ps) :
    ∃ a0 a1 a2 a3 a4 a5 : Int, v = .agg #[.int .i64 a0, .int .i64 a1, .int .i64 a2, .int .i64 a3, .int .i64 a4, .int .i64 a5] ∧ (Lit.int .i64 a0).wf = true ∧ (Lit.int .i64 a1).wf = true ∧ (Lit.int .i64 a2).wf = true ∧ (Lit.int .i64 a3).wf = true ∧ (Lit.int .i64 a4).wf = true ∧ (Lit.int .i64 a5).wf = true := by
  obtain ⟨cs, rfl, hsz⟩ := okWide_struct ht hval
  obtain ⟨c0, c1, c2, c3, c4, c5, rfl⟩ := array6 (hsz.trans ct)
  obtain ⟨fuel, hf⟩ := h
  obtain ⟨y0, y1, y2, n, _, _, h0, h1, h2⟩ := trod_struct3 ht hf
  obtain ⟨o0, o1, o2, t0, t1, t2⟩ := hF
  obtain ⟨q0, q1, u0, u1⟩ := hG
  rw [o0, t0, cp] at h0
  rw [o1, t1, cp] at h1
  rw [o2, t2, cp] at h2
  obtain ⟨_, _, _, _, _, k0, k1⟩ := trod_struct2 hp h0
  obtain ⟨_, _, _, _, _, k2, k3⟩ := trod_struct2 hp h1
  obtain ⟨_, _, _, _, _, k4, k5⟩ := trod_struct2 hp h2
  rw [q0, u0, ce] at k0 k2 k4
  rw [q1, u1, ce] at k1 k3 k5
  obtain ⟨a0, e0, _, w0⟩ := DataW.trod_int he k0
  obtain ⟨a1, e1, _, w1⟩ := DataW.trod_int he k1
  obtain ⟨a2, e2, _, w2⟩ := DataW.trod_int he k2
  obtain ⟨a3, e3, _, w3⟩ := DataW.trod_int he k3
  obtain ⟨a4, e4, _, w4⟩ := DataW.trod_int he k4
  obtain ⟨a5, e5, _, w5⟩ := DataW.trod_int he k5
  simp [Value.cells] at e0 e1 e2 e3 e4 e5
  subst e0 e1 e2 e3 e4 e5
  exact ⟨_, _, _, _, _, _, rfl, w0, w1, w2, w3, w4, w5⟩
end Go.Proofs.Ytnlabjnjcfapiaa
