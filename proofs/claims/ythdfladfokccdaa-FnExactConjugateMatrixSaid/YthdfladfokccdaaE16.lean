/- The abstract machine: its code is Go's code; contracts out of walks. -/
import Derived.Test.YthdfladfokccdaaED
namespace Go.Proofs.Ythdfladfokccdaa
set_option linter.unusedSimpArgs false
set_option linter.unusedVariables false
open Go.RowKit

def toExit : X → Exit
  | .normal => .normal
  | .exit id => .exit id
  | .ret => .ret

section
variable {P : Program} {w0 : World} {F : Nat → Prop} {nl : Nat} {pins : List (C × Value)} {w : World} {T : List V} {m : ML} {a : Act}

/-- The pins are aliases of lent blocks. -/
def PinsOk (nl : Nat) (pins : List (C × Value)) : Prop := ∀ p, p ∈ pins → ∃ i len, i < nl ∧ p.1 = .slc (0, i) len

theorem conc_sub {G : Gh} {m m' : ML} (h : ∀ n b, sem m' n = some b → sem m n = some b) {x : C} {v : Value} (hn : nameC m' x = true) (hc : ConcC w0 F G (sem m) x v) : ConcC w0 F G (sem m') x v := by
  have key : ∀ n, (sem m' n).isSome = true → sem m' n = sem m n := fun n hs => by
    obtain ⟨b, hb⟩ := Option.isSome_iff_exists.1 hs
    rw [hb, h n b hb]
  cases x with
  | any => trivial
  | pv _ => exact hc
  | ptr n j => obtain ⟨B, h1, h2, l, h3⟩ := hc; exact ⟨B, h1, h2, l, by rw [key n hn]; exact h3⟩
  | eptr n len i j => obtain ⟨e, sz, l, h1, h2⟩ := hc; exact ⟨e, sz, l, by rw [key n hn]; exact h1, h2⟩
  | slc n len => obtain ⟨e, sz, l, h1, h2⟩ := hc; exact ⟨e, sz, l, by rw [key n hn]; exact h1, h2⟩
  | view _ _ => exact hc
  | vptr _ _ => exact hc
theorem nameCs_iff {m : ML} {l : List C} : nameCs m l = true ↔ ∀ x ∈ l, nameC m x = true := by
  induction l with
  | nil => simp [nameCs]
  | cons x r ih =>
    simp only [nameCs]
    cases h : nameC m x <;> simp [h, ih]
theorem nameT_iff {m : ML} {l : List V} : nameT m l = true ↔ ∀ x ∈ l, nameV m x = true := by
  induction l with
  | nil => simp [nameT]
  | cons x r ih =>
    simp only [nameT]
    cases h : nameV m x <;> simp [h, ih]
theorem concs_sub {G : Gh} {m m' : ML} (h : ∀ n b, sem m' n = some b → sem m n = some b) {l : List C} {vs : List Value} (hn : nameCs m' l = true) (hc : ConcCs w0 F G (sem m) l vs) : ConcCs w0 F G (sem m') l vs :=
  ⟨hc.1, fun j x hx => let ⟨v, h1, h2⟩ := hc.2 j x hx; ⟨v, h1, conc_sub h (nameCs_iff.1 hn x (List.mem_of_getElem? hx)) h2⟩⟩
theorem concV_sub {G : Gh} {m m' : ML} (h : ∀ n b, sem m' n = some b → sem m n = some b) {x : V} {v : Value} (hn : nameV m' x = true) (hc : ConcV w0 F G (sem m) x v) : ConcV w0 F G (sem m') x v := by
  cases x with
  | c x => exact conc_sub h hn hc
  | agg l => obtain ⟨vs, h1, h2⟩ := hc; exact ⟨vs, h1, concs_sub h hn h2⟩
  | tup l =>
    obtain ⟨vs, h1, h2, h3⟩ := hc
    refine ⟨vs, h1, h2, fun j p hp => ?_⟩
    obtain ⟨u, h4, h5⟩ := h3 j p hp
    refine ⟨u, h4, ?_⟩
    have hp' := List.all_eq_true.1 hn p (List.mem_of_getElem? hp)
    obtain ⟨b, l'⟩ := p
    cases b with
    | false =>
      obtain ⟨x, rfl, hx⟩ := h5
      exact ⟨x, rfl, conc_sub h (nameCs_iff.1 hp' x (by simp)) hx⟩
    | true =>
      obtain ⟨us, e1, e2⟩ := h5
      exact ⟨us, e1, concs_sub h hp' e2⟩

theorem Weak.sound {T' : List V} {m' : ML} (h : Weak nl T m T' m') (hp : PinsOk nl pins) (hR : RelS w0 F pins T m a w) : RelS w0 F pins T' m' a w := by
  obtain ⟨G, r1, r2, r3⟩ := hR
  refine ⟨G, { bd := r1.bd, os := r1.os, tape := r1.tape, output := r1.output, size := r1.size, keep := r1.keep, own := fun n b hn => ?_, dist := fun n q B hn hq => r1.dist n q B ?_ ?_ }, ⟨?_, r2.defers, fun i x hx => ?_⟩, fun p hpin => ?_⟩
  · have h1 := r1.own n b (h.mem n b hn)
    cases b with
    | bx l => obtain ⟨B, c, ety, q1, q2, q3, q4⟩ := h1; exact ⟨B, c, ety, q1, q2, q3, concs_sub h.mem (h.boxes n l hn) q4⟩
    | fl e sz l => exact h1
  · obtain ⟨b, hb⟩ := Option.ne_none_iff_exists'.1 hn
    rw [h.mem n b hb]; simp
  · obtain ⟨b, hb⟩ := Option.ne_none_iff_exists'.1 hq
    rw [h.mem q b hb]; simp
  · rw [r2.size, h.len]
  · have hlt : i < T.length := by rw [← h.len]; exact (List.getElem?_eq_some_iff.1 hx).1
    rcases h.tm i x hx with rfl | h1
    · obtain ⟨v, q1, q2⟩ := r2.tm i T[i] (List.getElem?_eq_getElem hlt)
      exact ⟨v, q1, trivial⟩
    · obtain ⟨v, q1, q2⟩ := r2.tm i x h1
      exact ⟨v, q1, concV_sub h.mem (nameT_iff.1 h.names x (List.mem_of_getElem? hx)) q2⟩
  · obtain ⟨i, len, hi, he⟩ := hp p hpin
    exact conc_sub h.mem (by rw [he]; exact h.lent i hi) (r3 p hpin)

theorem wpA_sound (hp : PinsOk nl pins) : ∀ (c : Code) {ac : AC} {T : List V} {m : ML} {a : Act} {w : World} {k : X → List V → ML → Prop} {Q : Exit → Act → World → Prop}, ccode P c = some ac → wpA P nl ac T m k → RelS w0 F pins T m a w →
    (∀ e T' m' a' w', k e T' m' → RelS w0 F pins T' m' a' w' → Q (toExit e) a' w') → c.wp P Q a w
  | .skip, ac, T, m, a, w, k, Q, hc, h, hR, hk => by
    simp only [ccode, Option.some.injEq] at hc
    subst hc
    exact wp_skip (hk .normal _ _ _ _ h hR)
  | .region id ops draw, ac, T, m, a, w, k, Q, hc, h, hR, hk => by
    simp only [ccode] at hc
    split at hc
    · rename_i hd
      subst hd
      split at hc
      · rename_i hm
        simp only [Bool.and_eq_true] at hm
        obtain ⟨its, h1, rfl⟩ := oneOpt hc
        rcases forget_ex h with h | ⟨T1, m1, hw, h⟩
        · exact dreg_sound hm.1 hm.2 h1 h hR fun T' m' a' w' h2 h3 => hk .normal _ _ _ _ h2 h3
        · exact dreg_sound hm.1 hm.2 h1 h (hw.sound hp hR) fun T' m' a' w' h2 h3 => hk .normal _ _ _ _ h2 h3
      · cases hc
    · rename_i hd
      obtain ⟨its, h1, rfl⟩ := oneOpt hc
      have : draw = false := by simpa using hd
      subst this
      rcases forget_ex h with h | ⟨T1, m1, hw, h⟩
      · exact wp_region_list (runIt_sound _ h1 h hR fun T' m' a' w' h2 h3 => hk .normal _ _ _ _ h2 h3)
      · exact wp_region_list (runIt_sound _ h1 h (hw.sound hp hR) fun T' m' a' w' h2 h3 => hk .normal _ _ _ _ h2 h3)
  | .seq x y, ac, T, m, a, w, k, Q, hc, h, hR, hk => by
    simp only [ccode] at hc
    split at hc
    · rename_i ax ay hx hy
      cases hc
      refine wp_seq (wpA_sound hp x hx h hR fun e T' m' a' w' h1 h2 => ?_)
      cases e with
      | normal => exact wpA_sound hp y hy h1 h2 hk
      | exit id => exact hk (.exit id) _ _ _ _ h1 h2
      | ret => exact hk .ret _ _ _ _ h1 h2
    · cases hc
  | .cond c x y, ac, T, m, a, w, k, Q, hc, h, hR, hk => by
    simp only [ccode] at hc
    split at hc
    · rename_i c' ax ay hcc hx hy
      cases hc
      obtain ⟨u, hu, hv⟩ := evK_ex hcc h
      match u, hu with
      | .c (.pv (.bool t)), hu =>
        obtain ⟨G, r1, r2, r3⟩ := hR
        have e : a.eval c = .bool t := hv w0 F G (sem m) T a (fun _ _ => rfl) r2
        exact wp_cond_split e (fun ht => wpA_sound hp x hx (hu.1 ht) ⟨G, r1, r2, r3⟩ hk) (fun ht => wpA_sound hp y hy (hu.2 ht) ⟨G, r1, r2, r3⟩ hk)
    · cases hc
  | .block id x, ac, T, m, a, w, k, Q, hc, h, hR, hk => by
    simp only [ccode] at hc
    obtain ⟨ax, hx, rfl⟩ := oneOpt hc
    refine wp_block (wpA_sound hp x hx h hR fun e T' m' a' w' h1 h2 => ?_)
    cases e with
    | normal => exact hk .normal _ _ _ _ h1 h2
    | exit i =>
      simp only at h1
      simp only [toExit, Exit.inBlock]
      cases hb : Nat.beq i id with
      | true =>
        rw [hb] at h1
        rw [if_pos (Nat.eq_of_beq_eq_true hb)]
        exact hk .normal _ _ _ _ h1 h2
      | false =>
        rw [hb] at h1
        rw [if_neg (Nat.ne_of_beq_eq_false hb)]
        exact hk (.exit i) _ _ _ _ h1 h2
    | ret => exact hk .ret _ _ _ _ h1 h2
  | .loop x, ac, T, m, a, w, k, Q, hc, h, hR, hk => by
    simp only [ccode] at hc
    split at hc
    · rename_i ax hx
      cases hc
      obtain ⟨σ, sp, mem, ok, μ0, ⟨s0, g1, g2, g3⟩, hnm, hround0⟩ := h.ex
      let I : Nat → List V → ML → Prop := fun n T1 m1 => ∃ s, ok s ∧ n = μ0 s ∧ T1 = sets (hav T (flags (writes ax))) (sp s) ∧ m1 = mem s
      have hw0 : Weak nl T m (sets (hav T (flags (writes ax))) (sp s0)) (mem s0) := weak_mk rfl g2 g3 (hnm s0).1 (hnm s0).2.1 (hnm s0).2.2
      have hI0 : I (μ0 s0) (sets (hav T (flags (writes ax))) (sp s0)) (mem s0) := ⟨s0, g1, rfl, rfl, rfl⟩
      let J : Act → World → Nat → Prop := fun a w n => ∃ T m, I n T m ∧ RelS w0 F pins T m a w
      have hJ0 : J a w (μ0 s0) := ⟨_, _, hI0, hw0.sound hp hR⟩
      have least : ∀ (p : Nat → Prop) (n : Nat), p n → ∃ q, p q ∧ ∀ r, p r → q ≤ r := by
        intro p n
        induction n using Nat.strongRecOn with
        | _ n ih =>
          intro hn
          by_cases he : ∃ r, r < n ∧ p r
          · obtain ⟨r, hr, hpr⟩ := he
            exact ih r hr hpr
          · exact ⟨n, hn, fun r hr => Nat.le_of_not_lt fun hlt => he ⟨r, hlt, hr⟩⟩
      have hμ : ∃ μ : Act → World → Nat, ∀ a w n, J a w n → J a w (μ a w) ∧ μ a w ≤ n := by
        have : ∀ a w, ∃ q, ∀ n, J a w n → J a w q ∧ q ≤ n := fun a w => by
          by_cases he : ∃ n, J a w n
          · obtain ⟨n, hn⟩ := he
            obtain ⟨q, h1, h2⟩ := least (J a w) n hn
            exact ⟨q, fun n hn => ⟨h1, h2 n hn⟩⟩
          · exact ⟨0, fun n hn => absurd ⟨n, hn⟩ he⟩
        exact ⟨fun a w => Classical.choose (this a w), fun a w n hn => Classical.choose_spec (this a w) n hn⟩
      obtain ⟨μ, hμ⟩ := hμ
      refine wp_loop (fun a w => ∃ n, J a w n) μ ⟨_, hJ0⟩ fun a w ⟨n, hn⟩ => ?_
      obtain ⟨T1, m1, ⟨s, hs, hμs, rfl, rfl⟩, hR1⟩ := (hμ a w n hn).1
      refine wpA_sound hp x hx (hround0 s hs) hR1 fun e T' m' a' w' h1 h2 => ?_
      cases e with
      | normal =>
        obtain ⟨s', q1, q2, q3, q4, q5⟩ := h1
        have hw := weak_mk (nl := nl) q3 q4 q5 (hnm s').1 (hnm s').2.1 (hnm s').2.2
        have hJ' : J a' w' (μ0 s') := ⟨_, _, ⟨s', q1, rfl, rfl, rfl⟩, hw.sound hp h2⟩
        exact ⟨⟨_, hJ'⟩, Nat.lt_of_le_of_lt (hμ a' w' _ hJ').2 (by rw [hμs]; exact q2)⟩
      | exit id => exact hk (.exit id) _ _ _ _ h1 h2
      | ret => exact hk .ret _ _ _ _ h1 h2
    · cases hc
  | .exit id, ac, T, m, a, w, k, Q, hc, h, hR, hk => by
    simp only [ccode, Option.some.injEq] at hc
    subst hc
    exact wp_exit (hk (.exit id) _ _ _ _ h hR)
  | .ret, ac, T, m, a, w, k, Q, hc, h, hR, hk => by
    simp only [ccode, Option.some.injEq] at hc
    subst hc
    exact wp_ret (hk .ret _ _ _ _ h hR)
  | .rangeFunc _ _ _ _, ac, T, m, a, w, k, Q, hc, h, hR, hk => by simp [ccode] at hc
  | .scope _, ac, T, m, a, w, k, Q, hc, h, hR, hk => by simp [ccode] at hc
  | .label _, ac, T, m, a, w, k, Q, hc, h, hR, hk => by simp [ccode] at hc
  | .goto _, ac, T, m, a, w, k, Q, hc, h, hR, hk => by simp [ccode] at hc
  | .refuse _, ac, T, m, a, w, k, Q, hc, h, hR, hk => by simp [ccode] at hc
end
end Go.Proofs.Ythdfladfokccdaa
