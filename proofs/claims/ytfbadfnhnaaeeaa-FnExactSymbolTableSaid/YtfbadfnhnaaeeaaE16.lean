/- The abstract machine: its code is Go's code; contracts out of walks. -/
import Derived.Test.YtfbadfnhnaaeeaaED
namespace Go.Proofs.Ytfbadfnhnaaeeaa
set_option linter.unusedSimpArgs false
set_option linter.unusedVariables false
open Go.RowKit

def toExit : X → Exit
  | .normal => .normal
  | .exit id => .exit id
  | .ret => .ret

section
variable {P : Program} {w0 : World} {F : Nat → Prop} {nl : Nat} {pins : List (C × Value)} {w : World} {T : List V} {m : ML} {a : Act}

/-- The pins are aliases of lent blocks. -/
def PinsOk (nl : Nat) (pins : List (C × Value)) : Prop := ∀ p, p ∈ pins → ∃ i, i < nl ∧ ((∃ len, p.1 = .slc (0, i) len) ∨ p.1 = .ptr (0, i) 0)

theorem conc_sub {G : Gh} {m m' : ML} (h : ∀ n b, sem m' n = some b → sem m n = some b) {x : C} {v : Value} (hn : nameC m' x = true) (hc : ConcC w0 F G (sem m) x v) : ConcC w0 F G (sem m') x v := by
  have key : ∀ n, (sem m' n).isSome = true → sem m' n = sem m n := fun n hs => by
    obtain ⟨b, hb⟩ := Option.isSome_iff_exists.1 hs
    rw [hb, h n b hb]
  cases x with
  | any => trivial
  | pv _ => exact hc
  | ptr n j => obtain ⟨B, h1, h2, l, h3⟩ := hc; exact ⟨B, h1, h2, l, by rw [key n hn]; exact h3⟩
  | eptr n len i j => obtain ⟨e, sz, l, h1, h2⟩ := hc; exact ⟨e, sz, l, by rw [key n hn]; exact h1, h2⟩
  | slc n len => obtain ⟨e, sz, l, h1, h2⟩ := hc; exact ⟨e, sz, l, by rw [key n hn]; exact h1, h2⟩
  | view _ _ => exact hc
  | vptr _ _ => exact hc
  | sub n len lo cnt => obtain ⟨e, sz, l, h1, h2⟩ := hc; exact ⟨e, sz, l, by rw [key n hn]; exact h1, h2⟩
  | ref n => obtain ⟨h1, h2, b, h3, h4⟩ := hc; exact ⟨h1, h2, b, by rw [key n hn]; exact h3, h4⟩
  | pview _ _ => exact hc
  | pvw _ _ _ => exact hc
theorem nameCs_iff {m : ML} {l : List C} : nameCs m l = true ↔ ∀ x ∈ l, nameC m x = true := by
  induction l with
  | nil => simp [nameCs]
  | cons x r ih =>
    simp only [nameCs]
    cases h : nameC m x <;> simp [h, ih]
theorem nameT_iff {m : ML} {l : List V} : nameT m l = true ↔ ∀ x ∈ l, nameV m x = true := by
  induction l with
  | nil => simp [nameT]
  | cons x r ih =>
    simp only [nameT]
    cases h : nameV m x <;> simp [h, ih]
theorem concs_sub {G : Gh} {m m' : ML} (h : ∀ n b, sem m' n = some b → sem m n = some b) {l : List C} {vs : List Value} (hn : nameCs m' l = true) (hc : ConcCs w0 F G (sem m) l vs) : ConcCs w0 F G (sem m') l vs :=
  ⟨hc.1, fun j x hx => let ⟨v, h1, h2⟩ := hc.2 j x hx; ⟨v, h1, conc_sub h (nameCs_iff.1 hn x (List.mem_of_getElem? hx)) h2⟩⟩
theorem concV_sub {G : Gh} {m m' : ML} (h : ∀ n b, sem m' n = some b → sem m n = some b) {x : V} {v : Value} (hn : nameV m' x = true) (hc : ConcV w0 F G (sem m) x v) : ConcV w0 F G (sem m') x v := by
  cases x with
  | c x => exact conc_sub h hn hc
  | agg l => obtain ⟨vs, h1, h2⟩ := hc; exact ⟨vs, h1, concs_sub h hn h2⟩
  | clo f l => obtain ⟨vs, h1, h2⟩ := hc; exact ⟨vs, h1, concs_sub h hn h2⟩
  | tup l =>
    obtain ⟨vs, h1, h2, h3⟩ := hc
    refine ⟨vs, h1, h2, fun j p hp => ?_⟩
    obtain ⟨u, h4, h5⟩ := h3 j p hp
    refine ⟨u, h4, ?_⟩
    have hp' := List.all_eq_true.1 hn p (List.mem_of_getElem? hp)
    obtain ⟨b, l'⟩ := p
    cases b with
    | false =>
      obtain ⟨x, rfl, hx⟩ := h5
      exact ⟨x, rfl, conc_sub h (nameCs_iff.1 hp' x (by simp)) hx⟩
    | true =>
      obtain ⟨us, e1, e2⟩ := h5
      exact ⟨us, e1, concs_sub h hp' e2⟩

theorem Weak.sound {T' : List V} {m' : ML} (h : Weak nl T m T' m') (hp : PinsOk nl pins) (hR : RelS w0 F pins T m a w) : RelS w0 F pins T' m' a w := by
  obtain ⟨G, r1, r2, r3⟩ := hR
  refine ⟨G, { bd := r1.bd, os := r1.os, tape := r1.tape, output := r1.output, size := r1.size, keep := r1.keep, own := fun n b hn => ?_, dist := fun n q B hn hq => r1.dist n q B ?_ ?_ }, ⟨?_, r2.defers, fun i x hx => ?_⟩, fun p hpin => ?_⟩
  · have h1 := r1.own n b (h.mem n b hn)
    cases b with
    | bx l => obtain ⟨B, c, ety, q1, q2, q3, q4⟩ := h1; exact ⟨B, c, ety, q1, q2, q3, concs_sub h.mem (h.boxes n _ hn) q4⟩
    | fl e sz l => exact h1
    | mp c l => exact h1
    | cs e l => obtain ⟨vs, q1, q2⟩ := h1; exact ⟨vs, concs_sub h.mem (h.boxes n _ hn) q1, q2⟩
    | it q s e c => obtain ⟨B, Bm, q1, q2, q3, q4⟩ := h1; exact ⟨B, Bm, q1, q2, conc_sub (x := .ref q) h.mem (h.boxes n _ hn) q3, q4⟩
  · obtain ⟨b, hb⟩ := Option.ne_none_iff_exists'.1 hn
    rw [h.mem n b hb]; simp
  · obtain ⟨b, hb⟩ := Option.ne_none_iff_exists'.1 hq
    rw [h.mem q b hb]; simp
  · rw [r2.size, h.len]
  · have hlt : i < T.length := by rw [← h.len]; exact (List.getElem?_eq_some_iff.1 hx).1
    rcases h.tm i x hx with rfl | h1
    · obtain ⟨v, q1, q2⟩ := r2.tm i T[i] (List.getElem?_eq_getElem hlt)
      exact ⟨v, q1, trivial⟩
    · obtain ⟨v, q1, q2⟩ := r2.tm i x h1
      exact ⟨v, q1, concV_sub h.mem (nameT_iff.1 h.names x (List.mem_of_getElem? hx)) q2⟩
  · obtain ⟨i, hi, he⟩ := hp p hpin
    refine conc_sub h.mem ?_ (r3 p hpin)
    rcases he with ⟨len, he⟩ | he <;> rw [he] <;> exact h.lent i hi

/-! ### two names exchanged -/
theorem nmB_self (n : Nm) : nmB n n = true := nmB_iff.2 rfl
theorem swN_eq (p q n : Nm) : swN p q n = if n = p then q else if n = q then p else n := by
  unfold swN
  cases h : nmB n p with
  | true => rw [if_pos (nmB_iff.1 h)]
  | false =>
    have hp : n ≠ p := fun e => by rw [nmB_iff.2 e] at h; cases h
    rw [if_neg hp]
    cases h2 : nmB n q with
    | true => rw [if_pos (nmB_iff.1 h2)]
    | false => rw [if_neg fun e => by rw [nmB_iff.2 e] at h2; cases h2]
theorem swN_inv (p q n : Nm) : swN p q (swN p q n) = n := by
  simp only [swN_eq]
  by_cases h : n = p
  · rw [if_pos h]
    by_cases h2 : q = p
    · rw [if_pos h2, h, h2]
    · rw [if_neg h2, if_pos rfl, h]
  · rw [if_neg h]
    by_cases h2 : n = q
    · rw [if_pos h2, if_pos rfl, h2]
    · rw [if_neg h2, if_neg h, if_neg h2]
theorem sem_sw (p q : Nm) : ∀ (m : ML) (n : Nm), sem (swM p q m) (swN p q n) = (sem m n).map (swB p q)
  | [], n => rfl
  | (r, b) :: m, n => by
    simp only [swM, sem]
    cases h : nmB r n with
    | true => rw [nmB_iff.1 h, nmB_self]; rfl
    | false =>
      cases h2 : nmB (swN p q r) (swN p q n) with
      | true =>
        have := congrArg (swN p q) (nmB_iff.1 h2)
        rw [swN_inv, swN_inv] at this
        rw [nmB_iff.2 this] at h; cases h
      | false => exact sem_sw p q m n
theorem sem_sw' (p q : Nm) (m : ML) (n : Nm) : sem (swM p q m) n = (sem m (swN p q n)).map (swB p q) := by
  rw [← sem_sw, swN_inv]
theorem swCs_len' (p q : Nm) : ∀ (l : List C), (swCs p q l).length = l.length
  | [] => rfl
  | x :: r => by simp [swCs, swCs_len' p q r]
theorem arrB_sw (p q : Nm) (b : Blk) : arrB (swB p q b) = arrB b := by
  cases b <;> first | rfl | simp [swB, arrB, swCs_len']
theorem conc_sw {p q : Nm} {G : Gh} {x : C} {v : Value} (h : ConcC w0 F G (sem m) x v) : ConcC w0 F (fun n => G (swN p q n)) (sem (swM p q m)) (swC p q x) v := by
  cases x with
  | any => trivial
  | pv _ => exact h
  | ptr n j => obtain ⟨B, h1, h2, l, h3⟩ := h; exact ⟨B, by dsimp only; rw [swN_inv]; exact h1, h2, swCs p q l, by rw [sem_sw, h3]; rfl⟩
  | eptr n len i j =>
    obtain ⟨b, sz, l, h1, h0, h2, h3, h4⟩ := h
    exact ⟨swB p q b, sz, l, by rw [sem_sw, h1]; rfl, by rw [arrB_sw]; exact h0, h2, h3, fun hl => by dsimp only; rw [swN_inv]; exact h4 hl⟩
  | slc n len =>
    obtain ⟨b, sz, l, h1, h0, h2, h3, h4⟩ := h
    exact ⟨swB p q b, sz, l, by rw [sem_sw, h1]; rfl, by rw [arrB_sw]; exact h0, h2, h3, fun hl => by dsimp only; rw [swN_inv]; exact h4 hl⟩
  | view _ _ => exact h
  | vptr _ _ => exact h
  | sub n len lo cnt =>
    obtain ⟨e, sz, l, h1, h2, h3, h4⟩ := h
    exact ⟨e, sz, l, by rw [sem_sw, h1]; rfl, h2, h3, fun hl => by dsimp only; rw [swN_inv]; exact h4 hl⟩
  | pview _ _ => exact h
  | pvw _ _ _ => exact h
  | ref n =>
    obtain ⟨h1, h2, b, h3, h4⟩ := h
    exact ⟨by dsimp only; rw [swN_inv]; exact h1, h2, swB p q b, by rw [sem_sw, h3]; rfl, by cases b <;> first | rfl | cases h4⟩
theorem swCs_get (p q : Nm) : ∀ (l : List C) (j : Nat), (swCs p q l)[j]? = (l[j]?).map (swC p q)
  | [], j => by simp [swCs]
  | x :: r, 0 => by simp [swCs]
  | x :: r, j + 1 => by simp [swCs, swCs_get p q r j]
theorem swCs_len (p q : Nm) : ∀ (l : List C), (swCs p q l).length = l.length
  | [] => rfl
  | x :: r => by simp [swCs, swCs_len p q r]
theorem swPs_get (p q : Nm) : ∀ (l : List (Bool × List C)) (j : Nat), (swPs p q l)[j]? = (l[j]?).map fun x => (x.1, swCs p q x.2)
  | [], j => by simp [swPs]
  | x :: r, 0 => by simp [swPs]
  | x :: r, j + 1 => by simp [swPs, swPs_get p q r j]
theorem swPs_len (p q : Nm) : ∀ (l : List (Bool × List C)), (swPs p q l).length = l.length
  | [] => rfl
  | x :: r => by simp [swPs, swPs_len p q r]
theorem swT_get (p q : Nm) : ∀ (l : List V) (j : Nat), (swT p q l)[j]? = (l[j]?).map (swV p q)
  | [], j => by simp [swT]
  | x :: r, 0 => by simp [swT]
  | x :: r, j + 1 => by simp [swT, swT_get p q r j]
theorem swT_len (p q : Nm) : ∀ (l : List V), (swT p q l).length = l.length
  | [] => rfl
  | x :: r => by simp [swT, swT_len p q r]
theorem concs_sw {p q : Nm} {G : Gh} {l : List C} {vs : List Value} (h : ConcCs w0 F G (sem m) l vs) : ConcCs w0 F (fun n => G (swN p q n)) (sem (swM p q m)) (swCs p q l) vs :=
  ⟨by rw [swCs_len]; exact h.1, fun j x hx => by
    rw [swCs_get] at hx
    cases hl : l[j]? with
    | none => rw [hl] at hx; cases hx
    | some y =>
      rw [hl] at hx
      simp at hx
      subst hx
      obtain ⟨v, h1, h2⟩ := h.2 j y hl
      exact ⟨v, h1, conc_sw h2⟩⟩
theorem concV_sw {p q : Nm} {G : Gh} {x : V} {v : Value} (h : ConcV w0 F G (sem m) x v) : ConcV w0 F (fun n => G (swN p q n)) (sem (swM p q m)) (swV p q x) v := by
  cases x with
  | c x => exact conc_sw h
  | agg l => obtain ⟨vs, h1, h2⟩ := h; exact ⟨vs, h1, concs_sw h2⟩
  | clo f l => obtain ⟨vs, h1, h2⟩ := h; exact ⟨vs, h1, concs_sw h2⟩
  | tup l =>
    obtain ⟨vs, h1, h2, h3⟩ := h
    refine ⟨vs, h1, by rw [swPs_len]; exact h2, fun j x hx => ?_⟩
    rw [swPs_get] at hx
    cases hl : l[j]? with
    | none => rw [hl] at hx; cases hx
    | some y =>
      rw [hl] at hx
      simp at hx
      subst hx
      obtain ⟨u, h4, h5⟩ := h3 j y hl
      refine ⟨u, h4, ?_⟩
      obtain ⟨b, l'⟩ := y
      cases b with
      | false => obtain ⟨z, e1, e2⟩ := h5; cases e1; exact ⟨_, rfl, conc_sw e2⟩
      | true => obtain ⟨us, e1, e2⟩ := h5; exact ⟨us, e1, concs_sw e2⟩
theorem swap_sound {p q : Nm} (ho : okSw p q = true) (hp : PinsOk nl pins) (hR : RelS w0 F pins T m a w) : RelS w0 F pins (swT p q T) (swM p q m) a w := by
  obtain ⟨G, r1, r2, r3⟩ := hR
  have back : ∀ n b, sem (swM p q m) n = some b → ∃ b0, sem m (swN p q n) = some b0 ∧ b = swB p q b0 := fun n b hn => by
    rw [sem_sw'] at hn
    cases hs : sem m (swN p q n) with
    | none => rw [hs] at hn; cases hn
    | some b0 => rw [hs] at hn; simp at hn; exact ⟨b0, rfl, hn.symm⟩
  refine ⟨fun n => G (swN p q n), { bd := r1.bd, os := r1.os, tape := r1.tape, output := r1.output, size := r1.size, keep := r1.keep, own := fun n b hn => ?_, dist := fun n n' B hn hn' e1 e2 => ?_ }, ⟨?_, r2.defers, fun i x hx => ?_⟩, fun pn hpin => ?_⟩
  · obtain ⟨b0, h1, rfl⟩ := back n b hn
    have h2 := r1.own _ _ h1
    cases b0 with
    | bx l => obtain ⟨B, c, ety, q1, q2, q3, q4⟩ := h2; exact ⟨B, c, ety, q1, q2, q3, concs_sw q4⟩
    | fl e sz l => exact h2
    | mp c l => exact h2
    | cs e l =>
      obtain ⟨vs, q1, q2, q3, q4⟩ := h2
      exact ⟨vs, concs_sw q1, q2, by simpa [swCs_len] using q3, q4⟩
    | it r s e c => obtain ⟨B, Bm, q1, q2, q3, q4⟩ := h2; exact ⟨B, Bm, q1, q2, conc_sw (x := .ref r) q3, q4⟩
  · obtain ⟨b, hb⟩ := Option.ne_none_iff_exists'.1 hn
    obtain ⟨b', hb'⟩ := Option.ne_none_iff_exists'.1 hn'
    obtain ⟨c, h1, _⟩ := back n b hb
    obtain ⟨c', h2, _⟩ := back n' b' hb'
    have := congrArg (swN p q) (r1.dist _ _ B (by rw [h1]; simp) (by rw [h2]; simp) e1 e2)
    rwa [swN_inv, swN_inv] at this
  · rw [r2.size, swT_len]
  · rw [swT_get] at hx
    cases hl : T[i]? with
    | none => rw [hl] at hx; cases hx
    | some y =>
      rw [hl] at hx
      simp at hx
      subst hx
      obtain ⟨v, h1, h2⟩ := r2.tm i y hl
      exact ⟨v, h1, concV_sw h2⟩
  · obtain ⟨i, hi, he⟩ := hp pn hpin
    have hc := conc_sw (p := p) (q := q) (r3 pn hpin)
    have h0 : swN p q (0, i) = (0, i) := by
      rw [swN_eq]
      have hpq : p.1 ≠ 0 ∧ q.1 ≠ 0 := by
        unfold okSw at ho
        split at ho
        · cases ho
        · rename_i h1
          split at ho
          · cases ho
          · rename_i h2
            exact ⟨Nat.ne_of_beq_eq_false h1, Nat.ne_of_beq_eq_false h2⟩
      rw [if_neg (fun e => hpq.1 (by rw [← e])), if_neg (fun e => hpq.2 (by rw [← e]))]
    rcases he with ⟨len, he⟩ | he
    · rw [he] at hc ⊢
      simp only [swC, h0] at hc
      exact hc
    · rw [he] at hc ⊢
      simp only [swC, h0] at hc
      exact hc
theorem swapK_sound {o : Option (Nm × Nm)} {k : List V → ML → Prop} (hp : PinsOk nl pins) (h : swapK o T m k) (hR : RelS w0 F pins T m a w) : ∃ T' m', k T' m' ∧ RelS w0 F pins T' m' a w := by
  cases o with
  | none => exact ⟨T, m, h, hR⟩
  | some x => obtain ⟨h1, h2⟩ := guardK_iff.1 h; exact ⟨_, _, h2, swap_sound h1 hp hR⟩

/-! ### a loop, from the point where its body begins -/
def LoopAt (P : Program) (c : Code) (Q : Exit → Act → World → Prop) (a : Act) (w : World) : Prop :=
  ∀ (b : Frame) (k : List Item) (cs : List Frame), ∃ e a' w', Q e a' w' ∧ Arrives P (lone (b.at a (.code c :: .inLoop c :: k)) cs w) b k cs e a' w'
theorem wp_loop_at {c : Code} {Q : Exit → Act → World → Prop} (h : LoopAt P c Q a w) : (Code.loop c).wp P Q a w := fun b k cs =>
  let ⟨e, a', w', q, r⟩ := h b k cs
  ⟨e, a', w', q, .of_steps (.one step_loop) r⟩
theorem loopAt_step {c : Code} {Q : Exit → Act → World → Prop} (h : c.wp P (Exit.then (LoopAt P c Q) Q) a w) : LoopAt P c Q a w := fun b k cs => by
  obtain ⟨e, a1, w1, q, r⟩ := h b (.inLoop c :: k) cs
  have out : e ≠ .normal → Q e a1 w1 → ∃ e a' w', Q e a' w' ∧ Arrives P (lone (b.at a (.code c :: .inLoop c :: k)) cs w) b k cs e a' w' := fun hne hq =>
    ⟨e, a1, w1, hq, .pass (x := .inLoop c) rfl (fun _ _ => .inl hne) r⟩
  cases e with
  | normal =>
    obtain ⟨e2, a2, w2, q2, r2⟩ := q b k cs
    exact ⟨e2, a2, w2, q2, .of_steps (Steps.trans r (.one step_inLoop)) r2⟩
  | _ => exact out (by simp) q
theorem loopAt_inv {c : Code} {Q : Exit → Act → World → Prop} (I : Act → World → Prop) (μ : Act → World → Nat) (h0 : I a w)
    (round : ∀ a w, I a w → c.wp P (Exit.then (fun a' w' => I a' w' ∧ μ a' w' < μ a w) Q) a w) : LoopAt P c Q a w := by
  have all : ∀ n a w, μ a w = n → I a w → LoopAt P c Q a w := by
    intro n
    induction n using Nat.strongRecOn with
    | _ n ih =>
      intro a w hn hI
      refine loopAt_step (wp_mono (round a w hI) fun e a' w' q => ?_)
      cases e with
      | normal => exact ih _ (hn ▸ q.2) a' w' rfl q.1
      | _ => exact q
  exact all _ a w rfl h0
theorem wpA_sound (hp : PinsOk nl pins) : ∀ (c : Code) {ac : AC} {T : List V} {m : ML} {a : Act} {w : World} {k : X → List V → ML → Prop} {Q : Exit → Act → World → Prop}, ccode P c = some ac → wpA P nl ac T m k → RelS w0 F pins T m a w →
    (∀ e T' m' a' w', k e T' m' → RelS w0 F pins T' m' a' w' → Q (toExit e) a' w') → c.wp P Q a w
  | .skip, ac, T, m, a, w, k, Q, hc, h, hR, hk => by
    simp only [ccode, Option.some.injEq] at hc
    subst hc
    exact wp_skip (hk .normal _ _ _ _ h hR)
  | .region id ops draw, ac, T, m, a, w, k, Q, hc, h, hR, hk => by
    simp only [ccode] at hc
    split at hc
    · rename_i hd
      subst hd
      split at hc
      · rename_i hm
        simp only [Bool.and_eq_true] at hm
        obtain ⟨its, h1, rfl⟩ := oneOpt hc
        rcases forget_ex h with h | ⟨T1, m1, hw, h⟩
        · exact dreg_sound hm.1 hm.2 h1 h hR fun T' m' a' w' h2 h3 => hk .normal _ _ _ _ h2 h3
        · exact dreg_sound hm.1 hm.2 h1 h (hw.sound hp hR) fun T' m' a' w' h2 h3 => hk .normal _ _ _ _ h2 h3
      · cases hc
    · rename_i hd
      obtain ⟨its, h1, rfl⟩ := oneOpt hc
      have : draw = false := by simpa using hd
      subst this
      rcases forget_ex h with h | ⟨T1, m1, hw, h⟩
      · exact wp_region_list (runIt_sound _ h1 h hR fun T' m' a' w' h2 h3 => hk .normal _ _ _ _ h2 h3)
      · exact wp_region_list (runIt_sound _ h1 h (hw.sound hp hR) fun T' m' a' w' h2 h3 => hk .normal _ _ _ _ h2 h3)
  | .seq x y, ac, T, m, a, w, k, Q, hc, h, hR, hk => by
    simp only [ccode] at hc
    split at hc
    · rename_i ax ay hx hy
      cases hc
      refine wp_seq (wpA_sound hp x hx h hR fun e T' m' a' w' h1 h2 => ?_)
      cases e with
      | normal => exact wpA_sound hp y hy h1 h2 hk
      | exit id => exact hk (.exit id) _ _ _ _ h1 h2
      | ret => exact hk .ret _ _ _ _ h1 h2
    · cases hc
  | .cond c x y, ac, T, m, a, w, k, Q, hc, h, hR, hk => by
    simp only [ccode] at hc
    split at hc
    · rename_i c' ax ay hcc hx hy
      cases hc
      obtain ⟨u, hu, hv⟩ := evK_ex hcc h
      match u, hu with
      | .c (.pv (.bool t)), hu =>
        obtain ⟨G, r1, r2, r3⟩ := hR
        have e : a.eval c = .bool t := hv w0 F G (sem m) T a (fun _ _ => rfl) r2
        exact wp_cond_split e (fun ht => wpA_sound hp x hx (hu.1 ht) ⟨G, r1, r2, r3⟩ hk) (fun ht => wpA_sound hp y hy (hu.2 ht) ⟨G, r1, r2, r3⟩ hk)
    · cases hc
  | .block id x, ac, T, m, a, w, k, Q, hc, h, hR, hk => by
    simp only [ccode] at hc
    obtain ⟨ax, hx, rfl⟩ := oneOpt hc
    refine wp_block (wpA_sound hp x hx h hR fun e T' m' a' w' h1 h2 => ?_)
    cases e with
    | normal => exact hk .normal _ _ _ _ h1 h2
    | exit i =>
      simp only at h1
      simp only [toExit, Exit.inBlock]
      cases hb : Nat.beq i id with
      | true =>
        rw [hb] at h1
        rw [if_pos (Nat.eq_of_beq_eq_true hb)]
        exact hk .normal _ _ _ _ h1 h2
      | false =>
        rw [hb] at h1
        rw [if_neg (Nat.ne_of_beq_eq_false hb)]
        exact hk (.exit i) _ _ _ _ h1 h2
    | ret => exact hk .ret _ _ _ _ h1 h2
  | .loop x, ac, T, m, a, w, k, Q, hc, h, hR, hk => by
    simp only [ccode] at hc
    split at hc
    · rename_i ax hx
      cases hc
      obtain ⟨n0, h0⟩ := h.ex
      have all : ∀ (n : List (Option (Nm × Nm))) (T : List V) (m : ML) (a : Act) (w : World), aRounds nl (flags (writes ax)) (fun T m k => wpA P nl ax T m k) k n T m → RelS w0 F pins T m a w → LoopAt P x Q a w := by
        intro n
        induction n with
        | cons o r ih =>
          intro T m a w h0 hR
          refine loopAt_step (wpA_sound hp x hx h0 hR fun e T' m' a' w' h1 h2 => ?_)
          cases e with
          | normal =>
            obtain ⟨T'', m'', h1, h2⟩ := swapK_sound hp h1 h2
            exact ih _ _ _ _ h1 h2
          | exit id => exact hk (.exit id) _ _ _ _ h1 h2
          | ret => exact hk .ret _ _ _ _ h1 h2
        | nil =>
        intro T m a w h0 hR
        obtain ⟨wf, σ, sp, mem, ok, μ0, ⟨s0, g1, g2, g3⟩, hnm, hround0⟩ := h0.ex
        let I : Nat → List V → ML → Prop := fun n T1 m1 => ∃ s, ok s ∧ n = μ0 s ∧ T1 = sets (hav T wf) (sp s) ∧ m1 = mem s
        have hw0 : Weak nl T m (sets (hav T wf) (sp s0)) (mem s0) := weak_mk rfl g2 g3 (hnm s0).1 (hnm s0).2.1 (hnm s0).2.2
        have hI0 : I (μ0 s0) (sets (hav T wf) (sp s0)) (mem s0) := ⟨s0, g1, rfl, rfl, rfl⟩
        let J : Act → World → Nat → Prop := fun a w n => ∃ T m, I n T m ∧ RelS w0 F pins T m a w
        have hJ0 : J a w (μ0 s0) := ⟨_, _, hI0, hw0.sound hp hR⟩
        have least : ∀ (p : Nat → Prop) (n : Nat), p n → ∃ q, p q ∧ ∀ r, p r → q ≤ r := by
          intro p n
          induction n using Nat.strongRecOn with
          | _ n ih =>
            intro hn
            by_cases he : ∃ r, r < n ∧ p r
            · obtain ⟨r, hr, hpr⟩ := he
              exact ih r hr hpr
            · exact ⟨n, hn, fun r hr => Nat.le_of_not_lt fun hlt => he ⟨r, hlt, hr⟩⟩
        have hμ : ∃ μ : Act → World → Nat, ∀ a w n, J a w n → J a w (μ a w) ∧ μ a w ≤ n := by
          have : ∀ a w, ∃ q, ∀ n, J a w n → J a w q ∧ q ≤ n := fun a w => by
            by_cases he : ∃ n, J a w n
            · obtain ⟨n, hn⟩ := he
              obtain ⟨q, h1, h2⟩ := least (J a w) n hn
              exact ⟨q, fun n hn => ⟨h1, h2 n hn⟩⟩
            · exact ⟨0, fun n hn => absurd ⟨n, hn⟩ he⟩
          exact ⟨fun a w => Classical.choose (this a w), fun a w n hn => Classical.choose_spec (this a w) n hn⟩
        obtain ⟨μ, hμ⟩ := hμ
        refine loopAt_inv (fun a w => ∃ n, J a w n) μ ⟨_, hJ0⟩ fun a w ⟨n, hn⟩ => ?_
        obtain ⟨T1, m1, ⟨s, hs, hμs, rfl, rfl⟩, hR1⟩ := (hμ a w n hn).1
        refine wpA_sound hp x hx (hround0 s hs) hR1 fun e T' m' a' w' h1 h2 => ?_
        cases e with
        | normal =>
          obtain ⟨s', q1, q2, o, h1⟩ := h1
          obtain ⟨T', m', ⟨q3, q4, q5⟩, h2⟩ := swapK_sound hp h1 h2
          have hw := weak_mk (nl := nl) q3 q4 q5 (hnm s').1 (hnm s').2.1 (hnm s').2.2
          have hJ' : J a' w' (μ0 s') := ⟨_, _, ⟨s', q1, rfl, rfl, rfl⟩, hw.sound hp h2⟩
          exact ⟨⟨_, hJ'⟩, Nat.lt_of_le_of_lt (hμ a' w' _ hJ').2 (by rw [hμs]; exact q2)⟩
        | exit id => exact hk (.exit id) _ _ _ _ h1 h2
        | ret => exact hk .ret _ _ _ _ h1 h2
      exact wp_loop_at (all n0 T m a w h0 hR)
    · cases hc
  | .exit id, ac, T, m, a, w, k, Q, hc, h, hR, hk => by
    simp only [ccode, Option.some.injEq] at hc
    subst hc
    exact wp_exit (hk (.exit id) _ _ _ _ h hR)
  | .ret, ac, T, m, a, w, k, Q, hc, h, hR, hk => by
    simp only [ccode, Option.some.injEq] at hc
    subst hc
    exact wp_ret (hk .ret _ _ _ _ h hR)
  | .rangeFunc _ _ _ _, ac, T, m, a, w, k, Q, hc, h, hR, hk => by simp [ccode] at hc
  | .scope _, ac, T, m, a, w, k, Q, hc, h, hR, hk => by simp [ccode] at hc
  | .label _, ac, T, m, a, w, k, Q, hc, h, hR, hk => by simp [ccode] at hc
  | .goto _, ac, T, m, a, w, k, Q, hc, h, hR, hk => by simp [ccode] at hc
  | .refuse _, ac, T, m, a, w, k, Q, hc, h, hR, hk => by simp [ccode] at hc
end
end Go.Proofs.Ytfbadfnhnaaeeaa
