/- The abstract machine: Go's operations as its own. -/
import Derived.Test.YtfbadfnhnaaeeaaE1
namespace Go.Proofs.Ytfbadfnhnaaeeaa
set_option linter.unusedSimpArgs false
set_option linter.unusedVariables false
open Go.RowKit

def Gh.set (G : Gh) (n : Nm) (g : Value) : Gh := fun m => if m = n then g else G m
theorem Gh.set_self (G : Gh) (n : Nm) (g : Value) : G.set n g n = g := by simp [Gh.set]
theorem Gh.set_ne (G : Gh) {n m : Nm} (g : Value) (h : m ≠ n) : G.set n g m = G m := by simp [Gh.set, h]
theorem Mem.set_self (M : Mem) (n : Nm) (b : Blk) : M.set n b n = some b := by simp [Mem.set]
theorem Mem.set_ne (M : Mem) {n m : Nm} (b : Blk) (h : m ≠ n) : M.set n b m = M m := by simp [Mem.set, h]

section
variable {w0 : World} {F : Nat → Prop} {G G' : Gh} {M M' : Mem} {w w' : World}

theorem ConcCs.mono (h : ∀ x u, ConcC w0 F G M x u → ConcC w0 F G' M' x u) {l : List C} {vs : List Value} (hc : ConcCs w0 F G M l vs) : ConcCs w0 F G' M' l vs :=
  ⟨hc.1, fun j x hx => let ⟨v, h1, h2⟩ := hc.2 j x hx; ⟨v, h1, h _ _ h2⟩⟩
theorem Conc1.mono (h : ∀ x u, ConcC w0 F G M x u → ConcC w0 F G' M' x u) {p : Bool × List C} {v : Value} (hc : Conc1 w0 F G M p v) : Conc1 w0 F G' M' p v := by
  obtain ⟨b, l⟩ := p
  cases b with
  | false => obtain ⟨x, h1, h2⟩ := hc; exact ⟨x, h1, h _ _ h2⟩
  | true => obtain ⟨vs, h1, h2⟩ := hc; exact ⟨vs, h1, h2.mono h⟩
theorem ConcV.mono (h : ∀ x u, ConcC w0 F G M x u → ConcC w0 F G' M' x u) {x : V} {v : Value} (hc : ConcV w0 F G M x v) : ConcV w0 F G' M' x v := by
  cases x with
  | c x => exact h _ _ hc
  | agg l => obtain ⟨vs, h1, h2⟩ := hc; exact ⟨vs, h1, h2.mono h⟩
  | tup l => obtain ⟨vs, h1, h2, h3⟩ := hc; exact ⟨vs, h1, h2, fun j p hp => let ⟨u, h4, h5⟩ := h3 j p hp; ⟨u, h4, h5.mono h⟩⟩
  | clo f l => obtain ⟨vs, h1, h2⟩ := hc; exact ⟨vs, h1, h2.mono h⟩

/-- A new name turns no value. -/
theorem ConcC.new {n : Nm} {b : Blk} {g : Value} (hn : M n = none) {x : C} {v : Value} (h : ConcC w0 F G M x v) : ConcC w0 F (G.set n g) (M.set n b) x v := by
  have key : ∀ m, M m ≠ none → m ≠ n := fun m hm e => hm (e ▸ hn)
  cases x with
  | any => trivial
  | pv _ => exact h
  | ptr m j =>
    obtain ⟨B, h1, h2, l, h3⟩ := h
    have hne := key m (by rw [h3]; simp)
    exact ⟨B, by rw [Gh.set_ne _ _ hne]; exact h1, h2, l, by rw [Mem.set_ne _ _ hne]; exact h3⟩
  | eptr m len i j =>
    obtain ⟨e, sz, l, h1, h0, h2, h3, h4⟩ := h
    have hne := key m (by rw [h1]; simp)
    exact ⟨e, sz, l, by rw [Mem.set_ne _ _ hne]; exact h1, h0, h2, h3, by rw [Gh.set_ne _ _ hne]; exact h4⟩
  | slc m len =>
    obtain ⟨e, sz, l, h1, h0, h2, h3, h4⟩ := h
    have hne := key m (by rw [h1]; simp)
    exact ⟨e, sz, l, by rw [Mem.set_ne _ _ hne]; exact h1, h0, h2, h3, by rw [Gh.set_ne _ _ hne]; exact h4⟩
  | view _ _ => exact h
  | vptr _ _ => exact h
  | sub m len lo cnt =>
    obtain ⟨e, sz, l, h1, h2, h3, h4⟩ := h
    have hne := key m (by rw [h1]; simp)
    exact ⟨e, sz, l, by rw [Mem.set_ne _ _ hne]; exact h1, h2, h3, by rw [Gh.set_ne _ _ hne]; exact h4⟩
  | ref m =>
    obtain ⟨h1, h2, b', h3, h4⟩ := h
    have hne := key m (by rw [h3]; simp)
    exact ⟨by rw [Gh.set_ne _ _ hne]; exact h1, h2, b', by rw [Mem.set_ne _ _ hne]; exact h3, h4⟩
  | pview _ _ => exact h
  | pvw _ _ _ => exact h

/-- What the world must keep so that a block reads as it did. -/
def Keeps (w w' : World) (S : Nat → Prop) : Prop := ∀ k, ¬ S k → k < w.heap.size → w'.heap[k]? = w.heap[k]?

theorem BOk.keep {S : Nat → Prop} {b : Blk} {g : Value} (hm : ∀ x u, ConcC w0 F G M x u → ConcC w0 F G' M' x u) (hk : Keeps w w' S) (hg : ∀ B, blkOf g = some B → ¬ S B) (h : BOk w0 F G M w g b) : BOk w0 F G' M' w' g b := by
  cases b with
  | bx l =>
    obtain ⟨B, c, ety, h1, h2, h3, h4⟩ := h
    exact ⟨B, c, ety, h1, h2, by rw [hk B (hg B (by rw [h1]; rfl)) (Array.getElem?_eq_some_iff.1 h3).1]; exact h3, h4.mono hm⟩
  | fl e sz l =>
    obtain ⟨h1, h2, h3, h4, h5⟩ := h
    refine ⟨h1, h2, h3, ⟨h4.1, ?_⟩, h5⟩
    rcases h4.2 with hn | ⟨B, cap, cur, rfl, hb, hgg, rest⟩
    · exact .inl hn
    · refine .inr ⟨B, cap, cur, rfl, hb, ?_, rest⟩
      rw [hk B (hg B rfl) (Array.getElem?_eq_some_iff.1 hgg).1]
      exact hgg
  | cs e l =>
    obtain ⟨vs, h1, h2, h4, h5⟩ := h
    refine ⟨vs, h1.mono hm, h2, ⟨h4.1, ?_⟩, h5⟩
    rcases h4.2 with hn | ⟨B, cap, cur, rfl, hb, hgg, rest⟩
    · exact .inl hn
    · refine .inr ⟨B, cap, cur, rfl, hb, ?_, rest⟩
      rw [hk B (hg B rfl) (Array.getElem?_eq_some_iff.1 hgg).1]
      exact hgg
  | mp clock l =>
    obtain ⟨B, es, h1, h2, h3, h4⟩ := h
    exact ⟨B, es, h1, h2, by rw [hk B (hg B (by rw [h1]; rfl)) (Array.getElem?_eq_some_iff.1 h3).1]; exact h3, h4⟩
  | it n since seen c0 =>
    obtain ⟨B, Bm, h1, h2, h3, h4⟩ := h
    exact ⟨B, Bm, h1, h2, hm _ _ h3, by rw [hk B (hg B (by rw [h1]; rfl)) (Array.getElem?_eq_some_iff.1 h4).1]; exact h4⟩

theorem BOk.lt {b : Blk} {g : Value} (h : BOk w0 F G M w g b) : ∀ B, blkOf g = some B → B < w.heap.size ∧ ¬ F B := by
  intro B hB
  cases b with
  | bx l =>
    obtain ⟨B', c, ety, rfl, h2, h3, h4⟩ := h
    obtain rfl : B' = B := by simpa [blkOf] using hB
    exact ⟨(Array.getElem?_eq_some_iff.1 h3).1, h2⟩
  | fl e sz l =>
    obtain ⟨h1, h2, h3, h4, h5⟩ := h
    have ho : g.ownBlock = some B := by
      rcases h4.2 with ⟨rfl, _⟩ | ⟨B', cap, cur, rfl, _⟩
      · simp [blkOf] at hB
      · simpa [blkOf, Value.ownBlock] using hB
    exact ⟨(h4.lt B ho).2, h5 B ho⟩
  | cs e l =>
    obtain ⟨vs, h1, h2, h4, h5⟩ := h
    have ho : g.ownBlock = some B := by
      rcases h4.2 with ⟨rfl, _⟩ | ⟨B', cap, cur, rfl, _⟩
      · simp [blkOf] at hB
      · simpa [blkOf, Value.ownBlock] using hB
    exact ⟨(h4.lt B ho).2, h5 B ho⟩
  | mp clock l =>
    obtain ⟨B', es, rfl, h2, h3, h4⟩ := h
    obtain rfl : B' = B := by simpa [blkOf] using hB
    exact ⟨(Array.getElem?_eq_some_iff.1 h3).1, h2⟩
  | it n since seen c0 =>
    obtain ⟨B', Bm, rfl, h2, h3, h4⟩ := h
    obtain rfl : B' = B := by simpa [blkOf] using hB
    exact ⟨(Array.getElem?_eq_some_iff.1 h4).1, h2⟩

/-- A new block under a new name. -/
theorem Rel.new {n : Nm} {b : Blk} {g : Value} (h : Rel w0 F G M w) (hn : M n = none) (hos : w'.os = w.os) (htape : w'.tape = w.tape) (hout : w'.output = w.output)
    (hsz : w.heap.size ≤ w'.heap.size) (hk : Keeps w w' fun _ => False) (hg : ∀ B, blkOf g = some B → w.heap.size ≤ B)
    (hb : BOk w0 F (G.set n g) (M.set n b) w' g b) : Rel w0 F (G.set n g) (M.set n b) w' where
  bd := h.bd
  os := hos.trans h.os
  tape := htape.trans h.tape
  output := hout.trans h.output
  size := Nat.le_trans h.size hsz
  keep := fun k hF => (hk k (fun h => h) (Nat.lt_of_lt_of_le (h.bd k hF) h.size)).trans (h.keep k hF)
  own := fun m b' hm => by
    by_cases e : m = n
    · subst e
      rw [Mem.set_self] at hm
      obtain rfl := Option.some.inj hm
      rw [Gh.set_self]
      exact hb
    · rw [Mem.set_ne _ _ e] at hm
      rw [Gh.set_ne _ _ e]
      exact (h.own m b' hm).keep (fun x u hx => hx.new hn) hk (fun B _ h => h)
  dist := fun p q B hp hq h1 h2 => by
    have old : ∀ r, r ≠ n → M.set n b r ≠ none → blkOf (G.set n g r) = some B → B < w.heap.size := fun r hr hr1 hr2 => by
      rw [Mem.set_ne _ _ hr] at hr1
      rw [Gh.set_ne _ _ hr] at hr2
      obtain ⟨b', hb'⟩ := Option.ne_none_iff_exists'.1 hr1
      exact ((h.own r b' hb').lt B hr2).1
    by_cases e1 : p = n <;> by_cases e2 : q = n
    · rw [e1, e2]
    · subst e1
      rw [Gh.set_self] at h1
      have := hg B h1
      have := old q e2 hq h2
      omega
    · subst e2
      rw [Gh.set_self] at h2
      have := hg B h2
      have := old p e1 hp h1
      omega
    · rw [Mem.set_ne _ _ e1] at hp
      rw [Mem.set_ne _ _ e2] at hq
      rw [Gh.set_ne _ _ e1] at h1
      rw [Gh.set_ne _ _ e2] at h2
      exact h.dist p q B hp hq h1 h2

/-- How a named block may turn: of one kind; a slice's aliases of the full length stay true. -/
def Turns (b b' : Blk) (g g' : Value) : Prop := match b, b' with
  | .bx _, .bx _ => g' = g
  | .fl e sz l, .fl e' sz' l' => e' = e ∧ sz' = sz ∧ l.length ≤ l'.length ∧ (l'.length = l.length → g' = g)
  | .mp _ _, .mp _ _ => g' = g
  | .it _ _ _ _, .it _ _ _ _ => g' = g
  | .cs e l, .cs e' l' => e' = e ∧ l.length ≤ l'.length ∧ (l'.length = l.length → g' = g)
  | _, _ => False
theorem Turns.arr {b b' : Blk} {g g' : Value} (h : Turns b b' g g') {sz L : Nat} (ha : arrB b = some (sz, L)) : ∃ L', arrB b' = some (sz, L') ∧ L ≤ L' ∧ (L' = L → g' = g) := by
  cases b with
  | fl e s l =>
    cases b' with
    | fl e' s' l' =>
      obtain ⟨rfl, rfl, t1, t2⟩ := h
      simp only [arrB, Option.some.injEq, Prod.mk.injEq] at ha
      obtain ⟨rfl, rfl⟩ := ha
      exact ⟨_, rfl, t1, t2⟩
    | _ => exact h.elim
  | cs e l =>
    cases b' with
    | cs e' l' =>
      obtain ⟨rfl, t1, t2⟩ := h
      simp only [arrB, Option.some.injEq, Prod.mk.injEq] at ha
      obtain ⟨rfl, rfl⟩ := ha
      exact ⟨_, rfl, t1, t2⟩
    | _ => exact h.elim
  | _ => cases ha
theorem ConcC.upd {n : Nm} {b b' : Blk} {g' : Value} (hn : M n = some b) (ht : Turns b b' (G n) g') {x : C} {v : Value} (h : ConcC w0 F G M x v) : ConcC w0 F (G.set n g') (M.set n b') x v := by
  cases x with
  | any => trivial
  | pv _ => exact h
  | ptr m j =>
    obtain ⟨B, h1, h2, l, h3⟩ := h
    by_cases e : m = n
    · subst e
      rw [hn] at h3
      obtain rfl := Option.some.inj h3
      cases b' with
      | bx l' => exact ⟨B, by rw [Gh.set_self]; exact ht.trans h1, h2, l', Mem.set_self _ _ _⟩
      | fl _ _ _ => exact ht.elim
      | mp _ _ => exact ht.elim
      | it _ _ _ _ => exact ht.elim
      | cs _ _ => exact ht.elim
    · exact ⟨B, by rw [Gh.set_ne _ _ e]; exact h1, h2, l, by rw [Mem.set_ne _ _ e]; exact h3⟩
  | eptr m len i j =>
    obtain ⟨e', sz, l, h1, h0, h2, h3, h4⟩ := h
    by_cases e : m = n
    · subst e
      rw [hn] at h1
      obtain rfl := Option.some.inj h1
      obtain ⟨L', t0, t1, t2⟩ := ht.arr h0
      refine ⟨_, _, L', Mem.set_self _ _ _, t0, by omega, h3, fun hl => ?_⟩
      rw [Gh.set_self, t2 (by omega)]
      exact h4 (by omega)
    · exact ⟨e', sz, l, by rw [Mem.set_ne _ _ e]; exact h1, h0, h2, h3, by rw [Gh.set_ne _ _ e]; exact h4⟩
  | slc m len =>
    obtain ⟨e', sz, l, h1, h0, h2, h3, h4⟩ := h
    by_cases e : m = n
    · subst e
      rw [hn] at h1
      obtain rfl := Option.some.inj h1
      obtain ⟨L', t0, t1, t2⟩ := ht.arr h0
      refine ⟨_, _, L', Mem.set_self _ _ _, t0, by omega, h3, fun hl => ?_⟩
      rw [Gh.set_self, t2 (by omega)]
      exact h4 (by omega)
    · exact ⟨e', sz, l, by rw [Mem.set_ne _ _ e]; exact h1, h0, h2, h3, by rw [Gh.set_ne _ _ e]; exact h4⟩
  | view _ _ => exact h
  | vptr _ _ => exact h
  | pview _ _ => exact h
  | pvw _ _ _ => exact h
  | ref m =>
    obtain ⟨h1, h2, b1, h3, h4⟩ := h
    by_cases e : m = n
    · subst e
      rw [hn] at h3
      obtain rfl := Option.some.inj h3
      cases b with
      | bx _ => cases h4
      | fl _ _ _ => cases h4
      | cs _ _ => cases h4
      | mp _ _ =>
        cases b' with
        | cs _ _ => exact ht.elim
        | mp c' l' => exact ⟨by rw [Gh.set_self, h1]; exact ht.symm, h2, _, Mem.set_self _ _ _, rfl⟩
        | bx _ => exact ht.elim
        | fl _ _ _ => exact ht.elim
        | it _ _ _ _ => exact ht.elim
      | it _ _ _ _ =>
        cases b' with
        | it _ _ _ _ => exact ⟨by rw [Gh.set_self, h1]; exact ht.symm, h2, _, Mem.set_self _ _ _, rfl⟩
        | cs _ _ => exact ht.elim
        | bx _ => exact ht.elim
        | fl _ _ _ => exact ht.elim
        | mp _ _ => exact ht.elim
    · exact ⟨by rw [Gh.set_ne _ _ e]; exact h1, h2, b1, by rw [Mem.set_ne _ _ e]; exact h3, h4⟩
  | sub m len lo cnt =>
    obtain ⟨e', sz, l, h1, h2, h3, h4⟩ := h
    by_cases e : m = n
    · subst e
      rw [hn] at h1
      obtain rfl := Option.some.inj h1
      cases b' with
      | bx _ => exact ht.elim
      | mp _ _ => exact ht.elim
      | it _ _ _ _ => exact ht.elim
      | cs _ _ => exact ht.elim
      | fl e2 sz2 l' =>
        obtain ⟨rfl, rfl, t1, t2⟩ := ht
        refine ⟨_, _, l', Mem.set_self _ _ _, by omega, h3, fun hl => ?_⟩
        rw [Gh.set_self, t2 (by omega)]
        exact h4 (by omega)
    · exact ⟨e', sz, l, by rw [Mem.set_ne _ _ e]; exact h1, h2, h3, by rw [Gh.set_ne _ _ e]; exact h4⟩

theorem Rel.upd {n : Nm} {b b' : Blk} {g' : Value} (h : Rel w0 F G M w) (hn : M n = some b) (ht : Turns b b' (G n) g') (hos : w'.os = w.os) (htape : w'.tape = w.tape) (hout : w'.output = w.output)
    (hsz : w.heap.size ≤ w'.heap.size) (hk : Keeps w w' fun k => blkOf (G n) = some k) (hg : ∀ B, blkOf g' = some B → blkOf (G n) = some B ∨ w.heap.size ≤ B)
    (hb : BOk w0 F (G.set n g') (M.set n b') w' g' b') : Rel w0 F (G.set n g') (M.set n b') w' where
  bd := h.bd
  os := hos.trans h.os
  tape := htape.trans h.tape
  output := hout.trans h.output
  size := Nat.le_trans h.size hsz
  keep := fun k hF => (hk k (fun e => ((h.own n b hn).lt k e).2 hF) (Nat.lt_of_lt_of_le (h.bd k hF) h.size)).trans (h.keep k hF)
  own := fun m b1 hm => by
    by_cases e : m = n
    · subst e
      rw [Mem.set_self] at hm
      obtain rfl := Option.some.inj hm
      rw [Gh.set_self]
      exact hb
    · rw [Mem.set_ne _ _ e] at hm
      rw [Gh.set_ne _ _ e]
      exact (h.own m b1 hm).keep (fun x u hx => hx.upd hn ht) hk (fun B hB hB2 => e (h.dist m n B (by rw [hm]; simp) (by rw [hn]; simp) hB hB2))
  dist := fun p q B hp hq h1 h2 => by
    have old : ∀ r, r ≠ n → M.set n b' r ≠ none → blkOf (G.set n g' r) = some B → B < w.heap.size ∧ blkOf (G n) ≠ some B := fun r hr hr1 hr2 => by
      rw [Mem.set_ne _ _ hr] at hr1
      rw [Gh.set_ne _ _ hr] at hr2
      obtain ⟨b1, hb1⟩ := Option.ne_none_iff_exists'.1 hr1
      exact ⟨((h.own r b1 hb1).lt B hr2).1, fun e => hr (h.dist r n B hr1 (by rw [hn]; simp) hr2 e)⟩
    by_cases e1 : p = n <;> by_cases e2 : q = n
    · rw [e1, e2]
    · subst e1
      rw [Gh.set_self] at h1
      have o := old q e2 hq h2
      rcases hg B h1 with h3 | h3
      · exact absurd h3 o.2
      · omega
    · subst e2
      rw [Gh.set_self] at h2
      have o := old p e1 hp h1
      rcases hg B h2 with h3 | h3
      · exact absurd h3 o.2
      · omega
    · rw [Mem.set_ne _ _ e1] at hp
      rw [Mem.set_ne _ _ e2] at hq
      rw [Gh.set_ne _ _ e1] at h1
      rw [Gh.set_ne _ _ e2] at h2
      exact h.dist p q B hp hq h1 h2
end
end Go.Proofs.Ytfbadfnhnaaeeaa
