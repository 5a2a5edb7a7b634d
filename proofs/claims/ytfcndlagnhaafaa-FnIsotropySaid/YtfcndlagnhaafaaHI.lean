/- Lists of places: the map, the sort. -/
import Derived.Test.YtfcndlagnhaafaaHG
import Derived.Test.YtfcndlagnhaafaaHS
namespace Go.Proofs.Ytfcndlagnhaafaa
open Go.RowKit
set_option linter.unusedSimpArgs false
set_option linter.unusedVariables false
set_option maxRecDepth 100000
set_option maxHeartbeats 2000000

abbrev Ent := Int × Value × Nat
structure MpOk (clock : Nat) (l : List Ent) : Prop where
  keys : (l.map (·.1)).Nodup
  lt : ∀ e ∈ l, e.2.2 < clock
  borns : (l.map (·.2.2)).Nodup
theorem mpMod_maps (a : Int) (u : Value) : ∀ (l : List Ent), (mpMod a u l).map (·.1) = l.map (·.1) ∧ (mpMod a u l).map (·.2.2) = l.map (·.2.2)
  | [] => ⟨rfl, rfl⟩
  | e :: r => by
    obtain ⟨h1, h2⟩ := mpMod_maps a u r
    simp only [mpMod]
    split
    · simp
    · simp [h1, h2]
theorem MpOk.set {clock : Nat} {l : List Ent} (h : MpOk clock l) (a : Int) (u : Value) : MpOk (mpC clock l a) (mpL clock l a u) ∧ (∀ x, x ∈ (mpL clock l a u).map (·.1) ↔ x = a ∨ x ∈ l.map (·.1)) ∧ (mpL clock l a u).length ≤ l.length + 1 := by
  by_cases hc : (l.any fun e => e.1 == a) = true
  · obtain ⟨m1, m2⟩ := mpMod_maps a u l
    have hl : (mpMod a u l).length = l.length := by
      have := congrArg List.length m1
      simpa using this
    have ha : a ∈ l.map (·.1) := by
      obtain ⟨e, he, hh⟩ := List.any_eq_true.1 hc
      exact List.mem_map.2 ⟨e, he, beq_iff_eq.1 hh⟩
    simp only [mpC, mpL, if_pos hc]
    refine ⟨⟨by rw [m1]; exact h.keys, fun e he => ?_, by rw [m2]; exact h.borns⟩, fun x => ?_, by omega⟩
    · have : e.2.2 ∈ (mpMod a u l).map (·.2.2) := List.mem_map.2 ⟨e, he, rfl⟩
      rw [m2] at this
      obtain ⟨e', he', hh⟩ := List.mem_map.1 this
      rw [← hh]
      exact h.lt e' he'
    · rw [m1]
      constructor
      · exact .inr
      · rintro (rfl | h)
        · exact ha
        · exact h
  · have ha : a ∉ l.map (·.1) := fun hm => by
      obtain ⟨e, he, hh⟩ := List.mem_map.1 hm
      exact hc (List.any_eq_true.2 ⟨e, he, beq_iff_eq.2 hh⟩)
    simp only [mpC, mpL, if_neg hc]
    refine ⟨⟨?_, fun e he => ?_, ?_⟩, fun x => ?_, by simp⟩
    · rw [List.map_append, List.nodup_append]
      refine ⟨h.keys, by simp, fun x hx y hy => ?_⟩
      simp at hy
      subst hy
      exact fun e => ha (e ▸ hx)
    · rcases List.mem_append.1 he with he | he
      · have := h.lt e he; omega
      · simp at he; subst he; simp
    · rw [List.map_append, List.nodup_append]
      refine ⟨h.borns, by simp, fun x hx y hy => ?_⟩
      simp at hy
      subst hy
      obtain ⟨e, he, rfl⟩ := List.mem_map.1 hx
      have := h.lt e he
      omega
    · simp only [List.map_append, List.mem_append, List.map_cons, List.map_nil, List.mem_singleton]
      constructor
      · rintro (h | h)
        · exact .inr h
        · exact .inl h
      · rintro (h | h)
        · exact .inr h
        · exact .inl h
theorem MpOk.nil : MpOk 0 [] := ⟨by simp, by simp, by simp⟩
theorem nodup_map_inj {α β : Type} {f : α → β} : ∀ {l : List α}, (l.map f).Nodup → ∀ a ∈ l, ∀ b ∈ l, f a = f b → a = b
  | x :: l, h, a, ha, b, hb, hf => by
    obtain ⟨h1, h2⟩ := List.nodup_cons.1 h
    rcases List.mem_cons.1 ha with e1 | e1 <;> rcases List.mem_cons.1 hb with e2 | e2
    · rw [e1, e2]
    · exact absurd (List.mem_map.2 ⟨b, e2, by rw [← hf, e1]⟩) h1
    · exact absurd (List.mem_map.2 ⟨a, e1, by rw [hf, e2]⟩) h1
    · exact nodup_map_inj h2 a e1 b e2 hf
theorem find_of {l : List Ent} (hn : (l.map (·.2.2)).Nodup) {e : Ent} (he : e ∈ l) : l.find? (fun x => x.2.2 == e.2.2) = some e := by
  cases hf : l.find? (fun x => x.2.2 == e.2.2) with
  | none => exact absurd (List.find?_eq_none.1 hf e he) (by simp)
  | some x =>
    have h1 := List.mem_of_find?_eq_some hf
    have h2 := List.find?_some hf
    rw [nodup_map_inj hn x h1 e he (by simpa using h2)]

/-- The map's keys are these. -/
structure MpK (clock : Nat) (l : List Ent) (acc : List Int) (b : Int) : Prop where
  ok : MpOk clock l
  k : ∀ x, x ∈ l.map (·.1) ↔ x ∈ acc
  len : (l.length : Int) ≤ b
theorem MpK.set {clock : Nat} {l : List Ent} {acc : List Int} {b : Int} (h : MpK clock l acc b) (a : Int) (u : Value) : MpK (mpC clock l a) (mpL clock l a u) (put a acc) (b + 1) := by
  obtain ⟨h1, h2, h3⟩ := h.ok.set a u
  have := h.len
  exact ⟨h1, fun x => by rw [h2, put_mem, h.k], by omega⟩

theorem srt_inc {l : List Int} (h : l.Nodup) : (srt l).Pairwise (· < ·) := by
  have h1 : (srt l).Pairwise fun x y => decide (x ≤ y) = true := List.pairwise_mergeSort (fun a b c => by simp; omega) (fun a b => by simp; omega) l
  have h2 : (srt l).Nodup := (List.mergeSort_perm l _).nodup_iff.2 h
  refine (h1.and h2).imp fun {a b} hab => ?_
  have := hab.1
  have := hab.2
  simp at *
  omega
theorem srt_mem {l : List Int} (x : Int) : x ∈ srt l ↔ x ∈ l := List.mem_mergeSort

/-- What holds at the head of the loop over the map. -/
structure RgI (l : List Ent) (k : Nat) (R : List (List Value)) (seen : List Nat) : Prop where
  k : k = R.length
  r : ∃ acc : List Int, R = ints acc ∧ acc.Nodup ∧ (∀ x, x ∈ acc ↔ ∃ e ∈ l, e.1 = x ∧ e.2.2 ∈ seen) ∧ acc.length + (l.filter fun e => !seen.contains e.2.2).length = l.length
theorem RgI.next {clock : Nat} {l : List Ent} {k : Nat} {R : List (List Value)} {seen : List Nat} (I : RgI l k R seen) (O : MpOk clock l) {e : Ent} (he : e ∈ l ∧ e.2.2 ∉ seen) : RgI l (R.length + 1) (R ++ [[.int .i64 e.1]]) (seen ++ [e.2.2]) ∧
    (l.filter fun e' => !(seen ++ [e.2.2]).contains e'.2.2).length < (l.filter fun e => !seen.contains e.2.2).length := by
  obtain ⟨acc, r1, r2, r3, r4⟩ := I.r
  have key : ∀ e' ∈ l, (!(seen ++ [e.2.2]).contains e'.2.2) = (!seen.contains e'.2.2 && !(e'.2.2 == e.2.2)) := fun e' he' => by
    rw [Bool.eq_iff_iff]
    simp [List.contains_eq_mem]
  have cnt : (l.filter fun e' => !(seen ++ [e.2.2]).contains e'.2.2).length + 1 = (l.filter fun e => !seen.contains e.2.2).length := by
    rw [List.filter_congr key]
    clear r3 r4 I key
    have : ∀ (m : List Ent), (m.map (·.2.2)).Nodup → e ∈ m → (m.filter fun e' => !seen.contains e'.2.2 && !(e'.2.2 == e.2.2)).length + 1 = (m.filter fun e => !seen.contains e.2.2).length := by
      intro m
      induction m with
      | nil => intro _ h; cases h
      | cons x m ih =>
        intro hn hm
        obtain ⟨n1, n2⟩ := List.nodup_cons.1 hn
        have hs : (seen.contains e.2.2) = false := by simpa using he.2
        rcases List.mem_cons.1 hm with hx | hm
        · have : (m.filter fun e' => !seen.contains e'.2.2 && !(e'.2.2 == e.2.2)) = m.filter fun e' => !seen.contains e'.2.2 := List.filter_congr fun y hy => by
            have : (y.2.2 == e.2.2) = false := by
              simp only [beq_eq_false_iff_ne, ne_eq]
              intro h
              exact n1 (List.mem_map.2 ⟨y, hy, by rw [h, hx]⟩)
            simp only [this, Bool.not_false, Bool.and_true]
          rw [← hx]
          simp only [List.filter_cons, hs, this, beq_self_eq_true, Bool.not_true, Bool.and_false, Bool.false_eq_true, if_false, Bool.not_false, if_true, List.length_cons]
        · have hx : (x.2.2 == e.2.2) = false := by
            simp only [beq_eq_false_iff_ne, ne_eq]
            intro h
            exact n1 (List.mem_map.2 ⟨e, hm, h.symm⟩)
          have := ih n2 hm
          simp only [List.filter_cons, hx, Bool.not_false, Bool.and_true]
          by_cases hsx : seen.contains x.2.2 = true
          · simp only [hsx, Bool.not_true, Bool.false_eq_true, if_false]; exact this
          · have hsx : seen.contains x.2.2 = false := by simpa using hsx
            simp only [hsx, Bool.not_false, if_true, List.length_cons]
            omega
    exact this l O.borns he.1
  refine ⟨⟨by simp, acc ++ [e.1], by rw [r1, ints_app]; rfl, ?_, fun x => ?_, ?_⟩, by omega⟩
  · rw [List.nodup_append]
    refine ⟨r2, by simp, fun x hx y hy => ?_⟩
    simp at hy
    subst hy
    obtain ⟨e', q1, q2, q3⟩ := (r3 x).1 hx
    intro hxe
    have := nodup_map_inj O.keys e' q1 e he.1 (by rw [q2, hxe])
    exact he.2 (this ▸ q3)
  · simp only [List.mem_append, List.mem_singleton]
    rw [r3]
    constructor
    · rintro (⟨e', q1, q2, q3⟩ | h)
      · exact ⟨e', q1, q2, .inl q3⟩
      · exact ⟨e, he.1, h.symm, .inr rfl⟩
    · rintro ⟨e', q1, q2, q3 | q3⟩
      · exact .inl ⟨e', q1, q2, q3⟩
      · right
        rw [← q2, nodup_map_inj O.borns e' q1 e he.1 q3]
  · simp only [List.length_append, List.length_singleton]
    omega
theorem RgI.first (l : List Ent) : RgI l 0 [] [] := ⟨rfl, [], rfl, by simp, fun x => by simp, by simp⟩
theorem RgI.fin {clock : Nat} {l : List Ent} {k : Nat} {R : List (List Value)} {seen : List Nat} {acc0 : List Int} {b : Int} (I : RgI l k R seen) (O : MpK clock l acc0 b) (h : ∀ e ∈ l, e.2.2 ∈ seen) (hi : acc0.Pairwise (· < ·)) : ∃ acc, R = ints acc ∧ srt acc = acc0 ∧ acc.length = k ∧ acc.length = acc0.length := by
  obtain ⟨acc, r1, r2, r3, r4⟩ := I.r
  have hs : srt acc = acc0 := inc_ext _ _ (srt_inc r2) hi fun x => by
    rw [srt_mem, r3, ← O.k, List.mem_map]
    constructor
    · rintro ⟨e, q1, q2, _⟩; exact ⟨e, q1, q2⟩
    · rintro ⟨e, q1, q2⟩; exact ⟨e, q1, q2, h e q1⟩
  refine ⟨acc, r1, hs, by rw [I.k, r1, ints_len], by rw [← hs, srt_len]⟩

theorem plA_ext {f g : Int → List Int} (l : List Int) (h : ∀ n ∈ l, ∀ x, x ∈ f n.natAbs ↔ x ∈ g n.natAbs) : plA f [0, 2] l = plA g [0, 2] l := by
  refine inc_ext _ _ (plA_inc f l _ (by decide)) (plA_inc g l _ (by decide)) fun x => ?_
  rw [plA_mem, plA_mem]
  constructor
  · rintro (h1 | ⟨n, h1, h2⟩)
    · exact .inl h1
    · exact .inr ⟨n, h1, (h n h1 x).1 h2⟩
  · rintro (h1 | ⟨n, h1, h2⟩)
    · exact .inl h1
    · exact .inr ⟨n, h1, (h n h1 x).2 h2⟩
theorem plc2_prs (l : List Int) : plA prs [0, 2] l = plc2 l := plA_ext l fun n _ x => by simp [prs, nps, dd_mem, puts_mem]
theorem prs_len {n : Int} (h : 1 ≤ n) (h2 : n ≤ 1000000) : (prs n).length ≤ 1000000 := by
  have := dd_len (fac n) []
  have := fac_len h
  unfold prs
  simp only [List.length_nil] at *
  omega

theorem impl_placesOf (l : List Int) (hl : Lok l) : AFun Try.prog 27 [] [Vw l] (.c (.slc (0, 0) (plc2 l).length)) [] [FI (plc2 l)] := by
  have hil := ints_len l
  have hl8 := hl.len
  rw [← plc2_prs]
  have inc : (plA prs [0, 2] l).Pairwise (· < ·) := plA_inc prs l _ (by decide)
  have m1 := (MpK.mk (acc := []) (b := 0) MpOk.nil (fun x => by simp) (by simp)).set 0 (.bool true)
  have m2 := m1.set 2 (.bool true)
  refine afun_intro fn27 rfl rfl (by repeat' (first | exact trivial | (simp; done) | refine ⟨?_, ?_⟩)) ?_
  unfold ac27
  repeat' (first | ((with_reducible refine (?_ : (_ : Bool) = _)); (with_reducible rfl)) | ((with_reducible refine (?_ : (_ : Nat × Nat) = _)); (with_reducible rfl)) | (with_reducible refine leafRI ?_) | (with_reducible refine leafRB ?_) | (with_reducible refine leafI ?_) | (with_reducible refine leafB ?_) | ((with_reducible refine (?_ : (_ : Int) = _)); (with_reducible rfl)) | ((with_reducible refine (?_ : (_ : List (List Value)) = _)); (with_reducible rfl)) | ((with_reducible refine (?_ : (_ : Int) ≠ 0)); (first | assumption | omega | (simp; done) | (simp only [ints_len] at *; omega) | (simp; omega))) | ((with_reducible refine (?_ : (_ : Int) ≤ _)); (first | assumption | omega | (simp; done) | (simp only [ints_len] at *; omega) | (simp; omega))) | ((with_reducible refine (?_ : (_ : Int) < _)); (first | assumption | omega | (simp; done) | (simp only [ints_len] at *; omega) | (simp; omega))) | ((with_reducible refine (?_ : (_ : Nat) ≤ _)); (first | omega | (simp only [List.length_cons, List.length_nil]; omega) | (simp [ints]; done) | (simp; omega))) | ((with_reducible refine (?_ : (_ : Nat) < _)); (first | omega | (simp only [List.length_cons, List.length_nil]; omega) | (simp [ints]; done) | (simp; omega))) | ((with_reducible refine (?_ : (_ : Nat) = _)); (first | (with_reducible rfl) | (simp; done) | (simp only [fr_len]) | (simp only [ints_len]) | omega | (simp [*]; done))) | (refine And.intro ?_ ?_) | (intro h; first | (exact Bool.noConfusion h) | ((simp only [decide_eq_true_eq, decide_eq_false_iff_not, beq_iff_eq, bne_iff_ne, ne_eq, beq_eq_false_iff_ne, bne_eq_false_iff_eq, Bool.not_eq_true', Bool.not_eq_false', Bool.not_eq_true, Bool.not_eq_false, Int.not_le, Int.not_lt, Bool.and_eq_true, Bool.or_eq_true, Bool.or_eq_false_iff, Bool.and_eq_false_iff] at h); (try (first | (exact Bool.noConfusion h) | (exact (h trivial).elim)))) | skip) | ((with_reducible refine (?_ : chk _ _ = true)); kernel_rfl) | ((with_reducible refine (?_ : (_ : IntKind) = _)); (with_reducible rfl)) | ((with_reducible refine (?_ : eqC (C.pvw _ _ _) (C.pvw _ _ _))); exact rfl) | ((with_reducible refine (?_ : eqC (C.pv (Value.int IntKind.u64 _)) _)); exact rfl) | exact trivial)
  refine loop_rule (σ := Nat × List Ent × Int) (fun s => [(14, I s.2.2)]) (fun s => [((2, 0), .fl 3 1 []), ((10, 0), .mp s.1 s.2.1)]) (fun s => 0 ≤ s.2.2 ∧ s.2.2 ≤ l.length ∧ ∃ acc, MpK s.1 s.2.1 acc (2 + 1000000 * s.2.2) ∧ plA prs acc (l.drop s.2.2.toNat) = plA prs [0, 2] l) (fun s => (l.length - s.2.2).toNat) ((_, _, 0)) ?_ (by repeat' (first | exact trivial | exact rfl | (refine And.intro ?_ ?_))) (by repeat' (first | exact trivial | exact rfl | (refine And.intro ?_ ?_))) (fun s => ⟨rfl, rfl⟩) (fun s i h => by first | exact absurd h (Nat.not_lt_zero i) | (cases i with | zero => rfl | succ i => exact absurd (Nat.lt_of_succ_lt_succ h) (Nat.not_lt_zero i))) ?_
  · exact ⟨by dsimp only; omega, by dsimp only; omega, _, m2, rfl⟩
  · rintro ⟨c, M, i⟩ ⟨g2, g3, acc, g4, g5⟩
    dsimp only at g2 g3 g4 g5 ⊢
    have wi : wrap64 (i + 1) = i + 1 := wrap_small (by omega) (by omega)
    have hi1 : (i + 1).toNat = i.toNat + 1 := by omega
    repeat' (first | ((with_reducible refine (?_ : (_ : Bool) = _)); (with_reducible rfl)) | ((with_reducible refine (?_ : (_ : Nat × Nat) = _)); (with_reducible rfl)) | (with_reducible refine leafRI ?_) | (with_reducible refine leafRB ?_) | (with_reducible refine leafI ?_) | (with_reducible refine leafB ?_) | ((with_reducible refine (?_ : (_ : Int) = _)); (with_reducible rfl)) | ((with_reducible refine (?_ : (_ : List (List Value)) = _)); (with_reducible rfl)) | ((with_reducible refine (?_ : (_ : Int) ≠ 0)); (first | assumption | omega | (simp; done) | (simp only [ints_len] at *; omega) | (simp; omega))) | ((with_reducible refine (?_ : (_ : Int) ≤ _)); (first | assumption | omega | (simp; done) | (simp only [ints_len] at *; omega) | (simp; omega))) | ((with_reducible refine (?_ : (_ : Int) < _)); (first | assumption | omega | (simp; done) | (simp only [ints_len] at *; omega) | (simp; omega))) | ((with_reducible refine (?_ : (_ : Nat) ≤ _)); (first | omega | (simp only [List.length_cons, List.length_nil]; omega) | (simp [ints]; done) | (simp; omega))) | ((with_reducible refine (?_ : (_ : Nat) < _)); (first | omega | (simp only [List.length_cons, List.length_nil]; omega) | (simp [ints]; done) | (simp; omega))) | ((with_reducible refine (?_ : (_ : Nat) = _)); (first | (with_reducible rfl) | (simp; done) | (simp only [fr_len]) | (simp only [ints_len]) | omega | (simp [*]; done))) | ((with_reducible refine view_at ?_ ?_); (focus (constructor <;> (first | omega | (simp only [ints_len] at *; omega)))); intro n hn) | (refine And.intro ?_ ?_) | (intro h; first | (exact Bool.noConfusion h) | ((simp only [decide_eq_true_eq, decide_eq_false_iff_not, beq_iff_eq, bne_iff_ne, ne_eq, beq_eq_false_iff_ne, bne_eq_false_iff_eq, Bool.not_eq_true', Bool.not_eq_false', Bool.not_eq_true, Bool.not_eq_false, Int.not_le, Int.not_lt, Bool.and_eq_true, Bool.or_eq_true, Bool.or_eq_false_iff, Bool.and_eq_false_iff] at h); (try (first | (exact Bool.noConfusion h) | (exact (h trivial).elim)))) | skip) | ((with_reducible refine (?_ : chk _ _ = true)); kernel_rfl) | ((with_reducible refine (?_ : (_ : IntKind) = _)); (with_reducible rfl)) | ((with_reducible refine (?_ : eqC (C.pvw _ _ _) (C.pvw _ _ _))); exact rfl) | ((with_reducible refine (?_ : eqC (C.pv (Value.int IntKind.u64 _)) _)); exact rfl) | exact trivial)
    · obtain ⟨n0, n1⟩ := hl.num _ _ hn
      have st := plA_step hn g5
      have pl1 := prs_len (n := n.natAbs) (by omega) (by omega)
      have hpl := ints_len (prs n.natAbs)
      repeat' (first | ((with_reducible refine (?_ : (_ : Bool) = _)); (with_reducible rfl)) | ((with_reducible refine (?_ : (_ : Nat × Nat) = _)); (with_reducible rfl)) | (with_reducible refine leafRI ?_) | (with_reducible refine leafRB ?_) | (with_reducible refine leafI ?_) | (with_reducible refine leafB ?_) | ((with_reducible refine (?_ : (_ : Int) = _)); (with_reducible rfl)) | ((with_reducible refine (?_ : (_ : List (List Value)) = _)); (with_reducible rfl)) | ((with_reducible refine (?_ : (_ : Int) ≠ 0)); (first | assumption | omega | (simp; done) | (simp only [ints_len] at *; omega) | (simp; omega))) | ((with_reducible refine (?_ : (_ : Int) ≤ _)); (first | assumption | omega | (simp; done) | (simp only [ints_len] at *; omega) | (simp; omega))) | ((with_reducible refine (?_ : (_ : Int) < _)); (first | assumption | omega | (simp; done) | (simp only [ints_len] at *; omega) | (simp; omega))) | ((with_reducible refine (?_ : (_ : Nat) ≤ _)); (first | omega | (simp only [List.length_cons, List.length_nil]; omega) | (simp [ints]; done) | (simp; omega))) | ((with_reducible refine (?_ : (_ : Nat) < _)); (first | omega | (simp only [List.length_cons, List.length_nil]; omega) | (simp [ints]; done) | (simp; omega))) | ((with_reducible refine (?_ : (_ : Nat) = _)); (first | (with_reducible rfl) | (simp; done) | (simp only [fr_len]) | (simp only [ints_len]) | omega | (simp [*]; done))) | (refine And.intro ?_ ?_) | (intro h; first | (exact Bool.noConfusion h) | ((simp only [decide_eq_true_eq, decide_eq_false_iff_not, beq_iff_eq, bne_iff_ne, ne_eq, beq_eq_false_iff_ne, bne_eq_false_iff_eq, Bool.not_eq_true', Bool.not_eq_false', Bool.not_eq_true, Bool.not_eq_false, Int.not_le, Int.not_lt, Bool.and_eq_true, Bool.or_eq_true, Bool.or_eq_false_iff, Bool.and_eq_false_iff] at h); (try (first | (exact Bool.noConfusion h) | (exact (h trivial).elim)))) | skip) | ((refine (?_ : ACall _ _ _ _ _ _ _)); first | ((apply acall (impl_abs _ ?_ ?_)); (focus (repeat' (first | exact rfl | (refine And.intro ?_ ?_) | (simp only [ints_len]; done) | (simp; done) | omega)))) | ((apply acall (impl_primesOf _ ?_ ?_)); (focus (repeat' (first | exact rfl | (refine And.intro ?_ ?_) | (simp only [ints_len]; done) | (simp; done) | omega))))) | ((with_reducible refine (?_ : chk _ _ = true)); kernel_rfl) | ((with_reducible refine (?_ : (_ : IntKind) = _)); (with_reducible rfl)) | ((with_reducible refine (?_ : eqC (C.pvw _ _ _) (C.pvw _ _ _))); exact rfl) | ((with_reducible refine (?_ : eqC (C.pv (Value.int IntKind.u64 _)) _)); exact rfl) | exact trivial)
      refine loop_rule (σ := Nat × List Ent × Int) (fun s => [(22, I s.2.2)]) (fun s => [((2, 0), .fl 3 1 []), ((10, 0), .mp s.1 s.2.1), ((20, 0), .fl 3 1 (ints (prs n.natAbs)))]) (fun s => 0 ≤ s.2.2 ∧ s.2.2 ≤ (prs n.natAbs).length ∧ ∃ ac, MpK s.1 s.2.1 ac (2 + 1000000 * i + s.2.2) ∧ puts ac ((prs n.natAbs).drop s.2.2.toNat) = puts acc (prs n.natAbs)) (fun s => ((prs n.natAbs).length - s.2.2).toNat) ((c, M, 0)) ?_ (by repeat' (first | exact trivial | exact rfl | (refine And.intro ?_ ?_))) (by repeat' (first | exact trivial | exact rfl | (refine And.intro ?_ ?_))) (fun s => ⟨rfl, rfl⟩) (fun s i h => by first | exact absurd h (Nat.not_lt_zero i) | (cases i with | zero => rfl | succ i => exact absurd (Nat.lt_of_succ_lt_succ h) (Nat.not_lt_zero i))) ?_
      · exact ⟨by dsimp only; omega, by dsimp only; omega, acc, by rw [Int.add_zero]; exact g4, rfl⟩
      · rintro ⟨c', M', j⟩ ⟨c2, c3, ac, c4, c5⟩
        dsimp only at c2 c3 c4 c5 ⊢
        have wj : wrap64 (j + 1) = j + 1 := wrap_small (by omega) (by omega)
        have hj1 : (j + 1).toNat = j.toNat + 1 := by omega
        clear g5 hn
        repeat' (first | ((with_reducible refine (?_ : (_ : Bool) = _)); (with_reducible rfl)) | ((with_reducible refine (?_ : (_ : Nat × Nat) = _)); (with_reducible rfl)) | (with_reducible refine leafRI ?_) | (with_reducible refine leafRB ?_) | (with_reducible refine leafI ?_) | (with_reducible refine leafB ?_) | ((with_reducible refine (?_ : (_ : Int) = _)); (with_reducible rfl)) | ((with_reducible refine (?_ : (_ : List (List Value)) = _)); (with_reducible rfl)) | ((with_reducible refine (?_ : (_ : Int) ≠ 0)); (first | assumption | omega | (simp; done) | (simp only [ints_len] at *; omega) | (simp; omega))) | ((with_reducible refine (?_ : (_ : Int) ≤ _)); (first | assumption | omega | (simp; done) | (simp only [ints_len] at *; omega) | (simp; omega))) | ((with_reducible refine (?_ : (_ : Int) < _)); (first | assumption | omega | (simp; done) | (simp only [ints_len] at *; omega) | (simp; omega))) | ((with_reducible refine (?_ : (_ : Nat) ≤ _)); (first | omega | (simp only [List.length_cons, List.length_nil]; omega) | (simp [ints]; done) | (simp; omega))) | ((with_reducible refine (?_ : (_ : Nat) < _)); (first | omega | (simp only [List.length_cons, List.length_nil]; omega) | (simp [ints]; done) | (simp; omega))) | ((with_reducible refine (?_ : (_ : Nat) = _)); (first | (with_reducible rfl) | (simp; done) | (simp only [fr_len]) | (simp only [ints_len]) | omega | (simp [*]; done))) | ((with_reducible refine view_at ?_ ?_); (focus (constructor <;> (first | omega | (simp only [ints_len] at *; omega)))); intro n hn) | (refine And.intro ?_ ?_) | (intro h; first | (exact Bool.noConfusion h) | ((simp only [decide_eq_true_eq, decide_eq_false_iff_not, beq_iff_eq, bne_iff_ne, ne_eq, beq_eq_false_iff_ne, bne_eq_false_iff_eq, Bool.not_eq_true', Bool.not_eq_false', Bool.not_eq_true, Bool.not_eq_false, Int.not_le, Int.not_lt, Bool.and_eq_true, Bool.or_eq_true, Bool.or_eq_false_iff, Bool.and_eq_false_iff] at h); (try (first | (exact Bool.noConfusion h) | (exact (h trivial).elim)))) | skip) | ((with_reducible refine (?_ : chk _ _ = true)); kernel_rfl) | ((with_reducible refine (?_ : (_ : IntKind) = _)); (with_reducible rfl)) | ((with_reducible refine (?_ : eqC (C.pvw _ _ _) (C.pvw _ _ _))); exact rfl) | ((with_reducible refine (?_ : eqC (C.pv (Value.int IntKind.u64 _)) _)); exact rfl) | exact trivial)
        · have st2 := puts_step hn c5
          have g6 := c4.set n (.bool true)
          refine ⟨(_, _, _), ?_, ?_, none, And.intro rfl (And.intro (by repeat' (first | exact trivial | exact rfl | (refine And.intro ?_ ?_))) (by repeat' (first | exact trivial | exact rfl | (refine And.intro ?_ ?_))))⟩
          · dsimp only
            rw [wj, hj1]
            exact ⟨by omega, by omega, put n ac, by rw [← Int.add_assoc]; exact g6, st2⟩
          · dsimp only; omega
        · rw [List.drop_eq_nil_of_le (by omega)] at c5
          have e : ac = puts acc (prs n.natAbs) := c5
          subst e
          have := c4.len
          refine ⟨(_, _, _), ?_, ?_, none, And.intro rfl (And.intro (by repeat' (first | exact trivial | exact rfl | (refine And.intro ?_ ?_))) (by repeat' (first | exact trivial | exact rfl | (refine And.intro ?_ ?_))))⟩
          · dsimp only
            rw [wi, hi1]
            exact ⟨by omega, by omega, _, ⟨c4.ok, c4.k, by omega⟩, st⟩
          · dsimp only; omega
    · rw [List.drop_eq_nil_of_le (by omega)] at g5
      have e : acc = plA prs [0, 2] l := g5
      subst e
      have hM := g4.len
      have hfl : ∀ seen : List Nat, (M.filter fun e => !seen.contains e.2.2).length ≤ M.length := fun seen => List.length_filter_le _ _
      clear g5 m1 m2
      refine loop_rule (σ := Nat × List (List Value) × List Nat) (fun s => [(8, .c (.slc (30, 0) s.1))]) (fun s => [((2, 0), .fl 3 1 []), ((10, 0), .mp c M), ((30, 0), .fl 3 1 s.2.1), ((32, 0), .it (10, 0) c s.2.2 c)]) (fun s => RgI M s.1 s.2.1 s.2.2) (fun s => (M.filter fun e => !s.2.2.contains e.2.2).length) ((0, [], [])) ?_ (by repeat' (first | exact trivial | exact rfl | (refine And.intro ?_ ?_))) (by repeat' (first | exact trivial | exact rfl | (refine And.intro ?_ ?_))) (fun s => ⟨rfl, rfl⟩) (fun s i h => by first | exact absurd h (Nat.not_lt_zero i) | (cases i with | zero => rfl | succ i => exact absurd (Nat.lt_of_succ_lt_succ h) (Nat.not_lt_zero i))) ?_
      · exact RgI.first M
      · rintro ⟨k, R, seen⟩ I
        dsimp only at I ⊢
        have hk := I.k
        have hkM : R.length + 1 ≤ 100000000 := by
          obtain ⟨acc, r1, _, _, r4⟩ := I.r
          rw [r1, ints_len]
          omega
        repeat' (first | ((with_reducible refine (?_ : (_ : Bool) = _)); (with_reducible rfl)) | ((with_reducible refine (?_ : (_ : Nat × Nat) = _)); (with_reducible rfl)) | (with_reducible refine leafRI ?_) | (with_reducible refine leafRB ?_) | (with_reducible refine leafI ?_) | (with_reducible refine leafB ?_) | ((with_reducible refine (?_ : (_ : Int) = _)); (with_reducible rfl)) | ((with_reducible refine (?_ : (_ : List (List Value)) = _)); (with_reducible rfl)) | ((with_reducible refine (?_ : (_ : Int) ≠ 0)); (first | assumption | omega | (simp; done) | (simp only [ints_len] at *; omega) | (simp; omega))) | ((with_reducible refine (?_ : (_ : Int) ≤ _)); (first | assumption | omega | (simp; done) | (simp only [ints_len] at *; omega) | (simp; omega))) | ((with_reducible refine (?_ : (_ : Int) < _)); (first | assumption | omega | (simp; done) | (simp only [ints_len] at *; omega) | (simp; omega))) | ((with_reducible refine (?_ : (_ : Nat) ≤ _)); (first | omega | (simp only [List.length_cons, List.length_nil]; omega) | (simp [ints]; done) | (simp; omega))) | ((with_reducible refine (?_ : (_ : Nat) < _)); (first | omega | (simp only [List.length_cons, List.length_nil]; omega) | (simp [ints]; done) | (simp; omega))) | ((with_reducible refine (?_ : (_ : Nat) = _)); (first | (with_reducible rfl) | (simp; done) | (simp only [fr_len]) | (simp only [ints_len]) | omega | (simp [*]; done))) | (refine And.intro ?_ ?_) | (intro h; first | (exact Bool.noConfusion h) | ((simp only [decide_eq_true_eq, decide_eq_false_iff_not, beq_iff_eq, bne_iff_ne, ne_eq, beq_eq_false_iff_ne, bne_eq_false_iff_eq, Bool.not_eq_true', Bool.not_eq_false', Bool.not_eq_true, Bool.not_eq_false, Int.not_le, Int.not_lt, Bool.and_eq_true, Bool.or_eq_true, Bool.or_eq_false_iff, Bool.and_eq_false_iff] at h); (try (first | (exact Bool.noConfusion h) | (exact (h trivial).elim)))) | skip) | ((with_reducible refine (?_ : chk _ _ = true)); kernel_rfl) | ((with_reducible refine (?_ : (_ : IntKind) = _)); (with_reducible rfl)) | ((with_reducible refine (?_ : eqC (C.pvw _ _ _) (C.pvw _ _ _))); exact rfl) | ((with_reducible refine (?_ : eqC (C.pv (Value.int IntKind.u64 _)) _)); exact rfl) | exact trivial)
        · exact g4.ok.lt _ h
        · rename_i hs
          obtain ⟨acc', e1, e2, e3, e4⟩ := I.fin g4 hs inc
          subst e1
          obtain rfl : k = acc'.length := e3.symm
          have hne : acc' ≠ [] := fun h => by
            have h0 : (0 : Int) ∈ plA prs [0, 2] l := (plA_mem prs 0 l [0, 2]).2 (.inl (by simp))
            rw [h] at e4
            rw [List.eq_nil_of_length_eq_zero e4.symm] at h0
            cases h0
          have hle : acc'.length ≤ 1000000000 := by rw [ints_len] at hkM; omega
          have sc := go_sortInts acc' hne hle
          rw [← e2]
          have hsl := srt_len acc'
          clear I hs g4 e2 e4 hM hfl
          repeat' (first | ((with_reducible refine (?_ : (_ : Bool) = _)); (with_reducible rfl)) | ((with_reducible refine (?_ : (_ : Nat × Nat) = _)); (with_reducible rfl)) | (with_reducible refine leafRI ?_) | (with_reducible refine leafRB ?_) | (with_reducible refine leafI ?_) | (with_reducible refine leafB ?_) | ((with_reducible refine (?_ : (_ : Int) = _)); (with_reducible rfl)) | ((with_reducible refine (?_ : (_ : List (List Value)) = _)); (with_reducible rfl)) | ((with_reducible refine (?_ : (_ : Int) ≠ 0)); (first | assumption | omega | (simp; done) | (simp only [ints_len] at *; omega) | (simp; omega))) | ((with_reducible refine (?_ : (_ : Int) ≤ _)); (first | assumption | omega | (simp; done) | (simp only [ints_len] at *; omega) | (simp; omega))) | ((with_reducible refine (?_ : (_ : Int) < _)); (first | assumption | omega | (simp; done) | (simp only [ints_len] at *; omega) | (simp; omega))) | ((with_reducible refine (?_ : (_ : Nat) ≤ _)); (first | omega | (simp only [List.length_cons, List.length_nil]; omega) | (simp [ints]; done) | (simp; omega))) | ((with_reducible refine (?_ : (_ : Nat) < _)); (first | omega | (simp only [List.length_cons, List.length_nil]; omega) | (simp [ints]; done) | (simp; omega))) | ((with_reducible refine (?_ : (_ : Nat) = _)); (first | (with_reducible rfl) | (simp; done) | (simp only [fr_len]) | (simp only [ints_len]) | omega | (simp [*]; done))) | (refine And.intro ?_ ?_) | (intro h; first | (exact Bool.noConfusion h) | ((simp only [decide_eq_true_eq, decide_eq_false_iff_not, beq_iff_eq, bne_iff_ne, ne_eq, beq_eq_false_iff_ne, bne_eq_false_iff_eq, Bool.not_eq_true', Bool.not_eq_false', Bool.not_eq_true, Bool.not_eq_false, Int.not_le, Int.not_lt, Bool.and_eq_true, Bool.or_eq_true, Bool.or_eq_false_iff, Bool.and_eq_false_iff] at h); (try (first | (exact Bool.noConfusion h) | (exact (h trivial).elim)))) | skip) | ((refine (?_ : ACall _ _ _ _ _ _ _)); first | ((apply alent (sc)); (focus (exact rfl)); (focus (repeat' (first | exact rfl | (refine And.intro ?_ ?_) | (simp only [ints_len]; done) | (simp; done) | omega))); (focus (exact rfl)))) | ((with_reducible refine (?_ : chk _ _ = true)); kernel_rfl) | ((with_reducible refine (?_ : (_ : IntKind) = _)); (with_reducible rfl)) | ((with_reducible refine (?_ : eqC (C.pvw _ _ _) (C.pvw _ _ _))); exact rfl) | ((with_reducible refine (?_ : eqC (C.pv (Value.int IntKind.u64 _)) _)); exact rfl) | exact trivial)
          all_goals skip
        · rename_i e he
          obtain ⟨J1, J2⟩ := I.next g4.ok he
          refine ⟨e, e.2.2, by simp, find_of g4.ok.borns he.1, ?_⟩
          repeat' (first | ((with_reducible refine (?_ : (_ : Bool) = _)); (with_reducible rfl)) | ((with_reducible refine (?_ : (_ : Nat × Nat) = _)); (with_reducible rfl)) | (with_reducible refine leafRI ?_) | (with_reducible refine leafRB ?_) | (with_reducible refine leafI ?_) | (with_reducible refine leafB ?_) | ((with_reducible refine (?_ : (_ : Int) = _)); (with_reducible rfl)) | ((with_reducible refine (?_ : (_ : List (List Value)) = _)); (with_reducible rfl)) | ((with_reducible refine (?_ : (_ : Int) ≠ 0)); (first | assumption | omega | (simp; done) | (simp only [ints_len] at *; omega) | (simp; omega))) | ((with_reducible refine (?_ : (_ : Int) ≤ _)); (first | assumption | omega | (simp; done) | (simp only [ints_len] at *; omega) | (simp; omega))) | ((with_reducible refine (?_ : (_ : Int) < _)); (first | assumption | omega | (simp; done) | (simp only [ints_len] at *; omega) | (simp; omega))) | ((with_reducible refine (?_ : (_ : Nat) ≤ _)); (first | omega | (simp only [List.length_cons, List.length_nil]; omega) | (simp [ints]; done) | (simp; omega))) | ((with_reducible refine (?_ : (_ : Nat) < _)); (first | omega | (simp only [List.length_cons, List.length_nil]; omega) | (simp [ints]; done) | (simp; omega))) | ((with_reducible refine (?_ : (_ : Nat) = _)); (first | (with_reducible rfl) | (simp; done) | (simp only [fr_len]) | (simp only [ints_len]) | omega | (simp [*]; done))) | (refine And.intro ?_ ?_) | (intro h; first | (exact Bool.noConfusion h) | ((simp only [decide_eq_true_eq, decide_eq_false_iff_not, beq_iff_eq, bne_iff_ne, ne_eq, beq_eq_false_iff_ne, bne_eq_false_iff_eq, Bool.not_eq_true', Bool.not_eq_false', Bool.not_eq_true, Bool.not_eq_false, Int.not_le, Int.not_lt, Bool.and_eq_true, Bool.or_eq_true, Bool.or_eq_false_iff, Bool.and_eq_false_iff] at h); (try (first | (exact Bool.noConfusion h) | (exact (h trivial).elim)))) | skip) | ((with_reducible refine (?_ : chk _ _ = true)); kernel_rfl) | ((with_reducible refine (?_ : (_ : IntKind) = _)); (with_reducible rfl)) | ((with_reducible refine (?_ : eqC (C.pvw _ _ _) (C.pvw _ _ _))); exact rfl) | ((with_reducible refine (?_ : eqC (C.pv (Value.int IntKind.u64 _)) _)); exact rfl) | exact trivial)
          refine ⟨(_, _, _), ?_, ?_, none, And.intro rfl (And.intro (by repeat' (first | exact trivial | exact rfl | (refine And.intro ?_ ?_))) (by repeat' (first | exact trivial | exact rfl | (refine And.intro ?_ ?_))))⟩
          · exact J1
          · exact J2

end Go.Proofs.Ytfcndlagnhaafaa
