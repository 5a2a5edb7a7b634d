/- The abstract machine: contracts out of walks; loops. -/
import Derived.Test.YtfbadfnhnaaeeaaE17
namespace Go.Proofs.Ytfbadfnhnaaeeaa
set_option linter.unusedSimpArgs false
set_option linter.unusedVariables false
open Go.RowKit

theorem nodupN_iff : ∀ {l : List Nm}, nodupN l = true → ∀ (i j : Nat) n, l[i]? = some n → l[j]? = some n → i = j
  | [], _, i, j, n, h, _ => by simp at h
  | q :: r, h, i, j, n, h1, h2 => by
    simp only [nodupN] at h
    cases hb : r.any (nmB q ·) with
    | true => rw [hb] at h; cases h
    | false =>
      rw [hb] at h
      have hno : ∀ (s : Nat), r[s]? ≠ some q := fun s hs => by
        have := List.any_eq_false.1 hb q (List.mem_of_getElem? hs)
        exact this (nmB_iff.2 rfl)
      cases i with
      | zero =>
        simp at h1
        subst h1
        cases j with
        | zero => rfl
        | succ j => exact absurd (by simpa using h2) (hno j)
      | succ i =>
        cases j with
        | zero =>
          simp at h2
          subst h2
          exact absurd (by simpa using h1) (hno i)
        | succ j => rw [nodupN_iff h i j n (by simpa using h1) (by simpa using h2)]
theorem lentN_get : ∀ (ms : List Blk) (s i : Nat), (lentN s ms)[i]? = if i < ms.length then some (0, s + i) else none
  | [], s, i => by simp [lentN]
  | b :: r, s, i => by
    cases i with
    | zero => simp [lentN]
    | succ i =>
      simp only [lentN, List.getElem?_cons_succ, lentN_get r (s + 1) i, List.length_cons]
      by_cases h : i < r.length
      · rw [if_pos h, if_pos (by omega)]; congr 2; omega
      · rw [if_neg h, if_neg (by omega)]
theorem lentN_len : ∀ (ms : List Blk) (s : Nat), (lentN s ms).length = ms.length
  | [], _ => rfl
  | _ :: r, s => by simp [lentN, lentN_len r]
theorem lentM_sem : ∀ (ms : List Blk) (s : Nat) (n : Nm), sem (lentM s ms) n = if n.1 = 0 ∧ s ≤ n.2 then ms[n.2 - s]? else none
  | [], s, n => by simp [lentM, sem]
  | b :: r, s, n => by
    simp only [lentM, sem]
    cases hb : nmB (0, s) n with
    | true =>
      have := nmB_iff.1 hb
      subst this
      simp
    | false =>
      simp only [lentM_sem r (s + 1) n]
      have hne : n ≠ (0, s) := fun e => by rw [e, nmB_iff.2 rfl] at hb; cases hb
      by_cases h : n.1 = 0 ∧ s + 1 ≤ n.2
      · rw [if_pos h, if_pos (by omega), show n.2 - s = (n.2 - (s + 1)) + 1 by omega]; simp
      · rw [if_neg h]
        by_cases h2 : n.1 = 0 ∧ s ≤ n.2
        · exact absurd (Prod.ext h2.1 (show n.2 = s by omega)) hne
        · rw [if_neg h2]
theorem lentM_semL (ms : List Blk) : sem (lentM 0 ms) = semL ms := by
  funext n
  rw [lentM_sem]
  obtain ⟨x, y⟩ := n
  cases x with
  | zero => simp [semL]
  | succ x => simp [semL]

section
variable {P : Program}

theorem BOk.back {w0 w : World} {F : Nat → Prop} {G : Gh} {m : ML} {g : Value} {kp : List Nm} {bs : List Blk} {b0 b : Blk} (h : BOk w0 F G (sem m) w g b0) (hb : BkB kp b0 b) (hbs : ∀ (i : Nat) n, kp[i]? = some n → ∃ b0 b, bs[i]? = some b ∧ sem m n = some b0 ∧ arrB b = arrB b0) : BOk w0 F (backG kp G) (semL bs) w g b := by
  cases b0 with
  | fl e sz l => obtain rfl := hb; exact h
  | bx l =>
    obtain ⟨rfl, hf⟩ := hb
    obtain ⟨B, c, ety, h1, h2, h3, h4⟩ := h
    refine ⟨B, c, ety, h1, h2, h3, h4.1, fun j x hx => ?_⟩
    obtain ⟨v, e1, e2⟩ := h4.2 j x hx
    refine ⟨v, e1, ?_⟩
    have hx' := freeCs_iff.1 hf x (List.mem_of_getElem? hx)
    cases x with
    | pv _ => exact e2
    | any => trivial
    | pvw _ _ _ => exact e2
    | _ => cases hx'
  | cs e l =>
    obtain ⟨l', rfl, hk⟩ := hb
    obtain ⟨vs, f1, f2, f4, f5⟩ := h
    obtain ⟨l2, rfl, hc⟩ := backC_ex (w0 := w0) (F := F) (G := G) hbs hk
    obtain ⟨l3, e3, h3, _⟩ := backC_det hk
    subst e3
    exact ⟨vs, hc vs f1, f2, by rw [h3]; exact f4, f5⟩
  | mp _ _ => exact hb.elim
  | it _ _ _ _ => exact hb.elim
def kindBs : List Blk → Bool
  | [] => true
  | .fl _ _ _ :: r => kindBs r
  | .bx _ :: r => kindBs r
  | .cs _ _ :: r => kindBs r
  | _ :: _ => false
theorem kindBs_at : ∀ {l : List Blk}, kindBs l = true → ∀ b ∈ l, (∃ e sz l, b = .fl e sz l) ∨ (∃ l, b = .bx l) ∨ ∃ e l, b = .cs e l
  | [], _, b, hb => by simp at hb
  | .fl e sz l :: r, h, b, hb => by
    rcases List.mem_cons.1 hb with rfl | hb
    · exact .inl ⟨_, _, _, rfl⟩
    · exact kindBs_at (l := r) h b hb
  | .bx l :: r, h, b, hb => by
    rcases List.mem_cons.1 hb with rfl | hb
    · exact .inr (.inl ⟨_, rfl⟩)
    · exact kindBs_at (l := r) h b hb
  | .cs e l :: r, h, b, hb => by
    rcases List.mem_cons.1 hb with rfl | hb
    · exact .inr (.inr ⟨_, _, rfl⟩)
    · exact kindBs_at (l := r) h b hb
  | .mp _ _ :: _, h, _, _ => by cases h
  | .it _ _ _ _ :: _, h, _, _ => by cases h
/-- What is pinned of a lent block. -/
def pinC (o : Option Blk) (i : Nat) : C := match o with
  | some (.fl _ _ l) => .slc (0, i) l.length
  | some (.cs _ l) => .slc (0, i) l.length
  | _ => .ptr (0, i) 0
/-- A CONTRACT OUT OF A go_wp2. -/
theorem afun_intro {f : FuncId} {n : Nat} {rs : List AR} {ac : AC} (hfn : IsFn P f n rs ac) {ms : List Blk} {args : List V} {res : V} {ms' news : List Blk} 
    (hms : kindBs ms = true) (hlen : ms'.length = ms.length) (hsame : sameLens ms ms')
    (h : initK args n fun T => wpA P ms.length ac T (lentM 0 ms) fun e T m => match e with
      | .exit _ => False
      | _ => outK ms rs (fun r bs => eqRes r res ∧ eqBs bs (ms' ++ news)) T m) : AFun P f ms args res ms' news := by
  obtain ⟨fn, c, h1, h2, h3, h4, h5⟩ := hfn
  refine ⟨hlen, fun w F G vs hR hcov hvl hargs => ?_⟩
  obtain ⟨h6, h7⟩ := initK_ex h
  let pins : List (C × Value) := (List.range ms.length).map fun i => (pinC ms[i]? i, G (0, i))
  have hpins : PinsOk ms.length pins := fun p hp => by
    obtain ⟨i, hi, rfl⟩ := List.mem_map.1 hp
    refine ⟨i, by simpa using hi, ?_⟩
    dsimp only [pinC]
    split
    · exact .inl ⟨_, rfl⟩
    · exact .inl ⟨_, rfl⟩
    · exact .inr rfl
  have hmsat : ∀ i, i < ms.length → (∃ e sz l, ms[i]? = some (.fl e sz l)) ∨ (∃ l, ms[i]? = some (.bx l)) ∨ ∃ e l, ms[i]? = some (.cs e l) := fun i hi => by
    have hb := kindBs_at hms ms[i] (List.getElem_mem hi)
    rw [List.getElem?_eq_getElem hi]
    rcases hb with ⟨e, sz, l, hb⟩ | ⟨l, hb⟩ | ⟨e, l, hb⟩
    · exact .inl ⟨e, sz, l, by rw [hb]⟩
    · exact .inr (.inl ⟨l, by rw [hb]⟩)
    · exact .inr (.inr ⟨e, l, by rw [hb]⟩)
  have slcs : ∀ {w' : World} {G' : Gh} {M' : Mem}, Rel w F G' M' w' → ∀ n e sz l, M' n = some (.fl e sz l) → ConcC w F G' M' (.slc n l.length) (G' n) := fun hR n e sz l hn => by
    obtain ⟨q1, q2, q3, q4, q5⟩ := hR.fl hn
    refine ⟨_, sz, l.length, hn, rfl, Nat.le_refl _, ?_, fun _ => rfl⟩
    rcases q4.2 with ⟨r1, r2⟩ | ⟨B, cap, cur, r1, _⟩
    · exact ⟨none, 0, by rw [r1, r2]⟩
    · exact ⟨_, _, r1⟩
  have slcc : ∀ {w' : World} {G' : Gh} {M' : Mem}, Rel w F G' M' w' → ∀ n e l, M' n = some (.cs e l) → ConcC w F G' M' (.slc n l.length) (G' n) := fun hR n e l hn => by
    obtain ⟨vs, q1, q2, q4, q5⟩ := hR.own n _ hn
    refine ⟨_, 1, l.length, hn, rfl, Nat.le_refl _, ?_, fun _ => rfl⟩
    rcases q4.2 with ⟨r1, r2⟩ | ⟨B, cap, cur, r1, _⟩
    · exact ⟨none, 0, by rw [r1, r2]⟩
    · exact ⟨_, _, r1⟩
  have hRS : RelS w F pins (args ++ List.replicate (n - args.length) (.c (.pv undef))) (lentM 0 ms) { tmps := vs.toArray ++ Array.replicate (fn.ntmps - vs.toArray.size) undef, defers := [] } w := by
    refine ⟨G, by rw [lentM_semL]; exact hR, ⟨by simp [hvl, h3], rfl, fun i x hx => ?_⟩, fun p hp => ?_⟩
    · rw [List.getElem?_append] at hx
      split at hx
      · rename_i hi
        have hiv : i < vs.length := by omega
        refine ⟨vs[i], by simp [Array.getElem?_append, hiv], ?_⟩
        rw [lentM_semL]
        exact hargs i x _ hx (List.getElem?_eq_getElem hiv)
      · rename_i hi
        rw [List.getElem?_replicate] at hx
        split at hx
        · simp only [Option.some.injEq] at hx
          subst hx
          refine ⟨undef, ?_, rfl⟩
          simp only [Array.getElem?_append, List.size_toArray]
          rw [if_neg (by omega), Array.getElem?_replicate, if_pos (by omega)]
        · cases hx
    · obtain ⟨i, hi, rfl⟩ := List.mem_map.1 hp
      have hi' : i < ms.length := by simpa using hi
      rcases hmsat i hi' with ⟨e, sz, l, hb⟩ | ⟨l, hb⟩ | ⟨e, l, hb⟩
      · simp only [hb]
        rw [lentM_semL]
        exact slcs hR (0, i) e sz l hb
      · simp only [hb]
        rw [lentM_semL]
        obtain ⟨B, c, ety, q1, q2, q3, q4⟩ := hR.own (0, i) (.bx l) hb
        exact ⟨B, q1, q1, l, hb⟩
      · simp only [hb]
        rw [lentM_semL]
        exact slcc hR (0, i) e l hb
  refine calls_of_wp h1 h2 (wpA_sound hpins c h5 h7 hRS fun e T' m' a' w' h8 h9 => ?_)
  obtain ⟨G', r1, r2, r3⟩ := h9
  -- the end
  have fin : outK ms rs (fun r bs => eqRes r res ∧ eqBs bs (ms' ++ news)) T' m' → a'.defers = [] ∧ ∃ v, (results fn a'.tmps).run P w' = .ok v w' ∧ ∃ v0 G0, Ending.returned v = .returned v0 ∧ Rel w F G0 (semL (ms' ++ news)) w' ∧ ConcV w F G0 (semL (ms' ++ news)) res v0 ∧
      (∀ i, i < ms.length → G0 (0, i) = G (0, i)) ∧ ∀ i, ms.length ≤ i → ∀ B, blkOf (G0 (0, i)) = some B → w.heap.size ≤ B := fun h10 => by
    obtain ⟨ps, h11, h12, us, h13, h14, h15⟩ := ressK_ex h4 h10 r1 r2
    obtain ⟨keep1, h11⟩ := keepK_ex h11
    obtain ⟨keep2, h11⟩ := csK_ex h11
    generalize keep1 ++ keep2 = keep at h11
    obtain ⟨hk, h11⟩ := guardK_iff.1 h11
    have hb0 : ∃ bs, (∀ (i : Nat) n, (lentN 0 ms ++ keep)[i]? = some n → ∃ b0 b, bs[i]? = some b ∧ sem m' n = some b0 ∧ BkB (lentN 0 ms ++ keep) b0 b) ∧ bs.length = (lentN 0 ms ++ keep).length ∧ ∃ ps', ps'.length = ps.length ∧
        (∀ (j : Nat) p', ps'[j]? = some p' → ∃ p, ps[j]? = some p ∧ ∀ v, Conc1 w F G' (sem m') p v → Conc1 w F (backG (lentN 0 ms ++ keep) G') (semL bs) p' v) ∧ asV ps' = res ∧ bs = ms' ++ news := by
      have dig : ∀ (ps : List (Bool × List C)) (k : List (Bool × List C) → Prop), backs (lentN 0 ms ++ keep) ps k → ∃ ps', k ps' := fun ps k h => by
        induction ps generalizing k with
        | nil => exact ⟨_, h⟩
        | cons p r ih =>
          obtain ⟨b, l⟩ := p
          have digC : ∀ (l : List C) (k : List C → Prop), backC (lentN 0 ms ++ keep) l k → ∃ l', k l' := fun l k h => by
            induction l generalizing k with
            | nil => exact ⟨_, h⟩
            | cons x r ih =>
              cases x with
              | slc n len => obtain ⟨j, h1, _⟩ := nmIdx_ex h; obtain ⟨l', h2⟩ := ih _ h1; exact ⟨_, h2⟩
              | _ => obtain ⟨l', h2⟩ := ih _ h; exact ⟨_, h2⟩
          obtain ⟨l', h1⟩ := digC _ _ h
          obtain ⟨ps', h2⟩ := ih _ h1
          exact ⟨_, h2⟩
      obtain ⟨ps0, h16⟩ := dig _ _ h11
      obtain ⟨bs, ⟨_, hbs⟩, hbl, hbn⟩ := blksK_ex h16
      obtain ⟨ps', h17, h18, h19⟩ := backs_ex (w0 := w) (F := F) (G := G') (fun i n h => let ⟨b0, b, e1, e2, e3⟩ := hbn i n h; ⟨b0, b, e1, e2, e3.arr⟩) h11
      obtain ⟨bs2, ⟨h20, hbs2⟩, _, _⟩ := blksK_ex h17
      exact ⟨bs, hbn, hbl, ps', h18, h19, eqRes_eq h20, eqBs_eq hbs⟩
    obtain ⟨bs, hbn, hbl, ps', h18, h19, hres, rfl⟩ := hb0
    have hvs : ∀ (j : Nat) p, ps'[j]? = some p → ∃ v, us[j]? = some v ∧ Conc1 w F (backG (lentN 0 ms ++ keep) G') (semL (ms' ++ news)) p v := fun j p hp => by
      obtain ⟨p0, e1, e2⟩ := h19 j p hp
      obtain ⟨v, e3, e4⟩ := h15 j p0 e1
      exact ⟨v, e3, e2 v e4⟩
    have hrun : (results fn a'.tmps).run P w' = .ok (if h : us.toArray.size = 1 then us.toArray[0] else .tuple us.toArray) w' := by
      have e : (fn.results.mapM (runRes a'.tmps)).run P w' = .ok us.toArray w' := by
        rw [Array.mapM_eq_mapM_toList]
        simp [h13]
      have e2 : results fn a'.tmps = (do
          let vs ← fn.results.mapM (runRes a'.tmps)
          pure (if h : vs.size = 1 then vs[0] else .tuple vs)) := by
        unfold results
        rfl
      rw [e2]
      simp only [Sem.run_bind, e, Result.andThen_ok, Sem.run_pure]
    have hnth : ∀ i, i < ms.length → (lentN 0 ms ++ keep)[i]? = some (0, i) := fun i hi => by
      rw [List.getElem?_append_left (by rw [lentN_len]; exact hi), lentN_get, if_pos hi]; simp
    have hG0 : ∀ i, i < ms.length → backG (lentN 0 ms ++ keep) G' (0, i) = G' (0, i) := fun i hi => by
      simp only [backG, hnth i hi]
    have hlent : ∀ i, i < ms.length → G' (0, i) = G (0, i) := fun i hi => by
      have same : ∀ (a b : List Blk), sameLens a b → ∀ (i : Nat) x, a[i]? = some x → ∀ y, b[i]? = some y → (∀ e sz l, x = .fl e sz l → ∃ e' sz' l', y = .fl e' sz' l' ∧ l'.length = l.length) ∧ (∀ e l, x = .cs e l → ∃ e' l', y = .cs e' l' ∧ l'.length = l.length) := by
        intro a
        induction a with
        | nil => intro b _ i x h; simp at h
        | cons x r ih =>
          intro b hs i u h1 y h2
          cases b with
          | nil => simp at h2
          | cons z r' =>
            cases i with
            | zero =>
              simp at h1 h2
              subst h1 h2
              cases x with
              | fl e sz l =>
                cases z with
                | fl e' sz' l' => exact ⟨fun e2 sz2 l2 he => (by cases he; exact ⟨_, _, _, rfl, hs.1⟩), fun e2 l2 he => (by cases he)⟩
                | _ => exact hs.elim
              | cs e l =>
                cases z with
                | cs e' l' => exact ⟨fun e2 sz2 l2 he => (by cases he), fun e2 l2 he => (by cases he; exact ⟨_, _, rfl, hs.1⟩)⟩
                | _ => exact hs.elim
              | bx l => exact ⟨fun e2 sz2 l2 he => (by cases he), fun e2 l2 he => (by cases he)⟩
              | mp _ _ => exact ⟨fun e2 sz2 l2 he => (by cases he), fun e2 l2 he => (by cases he)⟩
              | it _ _ _ _ => exact ⟨fun e2 sz2 l2 he => (by cases he), fun e2 l2 he => (by cases he)⟩
            | succ i =>
              have : sameLens r r' := by
                cases x <;> cases z <;> first | exact hs.2 | exact hs | exact hs.elim
              exact ih r' this i u (by simpa using h1) y (by simpa using h2)
      obtain ⟨b0, b', hb', hm', hk'⟩ := hbn i (0, i) (hnth i hi)
      have hb2 : ms'[i]? = some b' := by rw [List.getElem?_append_left (by omega)] at hb'; exact hb'
      rcases hmsat i hi with ⟨e, sz, l, hb⟩ | ⟨l, hb⟩ | ⟨e, l, hb⟩
      · have hpin := r3 (.slc (0, i) l.length, G (0, i)) (List.mem_map.2 ⟨i, by simpa using hi, by rw [hb]; rfl⟩)
        obtain ⟨b1, sz', L', p1, p0, p2, p3, p4⟩ := hpin
        rw [hm'] at p1
        simp only [Option.some.injEq] at p1
        subst p1
        obtain ⟨e2, sz2, l2, rfl, hll⟩ := (same _ _ hsame i _ hb _ hb2).1 _ _ _ rfl
        have ha := hk'.arr
        rw [p0] at ha
        simp only [arrB, Option.some.injEq, Prod.mk.injEq] at ha
        exact (p4 (by omega)).symm
      · have hpin := r3 (.ptr (0, i) 0, G (0, i)) (List.mem_map.2 ⟨i, by simpa using hi, by rw [hb]; rfl⟩)
        obtain ⟨B, p1, p2, _⟩ := hpin
        exact p1.trans p2.symm
      · have hpin := r3 (.slc (0, i) l.length, G (0, i)) (List.mem_map.2 ⟨i, by simpa using hi, by rw [hb]; rfl⟩)
        obtain ⟨b1, sz', L', p1, p0, p2, p3, p4⟩ := hpin
        rw [hm'] at p1
        simp only [Option.some.injEq] at p1
        subst p1
        obtain ⟨e2, l2, rfl, hll⟩ := (same _ _ hsame i _ hb _ hb2).2 _ _ rfl
        have ha := hk'.arr
        rw [p0] at ha
        simp only [arrB, Option.some.injEq, Prod.mk.injEq] at ha
        exact (p4 (by omega)).symm
    have back : ∀ n b, semL (ms' ++ news) n = some b → ∃ q b0, (lentN 0 ms ++ keep)[n.2]? = some q ∧ backG (lentN 0 ms ++ keep) G' n = G' q ∧ sem m' q = some b0 ∧ BkB (lentN 0 ms ++ keep) b0 b := fun n b hn => by
      obtain ⟨e1, e2⟩ := semL_some hn
      have hlt : n.2 < (lentN 0 ms ++ keep).length := by rw [← hbl]; exact (List.getElem?_eq_some_iff.1 e2).1
      obtain ⟨b0, b3, e3, e4, e5⟩ := hbn n.2 _ (List.getElem?_eq_getElem hlt)
      rw [e2] at e3
      obtain rfl := Option.some.inj e3
      exact ⟨_, b0, List.getElem?_eq_getElem hlt, by simp only [backG, List.getElem?_eq_getElem hlt], e4, e5⟩
    refine ⟨r2.defers, _, hrun, _, backG (lentN 0 ms ++ keep) G', rfl, { bd := r1.bd, os := r1.os, tape := r1.tape, output := r1.output, size := r1.size, keep := r1.keep, own := fun n b hn => ?_, dist := fun p q B hp hq e1 e2 => ?_ }, ?_, fun i hi => ?_, fun i hi B hB => ?_⟩
    · obtain ⟨q, b0, _, e2, e3, e4⟩ := back n b hn
      rw [e2]
      exact (r1.own q _ e3).back e4 fun i n h => let ⟨b0, b, e1, e2, e3⟩ := hbn i n h; ⟨b0, b, e1, e2, e3.arr⟩
    · obtain ⟨b, hb⟩ := Option.ne_none_iff_exists'.1 hp
      obtain ⟨c', hc'⟩ := Option.ne_none_iff_exists'.1 hq
      obtain ⟨p', _, p1, p2, p3, _⟩ := back p b hb
      obtain ⟨q', _, q1, q2, q3, _⟩ := back q c' hc'
      rw [p2] at e1
      rw [q2] at e2
      have := r1.dist p' q' B (by rw [p3]; simp) (by rw [q3]; simp) e1 e2
      subst this
      have hpq := nodupN_iff hk _ _ _ p1 q1
      rw [(semL_some hb).1, (semL_some hc').1, hpq]
    · rw [← hres]
      exact asV_conc (by rw [h14, h18, h12]) hvs
    · rw [hG0 i hi, hlent i hi]
    · have hq : ∃ q, (lentN 0 ms ++ keep)[i]? = some q := by
        cases he : (lentN 0 ms ++ keep)[i]? with
        | none => simp [backG, he, blkOf] at hB
        | some q => exact ⟨q, rfl⟩
      obtain ⟨q, hq⟩ := hq
      obtain ⟨_, b4, _, e4, _⟩ := hbn i q hq
      simp only [backG, hq] at hB
      obtain ⟨b1, b2⟩ := (r1.own q _ e4).lt B hB
      rcases Nat.lt_or_ge B w.heap.size with hlt | hge
      · rcases hcov B hlt with hF | ⟨j, hj, hBj⟩
        · exact absurd hF b2
        · exfalso
          rw [← hlent j hj] at hBj
          obtain ⟨_, _, _, e5, _⟩ := hbn j _ (hnth j hj)
          have := r1.dist q (0, j) B (by rw [e4]; simp) (by rw [e5]; simp) hB hBj
          subst this
          have := nodupN_iff hk _ _ _ hq (hnth j hj)
          omega
      · exact hge
  cases e with
  | normal => exact fin h8
  | exit id => exact h8.elim
  | ret => exact fin h8
end
end Go.Proofs.Ytfbadfnhnaaeeaa
