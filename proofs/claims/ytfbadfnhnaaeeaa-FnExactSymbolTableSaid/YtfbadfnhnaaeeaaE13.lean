/- The abstract machine: calls; all operations. -/
import Derived.Test.YtfbadfnhnaaeeaaE12
namespace Go.Proofs.Ytfbadfnhnaaeeaa
set_option linter.unusedSimpArgs false
set_option linter.unusedVariables false
open Go.RowKit

section
variable {P : Program} {w0 : World} {F : Nat → Prop} {G : Gh} {M : Mem} {w : World} {T : List V} {a : Act} {o : Oper} {d : Nat} {K : Act → World → Prop} {Q : Exit → Act → World → Prop}

theorem BOk.fl_keep {F2 : Nat → Prop} {G2 : Gh} {M2 : Mem} {w1 : World} {g : Value} {e : TypeId} {sz : Nat} {l : List (List Value)} (h : BOk w1 F2 G2 M2 w g (.fl e sz l)) (hF : ∀ B, F B → F2 B) : BOk w0 F G M w g (.fl e sz l) :=
  ⟨h.1, h.2.1, h.2.2.1, h.2.2.2.1, fun B hB hFB => h.2.2.2.2 B hB (hF B hFB)⟩

/-- Blocks may turn, as long as each stays of its kind. -/
theorem conc_turn {G' : Gh} {M' : Mem} (ht : ∀ n b, M n = some b → ∃ b', M' n = some b' ∧ Turns b b' (G n) (G' n)) {x : C} {v : Value} (h : ConcC w0 F G M x v) : ConcC w0 F G' M' x v := by
  have fl : ∀ n e sz l, M n = some (.fl e sz l) → ∃ l', M' n = some (.fl e sz l') ∧ l.length ≤ l'.length ∧ (l'.length = l.length → G' n = G n) := fun n e sz l hn => by
    obtain ⟨b', h1, h2⟩ := ht n _ hn
    cases b' with
    | fl e' sz' l' => obtain ⟨rfl, rfl, t1, t2⟩ := h2; exact ⟨l', h1, t1, t2⟩
    | bx _ => exact h2.elim
    | mp _ _ => exact h2.elim
    | it _ _ _ _ => exact h2.elim
    | cs _ _ => exact h2.elim
  cases x with
  | any => trivial
  | pv _ => exact h
  | view _ _ => exact h
  | vptr _ _ => exact h
  | pview _ _ => exact h
  | pvw _ _ _ => exact h
  | ptr m j =>
    obtain ⟨B, h1, h2, l, h3⟩ := h
    obtain ⟨b', q1, q2⟩ := ht m _ h3
    cases b' with
    | bx l' => exact ⟨B, q2.trans h1, h2, l', q1⟩
    | fl _ _ _ => exact q2.elim
    | mp _ _ => exact q2.elim
    | it _ _ _ _ => exact q2.elim
    | cs _ _ => exact q2.elim
  | eptr m len i j =>
    obtain ⟨b, sz, L, h1, h0, h2, h3, h4⟩ := h
    obtain ⟨b', q1, qt⟩ := ht m _ h1
    obtain ⟨L', q0, q2, q3⟩ := qt.arr h0
    exact ⟨_, _, L', q1, q0, by omega, h3, fun hl => by rw [q3 (by omega)]; exact h4 (by omega)⟩
  | slc m len =>
    obtain ⟨b, sz, L, h1, h0, h2, h3, h4⟩ := h
    obtain ⟨b', q1, qt⟩ := ht m _ h1
    obtain ⟨L', q0, q2, q3⟩ := qt.arr h0
    exact ⟨_, _, L', q1, q0, by omega, h3, fun hl => by rw [q3 (by omega)]; exact h4 (by omega)⟩
  | sub m len lo cnt =>
    obtain ⟨e', sz, l, h1, h2, h3, h4⟩ := h
    obtain ⟨l', q1, q2, q3⟩ := fl m _ _ _ h1
    exact ⟨_, _, l', q1, by omega, h3, fun hl => by rw [q3 (by omega)]; exact h4 (by omega)⟩
  | ref m =>
    obtain ⟨h1, h2, b, h3, h4⟩ := h
    obtain ⟨b', q1, q2⟩ := ht m _ h3
    cases b with
    | bx _ => cases h4
    | fl _ _ _ => cases h4
    | cs _ _ => cases h4
    | mp _ _ =>
      cases b' with
      | mp _ _ => exact ⟨h1.trans q2.symm, h2, _, q1, rfl⟩
      | _ => exact q2.elim
    | it _ _ _ _ =>
      cases b' with
      | it _ _ _ _ => exact ⟨h1.trans q2.symm, h2, _, q1, rfl⟩
      | _ => exact q2.elim

/-! ### what is lent -/
def lnG (ns : List Nm) (G : Gh) : Gh := fun m => match ns[m.2]? with
  | some q => G q
  | none => .bool false
theorem looksK_ex {ns : List Nm} : ∀ {k : List Blk → Prop}, looksK (lookS M) ns k → ∃ bs, k bs ∧ bs.length = ns.length ∧ ∀ (i : Nat) q, ns[i]? = some q → ∃ b, bs[i]? = some b ∧ M q = some b := by
  induction ns with
  | nil => intro k h; exact ⟨[], h, rfl, fun i q h => by simp at h⟩
  | cons n r ih =>
    intro k h
    obtain ⟨b, hb, h⟩ := h
    obtain ⟨bs, h1, h2, h3⟩ := ih h
    refine ⟨_, h1, by simp [h2], fun i q hq => ?_⟩
    cases i with
    | zero => simp at hq; subst hq; exact ⟨b, rfl, hb⟩
    | succ i => simpa using h3 i q (by simpa using hq)
/-- What lies under a lent name, ahead of the call and behind it. -/
def LentB : Blk → Blk → Prop
  | .fl e sz _, .fl e' sz' _ => e' = e ∧ sz' = sz
  | .bx l, .bx l' => keepCs l l'
  | .cs e _, .cs e' _ => e' = e
  | _, _ => False
theorem keepBs_at : ∀ {bs bs' : List Blk}, keepBs bs bs' → bs'.length = bs.length ∧ ∀ (i : Nat) b, bs[i]? = some b → ∃ b', bs'[i]? = some b' ∧ LentB b b'
  | [], [], _ => ⟨rfl, fun i b h => by simp at h⟩
  | x :: r, y :: r', h => by
    have hh : LentB x y ∧ keepBs r r' := by
      cases x <;> cases y <;> first | exact ⟨h.1, h.2⟩ | exact h.elim
    obtain ⟨h1, h2⟩ := hh
    obtain ⟨h3, h4⟩ := keepBs_at h2
    refine ⟨by simp [h3], fun i b hb => ?_⟩
    cases i with
    | zero => simp at hb; subst hb; exact ⟨y, rfl, h1⟩
    | succ i => simpa using h4 i b (by simpa using hb)
  | [], y :: r', h => by cases y <;> exact h.elim
  | x :: r, [], h => by cases x <;> exact h.elim
theorem keepCs_at : ∀ {l l' : List C}, keepCs l l' → l'.length = l.length ∧ ∀ (j : Nat) y, l'[j]? = some y → ∃ x, l[j]? = some x ∧ keepC1 x y
  | [], [], _ => ⟨rfl, fun j y h => by simp at h⟩
  | x :: r, y :: r', ⟨h1, h2⟩ => by
    obtain ⟨h3, h4⟩ := keepCs_at h2
    refine ⟨by simp [h3], fun j z hz => ?_⟩
    cases j with
    | zero => simp at hz; subst hz; exact ⟨x, rfl, h1⟩
    | succ j => simpa using h4 j z (by simpa using hz)
  | [], _ :: _, h => h.elim
  | _ :: _, [], h => h.elim
theorem keepC1_free {x y : C} (h : keepC1 x y) : freeC x = true := by
  unfold keepC1 at h
  split at h
  · exact h
  · exact h
  · rw [h]; rfl
  · exact h.elim
theorem lents_rel {ns : List Nm} {bs bs' : List Blk} (hR : Rel w0 F G M w) (hns : nodupNm ns = true) (hlen : bs.length = ns.length) (hbs : ∀ (i : Nat) q, ns[i]? = some q → ∃ b0 b, bs[i]? = some b ∧ M q = some b0 ∧ LnB ns b0 b) (hb : keepBs bs bs') :
    Rel w (There w (lnB ns G)) (lnG ns G) (semL bs) w := by
  have at_ : ∀ n b, semL bs n = some b → ∃ q b0, n = (0, n.2) ∧ ns[n.2]? = some q ∧ lnG ns G n = G q ∧ M q = some b0 ∧ LnB ns b0 b := fun n b hn => by
    obtain ⟨h1, h2⟩ := semL_some hn
    have hlt : n.2 < ns.length := by rw [← hlen]; exact (List.getElem?_eq_some_iff.1 h2).1
    obtain ⟨b0, b', h3, h4, h5⟩ := hbs n.2 _ (List.getElem?_eq_getElem hlt)
    rw [h2] at h3
    cases h3
    exact ⟨_, b0, h1, List.getElem?_eq_getElem hlt, by simp only [lnG, List.getElem?_eq_getElem hlt], h4, h5⟩
  have nF : ∀ B, F B → ¬ lnB ns G B := fun B hB ⟨q, hq, e⟩ => by
    obtain ⟨i, hi⟩ := List.mem_iff_getElem?.1 hq
    obtain ⟨b0, b, _, hb, _⟩ := hbs i q hi
    exact ((hR.own q b0 hb).lt B e).2 hB
  exact {
    bd := fun k h => h.1
    os := rfl
    tape := rfl
    output := rfl
    size := Nat.le_refl _
    keep := fun _ _ => rfl
    own := fun n b hn => by
      obtain ⟨q, b0, h1, h2, h3, h4, h40⟩ := at_ n b hn
      have hq : q ∈ ns := List.mem_of_getElem? h2
      have ho := hR.own q b0 h4
      rw [h3]
      obtain ⟨h5, h6⟩ := semL_some hn
      obtain ⟨b', h7, h8⟩ := (keepBs_at hb).2 _ _ h6
      cases b0 with
      | fl e sz l =>
        obtain rfl := h40
        obtain ⟨f1, f2, f3, f4, f5⟩ := ho
        refine ⟨f1, f2, f3, f4, fun B hB hF => hF.2 ⟨q, hq, ?_⟩⟩
        rcases f4.2 with ⟨r1, _⟩ | ⟨B', cap, cur, r1, _⟩
        · rw [r1] at hB; simp [Value.ownBlock] at hB
        · rw [r1] at hB ⊢; simpa [Value.ownBlock, blkOf] using hB
      | bx l =>
        obtain rfl := h40
        obtain ⟨B, c, ety, f1, f2, f3, f4⟩ := ho
        refine ⟨B, c, ety, f1, fun hF => hF.2 ⟨q, hq, by rw [f1]; rfl⟩, f3, f4.1, fun j x hx => ?_⟩
        obtain ⟨v, g1, g2⟩ := f4.2 j x hx
        refine ⟨v, g1, ?_⟩
        have hfree : freeC x = true := by
          cases b' with
          | bx l' =>
            obtain ⟨k1, k2⟩ := keepCs_at h8
            have hj : j < l'.length := by rw [k1]; exact (List.getElem?_eq_some_iff.1 hx).1
            obtain ⟨x', e1, e2⟩ := k2 j _ (List.getElem?_eq_getElem hj)
            rw [hx] at e1
            cases e1
            exact keepC1_free e2
          | fl _ _ _ => exact h8.elim
          | mp _ _ => exact h8.elim
          | it _ _ _ _ => exact h8.elim
          | cs _ _ => exact h8.elim
        cases x with
        | pv _ => exact g2
        | any => trivial
        | pvw u sz y => exact ⟨g2.1, view_keep (G := G) (M := M) (G' := lnG ns G) (M' := semL bs) hR g2.2 nF⟩
        | _ => cases hfree
      | cs e l =>
        obtain ⟨l', rfl, hl', hcs⟩ := h40
        obtain ⟨vs, f1, f2, f4, f5⟩ := ho
        refine ⟨vs, ⟨by rw [f1.1, hl'], fun j y hy => ?_⟩, f2, by rw [hl']; exact f4, fun B hB hF => hF.2 ⟨q, hq, ?_⟩⟩
        · obtain ⟨m, len, i, e1, e2, rfl⟩ := hcs j y hy
          obtain ⟨v, e3, e4⟩ := f1.2 j _ e1
          refine ⟨v, e3, ?_⟩
          obtain ⟨bm, sz, L, q1, q0, q2, q3, q4⟩ := e4
          obtain ⟨c0, c1, p1, p2, p3⟩ := hbs i m e2
          rw [q1] at p2
          cases p2
          exact ⟨c1, sz, L, by simpa [semL] using p1, p3.arr.trans q0, q2, q3, fun hL => by rw [q4 hL]; simp only [lnG, e2]⟩
        · rcases f4.2 with ⟨r1, _⟩ | ⟨B', cap, cur, r1, _⟩
          · rw [r1] at hB; simp [Value.ownBlock] at hB
          · rw [r1] at hB ⊢; simpa [Value.ownBlock, blkOf] using hB
      | mp _ _ => exact h40.elim
      | it _ _ _ _ => exact h40.elim
    dist := fun p q B hp hq e1 e2 => by
      obtain ⟨b1, hb1⟩ := Option.ne_none_iff_exists'.1 hp
      obtain ⟨b2, hb2⟩ := Option.ne_none_iff_exists'.1 hq
      obtain ⟨n1, _, p1, p2, p3, p4, _⟩ := at_ p b1 hb1
      obtain ⟨n2, _, q1, q2, q3, q4, _⟩ := at_ q b2 hb2
      rw [p3] at e1
      rw [q3] at e2
      have := hR.dist n1 n2 B (by rw [p4]; simp) (by rw [q4]; simp) e1 e2
      subst this
      have := nodupNm_inj hns _ _ _ p2 q2
      rw [p1, q1, this] }
theorem zipN_app : ∀ {ns : List Nm} {bs : List Blk} (M : Mem), nodupNm ns = true → bs.length = ns.length → (∀ (i : Nat) q, ns[i]? = some q → appN (zipN ns bs) M q = bs[i]?) ∧ ∀ n, n ∉ ns → appN (zipN ns bs) M n = M n
  | [], [], M, _, _ => ⟨fun i q h => by simp at h, fun n _ => rfl⟩
  | q :: r, b :: s, M, hn, hl => by
    simp only [nodupNm] at hn
    cases hr : lnIx r q with
    | some _ => rw [hr] at hn; cases hn
    | none =>
      rw [hr] at hn
      have hq := lnIx_none hr
      obtain ⟨h1, h2⟩ := zipN_app (ns := r) (bs := s) (M.set q b) hn (by simpa using hl)
      refine ⟨fun i n hi => ?_, fun n hn => ?_⟩
      · cases i with
        | zero =>
          simp at hi
          subst hi
          simp only [zipN, appN, h2 q hq, Mem.set_self]
          rfl
        | succ i => simpa [zipN, appN] using h1 i n (by simpa using hi)
      · simp only [List.mem_cons, not_or] at hn
        simp only [zipN, appN]
        rw [h2 n hn.2, Mem.set_ne _ _ hn.1]
  | [], _ :: _, _, _, h => by simp at h
  | _ :: _, [], _, _, h => by simp at h

/-- Behind a call: what was lent, the caller's memory and the new blocks side by side. -/
theorem lents_back {ns : List Nm} {bs bs' bs2 news news2 : List Blk} {G2 : Gh} {w' : World} (hR : Rel w0 F G M w) (hns : nodupNm ns = true) (hlen : bs.length = ns.length) (hbs : ∀ (i : Nat) q, ns[i]? = some q → ∃ b0 b, bs[i]? = some b ∧ M q = some b0 ∧ LnB ns b0 b) (hb : keepBs bs bs')
    (hb2 : bs2.length = bs'.length) (hn2 : news2.length = news.length) (hrb : ∀ (i : Nat) b, bs'[i]? = some b → ∃ x, bs2[i]? = some x ∧ RnB ns d b x) (hrn : ∀ (i : Nat) b, news[i]? = some b → ∃ x, news2[i]? = some x ∧ RnB ns d b x)
    (h2 : Rel w (There w (lnB ns G)) G2 (semL (bs' ++ news)) w') (hg : ∀ i, i < ns.length → G2 (0, i) = lnG ns G (0, i)) (hge : ∀ i, ns.length ≤ i → ∀ B, blkOf (G2 (0, i)) = some B → w.heap.size ≤ B) (hfl : ∀ b ∈ news, (∃ e sz l, b = .fl e sz l) ∨ ∃ e l, b = .cs e l)
    (hok : okN (newsM d 0 news2) (appN (zipN ns bs2) M)) :
    Rel w0 F (joinG d news.length G fun m => G2 (0, ns.length + m.2)) (appN (newsM d 0 news2) (appN (zipN ns bs2) M)) w' ∧ (∀ x u, ConcC w0 F G M x u → ConcC w0 F (joinG d news.length G fun m => G2 (0, ns.length + m.2)) (appN (newsM d 0 news2) (appN (zipN ns bs2) M)) x u) ∧
      (∀ (i : Nat) b, (bs' ++ news)[i]? = some b → ∃ x, appN (newsM d 0 news2) (appN (zipN ns bs2) M) (renN ns d (0, i)) = some x ∧ arrB x = arrB b ∧ joinG d news.length G (fun m => G2 (0, ns.length + m.2)) (renN ns d (0, i)) = G2 (0, i)) := by
  obtain ⟨hl', hk⟩ := keepBs_at hb
  obtain ⟨z1, z2⟩ := zipN_app (ns := ns) (bs := bs2) M hns (by omega)
  generalize hM1 : appN (zipN ns bs2) M = M1 at *
  have isnew : ∀ n, appN (newsM d 0 news2) M1 n = if n.1 = d ∧ n.2 < news.length then news2[n.2]? else M1 n := fun n => by
    rw [appN_news]
    by_cases c : n.1 = d ∧ n.2 < news.length
    · rw [if_pos c, if_pos (by omega)]; simp
    · rw [if_neg c, if_neg (by omega)]
  have lentM : ∀ (i : Nat) q, ns[i]? = some q → ∃ b0 b b' x, bs[i]? = some b ∧ M q = some b0 ∧ LnB ns b0 b ∧ bs'[i]? = some b' ∧ M1 q = some x ∧ LentB b b' ∧ RnB ns d b' x := fun i q hi => by
    obtain ⟨b0, b, h3, h4, h40⟩ := hbs i q hi
    obtain ⟨b', h5, h6⟩ := hk i b h3
    obtain ⟨x, h7, h8⟩ := hrb i b' h5
    exact ⟨b0, b, b', x, h3, h4, h40, h5, by rw [z1 i q hi, h7], h6, h8⟩
  have old : ∀ n, M1 n ≠ none → ¬ (n.1 = d ∧ n.2 < news.length) := fun n hn hc => by
    have := okN_news d news2 0 M1 hok n.2 (by omega) (by omega)
    exact hn (by rw [← this]; congr 1; exact Prod.ext hc.1 rfl)
  have gold : ∀ n, ¬ (n.1 = d ∧ n.2 < news.length) → joinG d news.length G (fun m => G2 (0, ns.length + m.2)) n = G n := fun n hn => by simp only [joinG]; rw [if_neg hn]
  have gnew : ∀ n, (n.1 = d ∧ n.2 < news.length) → joinG d news.length G (fun m => G2 (0, ns.length + m.2)) n = G2 (0, ns.length + n.2) := fun n hn => by simp only [joinG]; rw [if_pos hn]
  have hgl : ∀ (i : Nat) q, ns[i]? = some q → G2 (0, i) = G q := fun i q hi => by
    rw [hg i (List.getElem?_eq_some_iff.1 hi).1]
    simp only [lnG, hi]
  -- the callee's names, renamed
  have hj3 : ∀ (i : Nat) b, (bs' ++ news)[i]? = some b → ∃ x, appN (newsM d 0 news2) M1 (renN ns d (0, i)) = some x ∧ arrB x = arrB b ∧ joinG d news.length G (fun m => G2 (0, ns.length + m.2)) (renN ns d (0, i)) = G2 (0, i) := fun i b hib => by
    have ren : ∀ (ns : List Nm) (i : Nat), renI ns d i = match ns[i]? with | some q => q | none => (d, i - ns.length) := by
      intro ns
      induction ns with
      | nil => intro i; simp [renI]
      | cons q r ih =>
        intro i
        cases i with
        | zero => simp [renI]
        | succ i => simp only [renI, ih i, List.getElem?_cons_succ, List.length_cons, Nat.add_sub_add_right]
    simp only [renN, ren]
    by_cases hi : i < ns.length
    · rw [List.getElem?_eq_getElem hi]
      have hi' : ns[i]? = some ns[i] := List.getElem?_eq_getElem hi
      obtain ⟨b0, b1, b', x, q1, q2, q20, q3, q4, q5, q6⟩ := lentM i _ hi'
      rw [List.getElem?_append_left (by omega), q3] at hib
      cases hib
      have hc := old ns[i] (by rw [q4]; simp)
      refine ⟨x, by simp only [isnew, if_neg hc, q4], q6.arr, ?_⟩
      simp only [gold _ hc]
      exact (hgl i _ hi').symm
    · rw [List.getElem?_eq_none (by omega)]
      rw [List.getElem?_append_right (by omega)] at hib
      have hlt := (List.getElem?_eq_some_iff.1 hib).1
      have hc : ((d, i - ns.length) : Nm).1 = d ∧ ((d, i - ns.length) : Nm).2 < news.length := ⟨rfl, by simp only; omega⟩
      obtain ⟨x, hx, hx2⟩ := hrn _ b hib
      refine ⟨x, ?_, hx2.arr, ?_⟩
      · have e := isnew (d, i - ns.length)
        rw [if_pos hc] at e
        refine e.trans ?_
        show news2[i - ns.length]? = some x
        rw [← hx, show i - ns.length = i - bs'.length by omega]
      · have e := gnew (d, i - ns.length) hc
        refine e.trans ?_
        show G2 (0, ns.length + (i - ns.length)) = _
        rw [show ns.length + (i - ns.length) = i by omega]
  have toF : ∀ B, F B → There w (lnB ns G) B := fun B hB => ⟨Nat.lt_of_lt_of_le (hR.bd B hB) hR.size, fun ⟨q, hq, e⟩ => by
    obtain ⟨i, hi⟩ := List.mem_iff_getElem?.1 hq
    obtain ⟨b0, b, _, hb, _⟩ := hbs i q hi
    exact ((hR.own q b0 hb).lt B e).2 hB⟩
  have csback : ∀ g e l' x, BOk w (There w (lnB ns G)) G2 (semL (bs' ++ news)) w' g (.cs e l') → RnB ns d (.cs e l') x → BOk w0 F (joinG d news.length G fun m => G2 (0, ns.length + m.2)) (appN (newsM d 0 news2) M1) w' g x := fun g e l' x hB hx => by
    obtain ⟨l2, rfl, hren⟩ := hx
    obtain ⟨vs, f1, f2, f4, f5⟩ := hB
    obtain ⟨l3, rfl, hc⟩ := ren_conc (lo := ns) (d := d) (w0 := w0) (F := F) (news := bs' ++ news) (G2 := G2) (F2 := There w (lnB ns G)) (w1 := w) hj3 hren
    obtain ⟨l4, e4, hl4⟩ := renCK_len hren
    subst e4
    exact ⟨vs, hc vs f1, f2, by rw [hl4]; exact f4, fun B hB hF => f5 B hB (toF B hF)⟩
  -- what lies under a lent name behind the call
  have lown : ∀ (i : Nat) q b', ns[i]? = some q → bs'[i]? = some b' → BOk w (There w (lnB ns G)) G2 (semL (bs' ++ news)) w' (G q) b' := fun i q b' hi hb' => by
    have hi' : i < bs'.length := (List.getElem?_eq_some_iff.1 hb').1
    have := h2.own (0, i) b' (by simp only [semL]; rw [List.getElem?_append_left hi']; exact hb')
    rwa [hgl i q hi] at this
  have rows : ∀ {wa wb : World} {e : TypeId} {sz : Nat} {g : Value} {m n : Nat} {u v : List Value}, wa.ownsRow 0 e sz g m u → wb.ownsRow 0 e sz g n v → n = m := fun {wa wb e sz g m n u v} f4 p4 => by
    rcases f4.2 with ⟨r1, r2⟩ | ⟨B, cap, cur, r1, _⟩
    · rcases p4.2 with ⟨s1, s2⟩ | ⟨B', cap', cur', s1, _⟩
      · omega
      · rw [r1] at s1; simp at s1
    · rcases p4.2 with ⟨s1, s2⟩ | ⟨B', cap', cur', s1, _⟩
      · rw [r1] at s1; simp at s1
      · rw [r1] at s1; simp at s1; omega
  have turn : ∀ (i : Nat) q b0 b b' x, ns[i]? = some q → M q = some b0 → LnB ns b0 b → bs'[i]? = some b' → LentB b b' → RnB ns d b' x → Turns b0 x (G q) (G q) := fun i q b0 b b' x hi hMq hL0 hb' hL hx => by
    have ho := hR.own q b0 hMq
    have hn := lown i q b' hi hb'
    cases b0 with
    | bx l =>
      obtain rfl := hL0
      cases b' with
      | bx l' => obtain rfl := hx; exact rfl
      | fl _ _ _ => exact hL.elim
      | mp _ _ => exact hL.elim
      | it _ _ _ _ => exact hL.elim
      | cs _ _ => exact hL.elim
    | fl e sz l =>
      obtain rfl := hL0
      cases b' with
      | fl e' sz' l' =>
        obtain rfl := hx
        obtain ⟨rfl, rfl⟩ := hL
        obtain ⟨_, _, _, f4, _⟩ := ho
        obtain ⟨_, _, _, p4, _⟩ := hn
        have hll : l'.length = l.length := rows f4 p4
        exact ⟨rfl, rfl, by omega, fun _ => rfl⟩
      | bx _ => exact hL.elim
      | mp _ _ => exact hL.elim
      | it _ _ _ _ => exact hL.elim
      | cs _ _ => exact hL.elim
    | cs e l =>
      obtain ⟨l1, rfl, _, _⟩ := hL0
      cases b' with
      | cs e' l' =>
        obtain ⟨l2, rfl, hren⟩ := hx
        obtain rfl := hL
        obtain ⟨l4, e4, hl4⟩ := renCK_len hren
        subst e4
        obtain ⟨_, _, _, f4, _⟩ := ho
        obtain ⟨_, _, _, p4, _⟩ := hn
        have hll : l'.length = l.length := rows f4 p4
        exact ⟨rfl, by omega, fun _ => rfl⟩
      | bx _ => exact hL.elim
      | mp _ _ => exact hL.elim
      | it _ _ _ _ => exact hL.elim
      | fl _ _ _ => exact hL.elim
    | mp _ _ => exact hL0.elim
    | it _ _ _ _ => exact hL0.elim
  have hmono : ∀ x u, ConcC w0 F G M x u → ConcC w0 F (joinG d news.length G fun m => G2 (0, ns.length + m.2)) (appN (newsM d 0 news2) M1) x u := fun x u hx => by
    refine conc_turn (fun n b hn => ?_) hx
    by_cases hm : n ∈ ns
    · obtain ⟨i, hi⟩ := List.mem_iff_getElem?.1 hm
      obtain ⟨b0, b1, b', y, q1, q2, q20, q3, q4, q5, q6⟩ := lentM i n hi
      rw [hn] at q2
      cases q2
      have hc := old n (by rw [q4]; simp)
      refine ⟨y, by rw [isnew, if_neg hc]; exact q4, ?_⟩
      rw [gold n hc]
      exact turn i n b b1 b' y hi hn q20 q3 q5 q6
    · have e := z2 n hm
      have hc := old n (by rw [e, hn]; simp)
      refine ⟨b, by rw [isnew, if_neg hc, e]; exact hn, ?_⟩
      rw [gold n hc]
      cases b with
      | bx _ => exact rfl
      | fl _ _ _ => exact ⟨rfl, rfl, Nat.le_refl _, fun _ => rfl⟩
      | mp _ _ => exact rfl
      | it _ _ _ _ => exact rfl
      | cs _ _ => exact ⟨rfl, Nat.le_refl _, fun _ => rfl⟩
  have hkeep : Keeps w w' (lnB ns G) := fun k hk hlt => h2.keep k ⟨hlt, hk⟩
  refine ⟨{
    bd := hR.bd
    os := h2.os.trans hR.os
    tape := h2.tape.trans hR.tape
    output := h2.output.trans hR.output
    size := Nat.le_trans hR.size h2.size
    keep := fun k hF => (h2.keep k (toF k hF)).trans (hR.keep k hF)
    own := fun n b hn => by
      rw [isnew] at hn
      by_cases c : n.1 = d ∧ n.2 < news.length
      · rw [if_pos c] at hn
        rw [gnew n c]
        obtain ⟨x, hx, hx2⟩ := hrn n.2 _ (List.getElem?_eq_getElem c.2)
        rw [hn] at hx
        cases hx
        have hown := h2.own (0, ns.length + n.2) _ (by simp only [semL]; rw [List.getElem?_append_right (by omega), show ns.length + n.2 - bs'.length = n.2 by omega]; exact List.getElem?_eq_getElem c.2)
        rcases hfl news[n.2] (List.getElem_mem c.2) with ⟨e, sz, l, hel⟩ | ⟨e, l, hel⟩
        · rw [hel] at hown hx2
          obtain rfl := hx2
          exact hown.fl_keep toF
        · rw [hel] at hown hx2
          exact csback _ e l _ hown hx2
      · rw [if_neg c] at hn
        rw [gold n c]
        by_cases hm : n ∈ ns
        · obtain ⟨i, hi⟩ := List.mem_iff_getElem?.1 hm
          obtain ⟨b0, b1, b', y, q1, q2, q20, q3, q4, q5, q6⟩ := lentM i n hi
          rw [hn] at q4
          cases q4
          have hl := lown i n _ hi q3
          have ho := hR.own n b0 q2
          cases b' with
          | fl e sz l => obtain rfl := q6; exact hl.fl_keep toF
          | cs e l => exact csback _ e l _ hl q6
          | bx l' =>
            obtain rfl := q6
            cases b0 with
            | bx l =>
              obtain rfl := q20
              obtain ⟨B, cs, ety, f1, f2, f3, f4⟩ := hl
              obtain ⟨B0, cs0, ety0, g1, g2, g3, g4⟩ := ho
              have hBB : B = B0 := by rw [f1] at g1; simpa using g1
              obtain ⟨k1, k2⟩ := keepCs_at q5
              refine ⟨B, cs, ety, f1, hBB ▸ g2, f3, f4.1, fun j y hy => ?_⟩
              obtain ⟨v, e1, e2⟩ := f4.2 j y hy
              refine ⟨v, e1, ?_⟩
              obtain ⟨x, e3, e4⟩ := k2 j y hy
              cases y with
              | pv _ => exact e2
              | any => trivial
              | pvw u sz z =>
                obtain rfl : x = .pvw u sz z := e4
                obtain ⟨v0, e5, e6⟩ := g4.2 j _ e3
                exact ⟨e2.1, e6.1 ▸ e6.2⟩
              | _ => exact e4.elim
            | fl _ _ _ => obtain rfl := q20; exact q5.elim
            | mp _ _ => exact q20.elim
            | it _ _ _ _ => exact q20.elim
            | cs _ _ => obtain ⟨_, rfl, _⟩ := q20; exact q5.elim
          | mp _ _ => exact q6.elim
          | it _ _ _ _ => exact q6.elim
        · rw [z2 n hm] at hn
          exact (hR.own n b hn).keep hmono hkeep (fun B hB ⟨q, hq, e⟩ => by
            obtain ⟨i, hi⟩ := List.mem_iff_getElem?.1 hq
            obtain ⟨b1, _, _, hb1, _⟩ := hbs i q hi
            have := hR.dist n q B (by rw [hn]; simp) (by rw [hb1]; simp) hB e
            exact hm (this ▸ hq))
    dist := fun n m B hn hm e1 e2 => by
      have oldlt : ∀ q, ¬ (q.1 = d ∧ q.2 < news.length) → appN (newsM d 0 news2) M1 q ≠ none → blkOf (joinG d news.length G (fun m => G2 (0, ns.length + m.2)) q) = some B → B < w.heap.size ∧ M q ≠ none ∧ blkOf (G q) = some B := fun q c hq hbk => by
        rw [isnew, if_neg c] at hq
        rw [gold q c] at hbk
        have hMq : M q ≠ none := by
          by_cases hmq : q ∈ ns
          · obtain ⟨i, hi⟩ := List.mem_iff_getElem?.1 hmq
            obtain ⟨b, _, _, hb, _⟩ := hbs i q hi
            rw [hb]; simp
          · rwa [z2 q hmq] at hq
        obtain ⟨b, hb'⟩ := Option.ne_none_iff_exists'.1 hMq
        exact ⟨((hR.own q b hb').lt B hbk).1, hMq, hbk⟩
      by_cases c1 : n.1 = d ∧ n.2 < news.length <;> by_cases c2 : m.1 = d ∧ m.2 < news.length
      · rw [gnew n c1] at e1
        rw [gnew m c2] at e2
        have hs : ∀ i, i < news.length → semL (bs' ++ news) (0, ns.length + i) ≠ none := fun i hi => by
          simp only [semL]
          rw [List.getElem?_append_right (by omega), List.getElem?_eq_getElem (by omega)]
          simp
        have := h2.dist (0, ns.length + n.2) (0, ns.length + m.2) B (hs _ c1.2) (hs _ c2.2) e1 e2
        simp at this
        exact Prod.ext (c1.1.trans c2.1.symm) this
      · rw [gnew n c1] at e1
        have := hge (ns.length + n.2) (by omega) B e1
        have := (oldlt m c2 hm e2).1
        omega
      · rw [gnew m c2] at e2
        have := hge (ns.length + m.2) (by omega) B e2
        have := (oldlt n c1 hn e1).1
        omega
      · obtain ⟨_, a1, a2⟩ := oldlt n c1 hn e1
        obtain ⟨_, a3, a4⟩ := oldlt m c2 hm e2
        exact hR.dist n m B a1 a3 a2 a4 }, hmono, hj3⟩

theorem lnOk {ns : List Nm} {bs : List Blk} (hlen : bs.length = ns.length) (hbs : ∀ (i : Nat) q, ns[i]? = some q → ∃ b0 b, bs[i]? = some b ∧ M q = some b0 ∧ LnB ns b0 b) : LnOk ns G M (lnG ns G) (semL bs) :=
  ⟨fun q hq => by
    obtain ⟨i, hi⟩ := List.mem_iff_getElem?.1 hq
    obtain ⟨b, _, _, h, _⟩ := hbs i q hi
    rw [h]; simp, fun i q b hi hq => by
    obtain ⟨b0, b1, h1, h2, h3⟩ := hbs i q hi
    rw [hq] at h2
    cases h2
    exact ⟨b1, h1, h3.arr, fun l hl => by subst hl; exact h3⟩, fun i q hi => by simp only [lnG, hi]⟩
theorem lnCov {ns : List Nm} {bs : List Blk} (hlen : bs.length = ns.length) (w : World) : ∀ k, k < w.heap.size → There w (lnB ns G) k ∨ ∃ i, i < bs.length ∧ blkOf (lnG ns G (0, i)) = some k := fun k hk => by
  by_cases h : lnB ns G k
  · obtain ⟨q, hq, e⟩ := h
    obtain ⟨i, hi⟩ := List.mem_iff_getElem?.1 hq
    exact .inr ⟨i, by rw [hlen]; exact (List.getElem?_eq_some_iff.1 hi).1, by simp only [lnG, hi]; exact e⟩
  · exact .inl ⟨hk, h⟩

theorem sound_call {f : FuncId} {args : Array Operand} {ts : Array TypeId} {xs : List Opd} (ho : o.op = .call { callee := .value (.func f), args := args, argTypes := ts }) (hu : isUser P f = true) (hx : copds args.toList = some xs) {k : V → Eff → List Nm → Prop} : Sound P M T d o (.call f xs) k := fun h => by
  cases h with
  | mk ns us rd res bs bs' news hns hf hl ha hb hk =>
    obtain ⟨bs00, hbs00, hlen0, hbs⟩ := looksK_ex hl
    obtain ⟨bs0, hbs0, hlen1, hln⟩ := lnBsK_ex hbs00
    subst hbs0
    have hlen := hlen1.trans hlen0
    obtain ⟨us', rd', ⟨e1, e2⟩, h1, h2⟩ := argsK_ex hx ha
    subst e1 e2
    obtain ⟨r, hk1, hk2⟩ := renK_det hk
    obtain ⟨b2, hk10, hb2l, hb2r⟩ := rnBsK_ex hk1
    obtain ⟨n2, hk3, hn2l, hn2r, hk4⟩ := newsK_ex hk10
    refine ⟨_, _, _, hk3, fun w0 F G M' T' g1 g2 hok a w K Q hR hT hK => ?_⟩
    have hbs' : ∀ (i : Nat) q, ns[i]? = some q → ∃ b0 b, bs0[i]? = some b ∧ M' q = some b0 ∧ LnB ns b0 b := fun i q hi => by
      obtain ⟨b, h3, h4⟩ := hbs i q hi
      obtain ⟨x, h5, h6⟩ := hln i b h3
      exact ⟨b, x, h5, (g2 q (List.mem_append_left _ (List.mem_of_getElem? hi))).trans h4, h6⟩
    have hargl : (args.toList.map a.eval).length = us'.length := by rw [List.length_map, h1]
    have hcall := hf.2 w (There w (lnB ns G)) (lnG ns G) (args.toList.map a.eval) (lents_rel hR hns hlen hbs' hb) (lnCov hlen w) hargl (fun j x v hx hv => h2 w0 F G M' T' w a g1 (fun m hm => g2 m (List.mem_append_right _ hm)) hR hT _ _ (lnOk hlen hbs') j x v hx hv)
    refine wp_call ho hu ?_
    rw [show args.map a.eval = (args.toList.map a.eval).toArray by apply Array.ext'; simp]
    refine hcall.mono fun e w' ⟨v, G2, he, q1, q2, q3, q4⟩ => ⟨v, he, ?_⟩
    obtain ⟨j1, j2, j3⟩ := lents_back (d := d) hR hns hlen hbs' hb hb2l hn2l hb2r hn2r q1 (fun i hi => q3 i (by omega)) (fun i hi => q4 i (by omega)) hk4 hok.2
    refine hK v w' _ j1 j2 ?_
    obtain ⟨r', e3, e4⟩ := renK_conc (lo := ns) (d := d) (w0 := w0) (F := F) (news := bs' ++ news) (G2 := G2) (F2 := There w (lnB ns G)) (w1 := w) j3 (hk2 (fun r' => r' = r) rfl)
    subst e3
    exact e4 v q2

/-! ### function values -/
theorem capsK_ex : ∀ {xs : List Operand} {xs' : List Opd} {k : List C → Prop}, copds xs = some xs' → capsK T xs' k → ∃ cs, k cs ∧
    ∀ w0 F G M' T' a, (∀ t, t ∈ xs'.flatMap opdT → T'[t]? = T[t]?) → TRel w0 F G M' T' a → ConcCs w0 F G M' cs (xs.map a.eval)
  | [], xs', k, hc, h => by
    simp [copds] at hc
    subst hc
    exact ⟨_, h, fun _ _ _ _ _ _ _ _ => ⟨rfl, fun j x hx => by simp at hx⟩⟩
  | x :: r, xs', k, hc, h => by
    simp only [copds] at hc
    split at hc
    · rename_i y l hx hr
      simp only [Option.some.injEq] at hc
      subst hc
      obtain ⟨u, h1, hv⟩ := evK_ex hx h
      match u, h1, hv with
      | .c z, h1, hv =>
        obtain ⟨cs, h3, h4⟩ := capsK_ex hr h1
        refine ⟨_, h3, fun w0 F G M' T' a ht hT => ?_⟩
        have hz := hv w0 F G M' T' a (fun t h => ht t (by simp [h])) hT
        have hr := h4 w0 F G M' T' a (fun t h => ht t (by rw [List.flatMap_cons]; exact List.mem_append_right _ h)) hT
        refine ⟨by simp [hr.1], fun j c hj => ?_⟩
        cases j with
        | zero => simp at hj; subst hj; exact ⟨_, rfl, hz⟩
        | succ j => exact hr.2 j c hj
      | .agg _, h1, _ => exact h1.elim
      | .tup _, h1, _ => exact h1.elim
      | .clo _ _, h1, _ => exact h1.elim
    · cases hc
theorem sound_mkf {f : FuncId} {fst caps : Array Operand} {xs : List Opd} (ho : o.op = .makeFunc (.func f) fst caps) (hf : fst.toList = []) (hx : copds caps.toList = some xs) {k : V → Eff → List Nm → Prop} : Sound P M T d o (.mkf f xs) k := fun h => by
  obtain ⟨cs, h1, h2⟩ := capsK_ex hx h
  refine ⟨_, _, _, h1, does_pure fun w0 F G M' T' a w g1 g2 hR hT => ⟨.func (.func f) #[] (caps.map a.eval), ?_, ⟨_, rfl, ?_⟩⟩⟩
  · obtain rfl : fst = #[] := by cases fst; simp at hf; subst hf; rfl
    simp [execOp, ho, Instr.makeFunc]
  · have := h2 w0 F G M' T' a g1 hT
    rwa [← Array.toList_map] at this
theorem wp_callc {t : Nat} {f : FuncId} {caps : Array Value} {args : Array Operand} {ts : Array TypeId} (ho : o.op = .call { callee := .value (.tmp t), args := args, argTypes := ts }) (he : a.eval (.tmp t) = .func (.func f) #[] caps) (hu : isUser P f = true)
    (h : Calls P f (args.map a.eval ++ caps) w fun e w' => ∃ v, e = .returned v ∧ K (a.put o.dst v) w') : o.wp P a w K Q := by
  have hrun : (execOp a.eval o).run P w = .ok (.enter f (args.map a.eval ++ caps)) w := by
    unfold isUser at hu
    cases hf : P.funcs[f]? with
    | none => rw [hf] at hu; cases hu
    | some fn =>
      rw [hf] at hu
      simp only [Bool.and_eq_true, bne_iff_ne, ne_eq] at hu
      have hb : fn.body.isNone = false := by
        cases hfb : fn.body with
        | none => rw [hfb] at hu; simp at hu
        | some _ => rfl
      simp [execOp, ho, resolve, he, Deferred.ofValue, invoke, callFunc, hf, hu.1]
      intro e
      rw [e] at hb
      cases hb
  unfold Oper.wp
  rw [hrun, Oper.upon_enter]
  refine h.mono fun e w' ⟨v, he, hk⟩ => ?_
  subst he
  exact hk
theorem sound_callc {t : Nat} {args : Array Operand} {ts : Array TypeId} {xs : List Opd} (ho : o.op = .call { callee := .value (.tmp t), args := args, argTypes := ts }) (hx : copds args.toList = some xs) {k : V → Eff → List Nm → Prop} : Sound P M T d o (.callc (.t t) xs) k := fun h => by
  obtain ⟨u, h1, hv⟩ := evK_ex (x := .tmp t) (y := .t t) rfl h
  split at h1
  case h_2 => exact h1.elim
  rename_i f caps
  obtain ⟨hu, h2⟩ := h1
  cases h2 with
  | mk ns us cs rd rd2 res bs bs' news hns hf hl ha hcs hb hk =>
    obtain ⟨bs00, hbs00, hlen0, hbs⟩ := looksK_ex hl
    obtain ⟨bs0, hbs0, hlen1, hln⟩ := lnBsK_ex hbs00
    subst hbs0
    have hlen := hlen1.trans hlen0
    obtain ⟨us', rd', ⟨e1, e2⟩, h1, h2⟩ := argsK_ex hx ha
    subst e1 e2
    obtain ⟨cs', rd2', ⟨e1, e2⟩, h3⟩ := argCK_ex hcs
    subst e1 e2
    obtain ⟨r, hk1, hk2⟩ := renK_det hk
    obtain ⟨b2, hk10, hb2l, hb2r⟩ := rnBsK_ex hk1
    obtain ⟨n2, hk3, hn2l, hn2r, hk4⟩ := newsK_ex hk10
    refine ⟨_, _, _, hk3, fun w0 F G M' T' g1 g2 hok a w K Q hR hT hK => ?_⟩
    obtain ⟨capv, he, hcv⟩ := hv w0 F G M' T' a (fun q hq => g1 q (by simp only [tmpsA]; exact List.mem_append_left _ hq)) hT
    have hbs' : ∀ (i : Nat) q, ns[i]? = some q → ∃ b0 b, bs0[i]? = some b ∧ M' q = some b0 ∧ LnB ns b0 b := fun i q hi => by
      obtain ⟨b, h3, h4⟩ := hbs i q hi
      obtain ⟨x, h5, h6⟩ := hln i b h3
      exact ⟨b, x, h5, (g2 q (List.mem_append_left _ (List.mem_of_getElem? hi))).trans h4, h6⟩
    have L : LnOk ns G M' (lnG ns G) (semL bs0) := lnOk hlen hbs'
    have hcc := h3 w0 F G M' w _ (fun n hn => g2 n (List.mem_append_right _ (List.mem_append_right _ hn))) hR hcv _ _ L
    have hargl : (args.toList.map a.eval ++ capv.toList).length = (us' ++ cs'.map V.c).length := by simp [h1, hcc.1]
    have hcall := hf.2 w (There w (lnB ns G)) (lnG ns G) (args.toList.map a.eval ++ capv.toList) (lents_rel hR hns hlen hbs' hb) (lnCov hlen w) hargl (fun j x v hx hv => by
      have hl : (args.toList.map a.eval).length = us'.length := by simp [h1]
      rcases Nat.lt_or_ge j us'.length with hj | hj
      · rw [List.getElem?_append_left hj] at hx
        rw [List.getElem?_append_left (by rw [hl]; exact hj)] at hv
        exact h2 w0 F G M' T' w a (fun q hq => g1 q (by simp only [tmpsA]; exact List.mem_append_right _ hq)) (fun n hn => g2 n (List.mem_append_right _ (List.mem_append_left _ hn))) hR hT _ _ L j x v hx hv
      · rw [List.getElem?_append_right hj, List.getElem?_map] at hx
        rw [List.getElem?_append_right (by rw [hl]; exact hj), hl] at hv
        cases hc : cs'[j - us'.length]? with
        | none => rw [hc] at hx; cases hx
        | some c =>
          rw [hc] at hx
          simp only [Option.map_some, Option.some.injEq] at hx
          subst hx
          obtain ⟨v', e1, e2⟩ := hcc.2 _ c hc
          rw [hv] at e1
          obtain rfl := Option.some.inj e1
          exact e2)
    refine wp_callc ho he hu ?_
    rw [show args.map a.eval ++ capv = (args.toList.map a.eval ++ capv.toList).toArray by apply Array.ext'; simp]
    refine hcall.mono fun e w' ⟨v, G2, he, q1, q2, q3, q4⟩ => ⟨v, he, ?_⟩
    obtain ⟨j1, j2, j3⟩ := lents_back (d := d) hR hns hlen hbs' hb hb2l hn2l hb2r hn2r q1 (fun i hi => q3 i (by omega)) (fun i hi => q4 i (by omega)) hk4 hok.2
    refine hK v w' _ j1 j2 ?_
    obtain ⟨r', e3, e4⟩ := renK_conc (lo := ns) (d := d) (w0 := w0) (F := F) (news := bs' ++ news) (G2 := G2) (F2 := There w (lnB ns G)) (w1 := w) j3 (hk2 (fun r' => r' = r) rfl)
    subst e3
    exact e4 v q2
end
end Go.Proofs.Ytfbadfnhnaaeeaa
