/- The abstract machine: contracts out of walks; loops. -/
import Derived.Test.YtfbadfnhnaaeeaaE16
namespace Go.Proofs.Ytfbadfnhnaaeeaa
set_option linter.unusedSimpArgs false
set_option linter.unusedVariables false
open Go.RowKit

inductive AR where
  | tmp (t : Nat)
  | cell (t : Nat) (s : Option Nat)
def cres (P : Program) : List ResultVar → Option (List AR)
  | [] => some []
  | .tmp t :: r => (cres P r).map (.tmp t :: ·)
  | .cell t ty :: r => match csize P ty with
    | some s => (cres P r).map (.cell t s :: ·)
    | none => none
/-- A function of the program, taken over: its number, how many temporaries, its results, its code. -/
def IsFn (P : Program) (f : FuncId) (n : Nat) (rs : List AR) (ac : AC) : Prop := ∃ fn c, P.funcs[f]? = some fn ∧ fn.body = some c ∧ fn.ntmps = n ∧ cres P fn.results.toList = some rs ∧ ccode P c = some ac

def initK : List V → Nat → (List V → Prop) → Prop
  | [], 0, k => k []
  | [], n + 1, k => initK [] n fun T => k (.c (.pv undef) :: T)
  | _ :: _, 0, _ => False
  | x :: r, n + 1, k => initK r n fun T => k (x :: T)
theorem initK_ex {n : Nat} : ∀ {args : List V} {k : List V → Prop}, initK args n k → args.length ≤ n ∧ k (args ++ List.replicate (n - args.length) (.c (.pv undef))) := by
  induction n with
  | zero =>
    intro args k h
    cases args with
    | nil => exact ⟨Nat.le_refl _, h⟩
    | cons x r => exact h.elim
  | succ n ih =>
    intro args k h
    cases args with
    | nil => exact ⟨Nat.zero_le _, by simpa [List.replicate_succ] using (ih (args := []) h).2⟩
    | cons x r =>
      obtain ⟨h1, h2⟩ := ih (args := r) h
      exact ⟨by simp; omega, by simpa using h2⟩

/-- One result: a cell or a struct. -/
def res1K (T : List V) (m : ML) : AR → (Bool × List C → Prop) → Prop
  | .tmp t, k => getK T t fun
    | .c x => k (false, [x])
    | .agg l => k (true, l)
    | .tup _ => False
    | .clo _ _ => False
  | .cell t s, k => getK T t fun
    | .c (.ptr n j) => lookK m n fun
      | .bx l => loadC s l j fun
        | .c x => k (false, [x])
        | .agg l => k (true, l)
        | .tup _ => False
        | .clo _ _ => False
      | _ => False
    | _ => False
def ressK (T : List V) (m : ML) : List AR → (List (Bool × List C) → Prop) → Prop
  | [], k => k []
  | r :: rs, k => res1K T m r fun p => ressK T m rs fun ps => k (p :: ps)
/-- Names go back: the lent ones as they are, those that are kept by their place. -/
def nmIdx (n : Nm) : List Nm → Nat → (Nat → Prop) → Prop
  | [], _, _ => False
  | q :: r, i, k => match nmB q n with
    | true => k i
    | false => nmIdx n r (i + 1) k
def backC (keep : List Nm) : List C → (List C → Prop) → Prop
  | [], k => k []
  | .slc n len :: r, k => nmIdx n keep 0 fun i => backC keep r fun r' => k (.slc (0, i) len :: r')
  | .pv v :: r, k => backC keep r fun r' => k (.pv v :: r')
  | _ :: r, k => backC keep r fun r' => k (.any :: r')
def backs (keep : List Nm) : List (Bool × List C) → (List (Bool × List C) → Prop) → Prop
  | [], k => k []
  | (b, l) :: r, k => backC keep l fun l' => backs keep r fun r' => k ((b, l') :: r')
def asV : List (Bool × List C) → V
  | [(false, [x])] => .c x
  | [(true, l)] => .agg l
  | l => .tup l
def freeCs : List C → Bool
  | [] => true
  | x :: r => match freeC x with
    | true => freeCs r
    | false => false
theorem freeCs_iff {l : List C} : freeCs l = true ↔ ∀ x ∈ l, freeC x = true := by
  induction l with
  | nil => simp [freeCs]
  | cons x r ih =>
    simp only [freeCs]
    cases h : freeC x <;> simp [h, ih]
def freeB : Blk → Bool
  | .fl _ _ _ => true
  | .bx l => freeCs l
  | _ => false
def freeBs : List Blk → Bool
  | [] => true
  | b :: r => match freeB b with
    | true => freeBs r
    | false => false
/-- The blocks under the names. -/
def blksK (m : ML) (kp : List Nm) : List Nm → (List Blk → Prop) → Prop
  | [], k => k []
  | n :: r, k => lookK m n fun
    | .fl e sz l => blksK m kp r fun bs => k (.fl e sz l :: bs)
    | .bx l => guardK (freeCs l) (blksK m kp r fun bs => k (.bx l :: bs))
    | .cs e l => backC kp l fun l' => blksK m kp r fun bs => k (.cs e l' :: bs)
    | _ => False
/-- A block and the same with the names of those that are kept. -/
def BkB (kp : List Nm) (b0 b : Blk) : Prop := match b0 with
  | .cs e l => ∃ l', b = .cs e l' ∧ backC kp l fun l2 => l2 = l'
  | .fl e sz l => b = .fl e sz l
  | .bx l => b = .bx l ∧ freeCs l = true
  | _ => False
def nodupN : List Nm → Bool
  | [] => true
  | n :: r => match r.any (nmB n ·) with
    | true => false
    | false => nodupN r
def lentN : Nat → List Blk → List Nm
  | _, [] => []
  | i, _ :: r => (0, i) :: lentN (i + 1) r
def lentM : Nat → List Blk → ML
  | _, [] => []
  | i, b :: r => ((0, i), b) :: lentM (i + 1) r
/-- The lent blocks keep their lengths. -/
def sameLens : List Blk → List Blk → Prop
  | [], [] => True
  | .fl _ _ l :: r, .fl _ _ l' :: r' => l'.length = l.length ∧ sameLens r r'
  | .bx _ :: r, .bx _ :: r' => sameLens r r'
  | .cs _ l :: r, .cs _ l' :: r' => l'.length = l.length ∧ sameLens r r'
  | _, _ => False

/-- What a result must be, taken apart. -/
def eqVal : Value → Value → Prop
  | .int .i64 a, .int .i64 b => a = b
  | .bool a, .bool b => a = b
  | x, y => x = y
def eqC : C → C → Prop
  | .pv x, .pv y => eqVal x y
  | .slc n len, .slc n' len' => n = n' ∧ len = len'
  | x, y => x = y
def eqCs : List C → List C → Prop
  | [], [] => True
  | x :: r, y :: r' => eqC x y ∧ eqCs r r'
  | _, _ => False
def eqPs : List (Bool × List C) → List (Bool × List C) → Prop
  | [], [] => True
  | (b, l) :: r, (b', l') :: r' => b = b' ∧ eqCs l l' ∧ eqPs r r'
  | _, _ => False
def eqRes : List (Bool × List C) → V → Prop
  | [], .tup [] => True
  | [(false, [x])], .c y => eqC x y
  | [(true, l)], .agg l' => eqCs l l'
  | p :: q :: r, .tup l' => eqPs (p :: q :: r) l'
  | _, _ => False
def eqB : Blk → Blk → Prop
  | .fl e sz l, .fl e' sz' l' => e = e' ∧ sz = sz' ∧ l = l'
  | .bx l, .bx l' => eqCs l l'
  | .cs e l, .cs e' l' => e = e' ∧ eqCs l l'
  | _, _ => False
def eqBs : List Blk → List Blk → Prop
  | [], [] => True
  | x :: r, y :: r' => eqB x y ∧ eqBs r r'
  | _, _ => False
theorem eqVal_eq {x y : Value} (h : eqVal x y) : x = y := by
  unfold eqVal at h
  split at h
  · rw [h]
  · rw [h]
  · exact h
theorem eqC_eq {x y : C} (h : eqC x y) : x = y := by
  unfold eqC at h
  split at h
  · rw [eqVal_eq h]
  · rw [h.1, h.2]
  · exact h
theorem eqCs_eq : ∀ {l l' : List C}, eqCs l l' → l = l'
  | [], [], _ => rfl
  | x :: r, z :: r', h => by rw [eqC_eq h.1, eqCs_eq h.2]
  | [], _ :: _, h => h.elim
  | _ :: _, [], h => h.elim
theorem eqPs_eq : ∀ {l l' : List (Bool × List C)}, eqPs l l' → l = l'
  | [], [], _ => rfl
  | (b, x) :: r, (b', z) :: r', h => by rw [h.1, eqCs_eq h.2.1, eqPs_eq h.2.2]
  | [], _ :: _, h => h.elim
  | _ :: _, [], h => h.elim
theorem eqRes_eq {l : List (Bool × List C)} {v : V} (h : eqRes l v) : asV l = v := by
  unfold eqRes at h
  split at h
  · rfl
  · rw [← eqC_eq h]; rfl
  · rw [← eqCs_eq h]; rfl
  · rename_i p q r l'
    rw [← eqPs_eq h]
    obtain ⟨b, l⟩ := p
    cases b with
    | false => cases l with
      | nil => rfl
      | cons x l => cases l <;> rfl
    | true => rfl
  · exact h.elim
theorem eqB_eq {x y : Blk} (h : eqB x y) : x = y := by
  cases x <;> cases y
  case fl.fl => rw [h.1, h.2.1, h.2.2]
  case bx.bx => rw [eqCs_eq h]
  case cs.cs => rw [h.1, eqCs_eq h.2]
  all_goals exact h.elim
theorem eqBs_eq : ∀ {l l' : List Blk}, eqBs l l' → l = l'
  | [], [], _ => rfl
  | x :: r, y :: r', h => by rw [eqB_eq h.1, eqBs_eq h.2]
  | [], _ :: _, h => h.elim
  | _ :: _, [], h => h.elim
/-- The names of the new blocks that a result needs, in their order. -/
def keepC (nl : Nat) : List C → (List Nm → Prop) → Prop
  | [], k => k []
  | .slc n _ :: r, k => match Nat.beq n.1 0 with
    | true => match Nat.blt n.2 nl with
      | true => keepC nl r k
      | false => keepC nl r fun l => k (n :: l)
    | false => keepC nl r fun l => k (n :: l)
  | _ :: r, k => keepC nl r k
def keepK (nl : Nat) : List (Bool × List C) → (List Nm → Prop) → Prop
  | [], k => k []
  | (_, l) :: r, k => keepC nl l fun a => keepK nl r fun b => k (a ++ b)
theorem keepC_ex {nl : Nat} : ∀ {l : List C} {k : List Nm → Prop}, keepC nl l k → ∃ a, k a
  | [], _, h => ⟨_, h⟩
  | .slc n len :: r, k, h => by
    simp only [keepC] at h
    split at h
    · split at h
      · exact keepC_ex h
      · obtain ⟨a, h⟩ := keepC_ex h; exact ⟨_, h⟩
    · obtain ⟨a, h⟩ := keepC_ex h; exact ⟨_, h⟩
  | .pv _ :: r, k, h => keepC_ex (l := r) h
  | .any :: r, k, h => keepC_ex (l := r) h
  | .ptr _ _ :: r, k, h => keepC_ex (l := r) h
  | .eptr _ _ _ _ :: r, k, h => keepC_ex (l := r) h
  | .view _ _ :: r, k, h => keepC_ex (l := r) h
  | .vptr _ _ :: r, k, h => keepC_ex (l := r) h
  | .sub _ _ _ _ :: r, k, h => keepC_ex (l := r) h
  | .ref _ :: r, k, h => keepC_ex (l := r) h
  | .pview _ _ :: r, k, h => keepC_ex (l := r) h
  | .pvw _ _ _ :: r, k, h => keepC_ex (l := r) h
theorem keepK_ex {nl : Nat} : ∀ {l : List (Bool × List C)} {k : List Nm → Prop}, keepK nl l k → ∃ a, k a
  | [], _, h => ⟨_, h⟩
  | (_, l) :: r, k, h => by
    obtain ⟨a, h1⟩ := keepC_ex (l := l) h
    obtain ⟨b, h2⟩ := keepK_ex (l := r) h1
    exact ⟨_, h2⟩
/-- The names of the new rows of new slices of slices. -/
def csK (m : ML) (nl : Nat) : List Nm → (List Nm → Prop) → Prop
  | [], k => k []
  | n :: r, k => lookK m n fun
    | .cs _ l => keepC nl l fun a => csK m nl r fun b => k (a ++ b)
    | _ => csK m nl r k
theorem csK_ex {m : ML} {nl : Nat} : ∀ {l : List Nm} {k : List Nm → Prop}, csK m nl l k → ∃ a, k a
  | [], _, h => ⟨_, h⟩
  | n :: r, k, h => by
    obtain ⟨b, _, h⟩ := lookK_iff.1 h
    cases b with
    | cs e l =>
      obtain ⟨a, h1⟩ := keepC_ex h
      obtain ⟨b, h2⟩ := csK_ex h1
      exact ⟨_, h2⟩
    | _ => exact csK_ex h
def outK (ms : List Blk) (rs : List AR) (R : List (Bool × List C) → List Blk → Prop) (T : List V) (m : ML) : Prop :=
  ressK T m rs fun l => keepK ms.length l fun keep1 => csK m ms.length keep1 fun keep2 => guardK (nodupN (lentN 0 ms ++ (keep1 ++ keep2))) (backs (lentN 0 ms ++ (keep1 ++ keep2)) l fun l' => blksK m (lentN 0 ms ++ (keep1 ++ keep2)) (lentN 0 ms ++ (keep1 ++ keep2)) fun bs => R l' bs)

section
variable {P : Program} {w0 : World} {F : Nat → Prop} {pins : List (C × Value)} {w : World} {T : List V} {m : ML} {a : Act} {G : Gh}

def runRes (tmps : Array Value) : ResultVar → Sem Value
  | .tmp t => pure (tmps.getD t undef)
  | .cell p t => do loadVar t (← asAddr (tmps.getD p undef))
theorem res1K_ex {r : ResultVar} {ar : AR} (hc : cres P [r] = some [ar]) {k : Bool × List C → Prop} (h : res1K T m ar k) (hR : Rel w0 F G (sem m) w) (hT : TRel w0 F G (sem m) T a) :
    ∃ p, k p ∧ ∃ v, (runRes a.tmps r).run P w = .ok v w ∧ Conc1 w0 F G (sem m) p v := by
  cases r with
  | tmp t =>
    simp [cres] at hc
    subst hc
    obtain ⟨u, hu, h⟩ := getK_iff.1 h
    obtain ⟨v, hv, hcv⟩ := hT.tm t u hu
    have e : a.tmps.getD t undef = v := by simp [Array.getD_eq_getD_getElem?, hv]
    match u, h, hcv with
    | .c x, h, hcv => exact ⟨_, h, v, by simp [runRes, e], x, rfl, hcv⟩
    | .agg l, h, hcv => exact ⟨_, h, v, by simp [runRes, e], hcv⟩
  | cell t ty =>
    simp only [cres] at hc
    split at hc
    · rename_i s hs
      simp at hc
      subst hc
      obtain ⟨u, hu, h⟩ := getK_iff.1 h
      obtain ⟨v, hv, hcv⟩ := hT.tm t u hu
      have e : a.tmps.getD t undef = v := by simp [Array.getD_eq_getD_getElem?, hv]
      match u, h, hcv with
      | .c (.ptr n j), h, hcv =>
        obtain ⟨b, hb, h⟩ := lookK_iff.1 h
        match b, h with
        | .bx l, h =>
          obtain ⟨h0, u1, h1, h2⟩ := loadC_ex h
          obtain ⟨B, e1, e2, _⟩ := hcv
          obtain ⟨B', c, ety, e3, _, e4, e5⟩ := hR.bx hb
          obtain rfl : B' = B := by rw [e1] at e3; simpa using e3.symm
          have hrun := run_load_known (w := w) hs B' j ((c.toList.drop j).take (s.getD 1)) (by have := e5.1; simp at this; simp; omega) (fun i v hi => by
            rw [cell_of_row w B' _ c ety (0, 0) e4]
            have := (sub_get _ _ _ _ hi).2
            simpa using this)
          have hrun' : (loadVar ty ⟨B', j, none⟩).run P w = .ok (vload s ((c.toList.drop j).take (s.getD 1))) w := by simpa [Instr.loadAt, Instr.sureAddr] using hrun
          have hcc := h2 _ _ _ _ _ e5
          match u1, h1, hcc with
          | .c x, h1, hcc => exact ⟨_, h1, _, by simp [runRes, e, e2, asAddr, hrun'], x, rfl, hcc⟩
          | .agg l, h1, hcc => exact ⟨_, h1, _, by simp [runRes, e, e2, asAddr, hrun'], hcc⟩
    · cases hc

theorem ressK_ex : ∀ {l : List ResultVar} {rs : List AR} {k : List (Bool × List C) → Prop}, cres P l = some rs → ressK T m rs k → Rel w0 F G (sem m) w → TRel w0 F G (sem m) T a →
    ∃ ps, k ps ∧ ps.length = l.length ∧ ∃ vs : List Value, (l.mapM (runRes a.tmps)).run P w = .ok vs w ∧ vs.length = l.length ∧ ∀ (j : Nat) p, ps[j]? = some p → ∃ v, vs[j]? = some v ∧ Conc1 w0 F G (sem m) p v
  | [], rs, k, hc, h, hR, hT => by
    simp [cres] at hc
    subst hc
    exact ⟨[], h, rfl, [], by simp, rfl, fun j p hp => by simp at hp⟩
  | r :: l, rs, k, hc, h, hR, hT => by
    obtain ⟨ar, rs', rfl, h1, h2⟩ : ∃ ar rs', rs = ar :: rs' ∧ cres P [r] = some [ar] ∧ cres P l = some rs' := by
      cases r with
      | tmp t =>
        simp only [cres] at hc
        obtain ⟨rs', h1, rfl⟩ := oneOpt hc
        exact ⟨_, rs', rfl, rfl, h1⟩
      | cell t ty =>
        simp only [cres] at hc ⊢
        cases hs : csize P ty with
        | none => rw [hs] at hc; cases hc
        | some s =>
          rw [hs] at hc
          obtain ⟨rs', h1, rfl⟩ := oneOpt hc
          exact ⟨_, rs', rfl, rfl, h1⟩
    obtain ⟨p, h3, v, h4, h5⟩ := res1K_ex h1 h hR hT
    obtain ⟨ps, h6, h7, vs, h8, h9, h10⟩ := ressK_ex h2 h3 hR hT
    refine ⟨_, h6, by simp [h7], v :: vs, ?_, by simp [h9], fun j q hq => ?_⟩
    · simp only [List.mapM_cons, Sem.run_bind, h4, Result.andThen_ok, h8, Sem.run_pure]
    · cases j with
      | zero => simp at hq; subst hq; exact ⟨v, rfl, h5⟩
      | succ j => exact h10 j q (by simpa using hq)

theorem nmIdx_ex {n : Nm} : ∀ {l : List Nm} {i : Nat} {k : Nat → Prop}, nmIdx n l i k → ∃ j, k j ∧ i ≤ j ∧ l[j - i]? = some n
  | [], _, _, h => h.elim
  | q :: r, i, k, h => by
    simp only [nmIdx] at h
    cases hb : nmB q n with
    | true => rw [hb] at h; exact ⟨i, h, Nat.le_refl _, by simp [nmB_iff.1 hb]⟩
    | false =>
      rw [hb] at h
      obtain ⟨j, h1, h2, h3⟩ := nmIdx_ex h
      exact ⟨j, h1, by omega, by rw [show j - i = (j - (i + 1)) + 1 by omega]; simpa using h3⟩
theorem backC_det {kp : List Nm} : ∀ {l : List C} {k : List C → Prop}, backC kp l k → ∃ l', k l' ∧ l'.length = l.length ∧ ∀ k' : List C → Prop, k' l' → backC kp l k' := by
  have idx : ∀ (n : Nm) (l : List Nm) (i : Nat) (k : Nat → Prop), nmIdx n l i k → ∃ j, k j ∧ ∀ k' : Nat → Prop, k' j → nmIdx n l i k' := by
    intro n l
    induction l with
    | nil => intro i k h; exact h.elim
    | cons q r ih =>
      intro i k h
      simp only [nmIdx] at h ⊢
      cases hb : nmB q n with
      | true => rw [hb] at h; exact ⟨i, h, fun k' h' => h'⟩
      | false => rw [hb] at h; exact ih _ _ h
  intro l
  induction l with
  | nil => intro k h; exact ⟨[], h, rfl, fun _ h => h⟩
  | cons x r ih =>
    intro k h
    cases x with
    | slc n len =>
      obtain ⟨j, h1, h2⟩ := idx _ _ _ _ h
      obtain ⟨l', h3, h4, h5⟩ := ih h1
      exact ⟨_, h3, by simp [h4], fun k' hk => h2 _ (h5 _ hk)⟩
    | pv v => obtain ⟨l', h3, h4, h5⟩ := ih (k := fun r' => k (.pv v :: r')) h; exact ⟨_, h3, by simp [h4], fun k' hk => h5 (fun r' => k' (.pv v :: r')) hk⟩
    | any => obtain ⟨l', h3, h4, h5⟩ := ih (k := fun r' => k (.any :: r')) h; exact ⟨_, h3, by simp [h4], fun k' hk => h5 (fun r' => k' (.any :: r')) hk⟩
    | ptr _ _ => obtain ⟨l', h3, h4, h5⟩ := ih (k := fun r' => k (.any :: r')) h; exact ⟨_, h3, by simp [h4], fun k' hk => h5 (fun r' => k' (.any :: r')) hk⟩
    | eptr _ _ _ _ => obtain ⟨l', h3, h4, h5⟩ := ih (k := fun r' => k (.any :: r')) h; exact ⟨_, h3, by simp [h4], fun k' hk => h5 (fun r' => k' (.any :: r')) hk⟩
    | view _ _ => obtain ⟨l', h3, h4, h5⟩ := ih (k := fun r' => k (.any :: r')) h; exact ⟨_, h3, by simp [h4], fun k' hk => h5 (fun r' => k' (.any :: r')) hk⟩
    | vptr _ _ => obtain ⟨l', h3, h4, h5⟩ := ih (k := fun r' => k (.any :: r')) h; exact ⟨_, h3, by simp [h4], fun k' hk => h5 (fun r' => k' (.any :: r')) hk⟩
    | sub _ _ _ _ => obtain ⟨l', h3, h4, h5⟩ := ih (k := fun r' => k (.any :: r')) h; exact ⟨_, h3, by simp [h4], fun k' hk => h5 (fun r' => k' (.any :: r')) hk⟩
    | ref _ => obtain ⟨l', h3, h4, h5⟩ := ih (k := fun r' => k (.any :: r')) h; exact ⟨_, h3, by simp [h4], fun k' hk => h5 (fun r' => k' (.any :: r')) hk⟩
    | pview _ _ => obtain ⟨l', h3, h4, h5⟩ := ih (k := fun r' => k (.any :: r')) h; exact ⟨_, h3, by simp [h4], fun k' hk => h5 (fun r' => k' (.any :: r')) hk⟩
    | pvw _ _ _ => obtain ⟨l', h3, h4, h5⟩ := ih (k := fun r' => k (.any :: r')) h; exact ⟨_, h3, by simp [h4], fun k' hk => h5 (fun r' => k' (.any :: r')) hk⟩
theorem BkB.arr {kp : List Nm} {b0 b : Blk} (h : BkB kp b0 b) : arrB b = arrB b0 := by
  cases b0 with
  | fl e sz l => obtain rfl := h; rfl
  | bx l => obtain ⟨rfl, _⟩ := h; rfl
  | cs e l =>
    obtain ⟨l', rfl, h⟩ := h
    obtain ⟨l2, rfl, h2, _⟩ := backC_det h
    simp [arrB, h2]
  | mp _ _ => exact h.elim
  | it _ _ _ _ => exact h.elim
theorem blksK_ex {kp : List Nm} : ∀ {ns : List Nm} {k : List Blk → Prop}, blksK m kp ns k → ∃ bs, k bs ∧ bs.length = ns.length ∧ ∀ (i : Nat) n, ns[i]? = some n → ∃ b0 b, bs[i]? = some b ∧ sem m n = some b0 ∧ BkB kp b0 b
  | [], _, h => ⟨_, h, rfl, fun i n hn => by simp at hn⟩
  | n :: r, k, h => by
    obtain ⟨b, hb, h⟩ := lookK_iff.1 h
    match b, h with
    | .fl e sz l, h =>
      obtain ⟨bs, h1, h2, h3⟩ := blksK_ex h
      refine ⟨_, h1, by simp [h2], fun i q hq => ?_⟩
      cases i with
      | zero => simp at hq; subst hq; exact ⟨_, _, rfl, hb, rfl⟩
      | succ i => simpa using h3 i q (by simpa using hq)
    | .bx l, h =>
      obtain ⟨h0, h⟩ := guardK_iff.1 h
      obtain ⟨bs, h1, h2, h3⟩ := blksK_ex h
      refine ⟨_, h1, by simp [h2], fun i q hq => ?_⟩
      cases i with
      | zero => simp at hq; subst hq; exact ⟨_, _, rfl, hb, rfl, h0⟩
      | succ i => simpa using h3 i q (by simpa using hq)
    | .cs e l, h =>
      obtain ⟨l', h0, _, hl⟩ := backC_det h
      obtain ⟨bs, h1, h2, h3⟩ := blksK_ex h0
      refine ⟨_, h1, by simp [h2], fun i q hq => ?_⟩
      cases i with
      | zero => simp at hq; subst hq; exact ⟨_, _, rfl, hb, l', rfl, hl _ rfl⟩
      | succ i => simpa using h3 i q (by simpa using hq)
    | .mp _ _, h => exact h.elim
    | .it _ _ _ _, h => exact h.elim

/-- A state's memory, seen from outside: the names that are kept. -/
def backG (ns : List Nm) (G : Gh) : Gh := fun n => match ns[n.2]? with
  | some q => G q
  | none => .bool false
theorem backC_ex {ns : List Nm} {bs : List Blk} (hb : ∀ (i : Nat) n, ns[i]? = some n → ∃ b0 b, bs[i]? = some b ∧ sem m n = some b0 ∧ arrB b = arrB b0) : ∀ {l : List C} {k : List C → Prop}, backC ns l k → ∃ l', k l' ∧ ∀ vs, ConcCs w0 F G (sem m) l vs → ConcCs w0 F (backG ns G) (semL bs) l' vs
  | [], k, h => ⟨_, h, fun vs hc => ⟨hc.1, fun j x hx => by simp at hx⟩⟩
  | x :: r, k, h => by
    have cons : ∀ (x' : C) (r' : List C) vs, ConcCs w0 F G (sem m) (x :: r) vs → (∀ v, ConcC w0 F G (sem m) x v → ConcC w0 F (backG ns G) (semL bs) x' v) → (∀ us, ConcCs w0 F G (sem m) r us → ConcCs w0 F (backG ns G) (semL bs) r' us) → ConcCs w0 F (backG ns G) (semL bs) (x' :: r') vs := fun x' r' vs hc h1 h2 => by
      cases vs with
      | nil => have := hc.1; simp at this
      | cons v vs =>
        obtain ⟨v', e1, e2⟩ := hc.2 0 x rfl
        simp at e1
        subst e1
        have h3 := h2 vs ⟨by have := hc.1; simp at this; exact this, fun j y hy => hc.2 (j + 1) y hy⟩
        refine ⟨by simp [h3.1], fun j y hy => ?_⟩
        cases j with
        | zero => simp at hy; subst hy; exact ⟨v, rfl, h1 v e2⟩
        | succ j => exact h3.2 j y hy
    cases x with
    | slc n len =>
      obtain ⟨j, h1, h2, h3⟩ := nmIdx_ex h
      obtain ⟨l', h4, h5⟩ := backC_ex hb (l := r) h1
      refine ⟨_, h4, fun vs hc => cons _ _ vs hc (fun v hv => ?_) h5⟩
      simp only [Nat.sub_zero] at h3
      obtain ⟨b0, b, q1, q2, qa⟩ := hb j n h3
      obtain ⟨e', sz', l'', p1, p0, p2, p3, p4⟩ := hv
      rw [q2] at p1
      simp only [Option.some.injEq] at p1
      subst p1
      exact ⟨_, sz', l'', q1, qa.trans p0, p2, p3, fun hl => by rw [p4 hl]; simp [backG, h3]⟩
    | pv u =>
      obtain ⟨l', h1, h2⟩ := backC_ex hb (l := r) h
      exact ⟨_, h1, fun vs hc => cons _ _ vs hc (fun v hv => hv) h2⟩
    | any =>
      obtain ⟨l', h1, h2⟩ := backC_ex hb (l := r) h
      exact ⟨_, h1, fun vs hc => cons _ _ vs hc (fun v hv => trivial) h2⟩
    | ptr _ _ =>
      obtain ⟨l', h1, h2⟩ := backC_ex hb (l := r) h
      exact ⟨_, h1, fun vs hc => cons _ _ vs hc (fun v hv => trivial) h2⟩
    | eptr _ _ _ _ =>
      obtain ⟨l', h1, h2⟩ := backC_ex hb (l := r) h
      exact ⟨_, h1, fun vs hc => cons _ _ vs hc (fun v hv => trivial) h2⟩
    | view _ _ =>
      obtain ⟨l', h1, h2⟩ := backC_ex hb (l := r) h
      exact ⟨_, h1, fun vs hc => cons _ _ vs hc (fun v hv => trivial) h2⟩
    | vptr _ _ =>
      obtain ⟨l', h1, h2⟩ := backC_ex hb (l := r) h
      exact ⟨_, h1, fun vs hc => cons _ _ vs hc (fun v hv => trivial) h2⟩
    | sub _ _ _ _ =>
      obtain ⟨l', h1, h2⟩ := backC_ex hb (l := r) h
      exact ⟨_, h1, fun vs hc => cons _ _ vs hc (fun v hv => trivial) h2⟩
    | ref _ =>
      obtain ⟨l', h1, h2⟩ := backC_ex hb (l := r) h
      exact ⟨_, h1, fun vs hc => cons _ _ vs hc (fun v hv => trivial) h2⟩
    | pview _ _ =>
      obtain ⟨l', h1, h2⟩ := backC_ex hb (l := r) h
      exact ⟨_, h1, fun vs hc => cons _ _ vs hc (fun v hv => trivial) h2⟩
    | pvw _ _ _ =>
      obtain ⟨l', h1, h2⟩ := backC_ex hb (l := r) h
      exact ⟨_, h1, fun vs hc => cons _ _ vs hc (fun v hv => trivial) h2⟩
theorem backs_ex {ns : List Nm} {bs : List Blk} (hb : ∀ (i : Nat) n, ns[i]? = some n → ∃ b0 b, bs[i]? = some b ∧ sem m n = some b0 ∧ arrB b = arrB b0) : ∀ {ps : List (Bool × List C)} {k : List (Bool × List C) → Prop}, backs ns ps k → ∃ ps', k ps' ∧ ps'.length = ps.length ∧
    ∀ (j : Nat) p', ps'[j]? = some p' → ∃ p, ps[j]? = some p ∧ ∀ v, Conc1 w0 F G (sem m) p v → Conc1 w0 F (backG ns G) (semL bs) p' v
  | [], k, h => ⟨_, h, rfl, fun j p hp => by simp at hp⟩
  | (b, x) :: r, k, h => by
    obtain ⟨x', h1, h2⟩ := backC_ex (w0 := w0) (F := F) (G := G) hb h
    obtain ⟨l', h3, h4, h5⟩ := backs_ex hb h1
    refine ⟨_, h3, by simp [h4], fun j p' hp => ?_⟩
    cases j with
    | zero =>
      simp at hp
      subst hp
      refine ⟨_, rfl, fun v hv => ?_⟩
      cases b with
      | false =>
        obtain ⟨y, rfl, hy⟩ := hv
        have := h2 [v] ⟨rfl, fun j z hz => by
          cases j with
          | zero => simp at hz; subst hz; exact ⟨v, rfl, hy⟩
          | succ j => simp at hz⟩
        have hl := this.1
        match x', hl, this with
        | [y'], _, this =>
          obtain ⟨v', e1, e2⟩ := this.2 0 y' rfl
          simp at e1
          subst e1
          exact ⟨_, rfl, e2⟩
      | true =>
        obtain ⟨vs, e1, e2⟩ := hv
        exact ⟨vs, e1, h2 _ e2⟩
    | succ j =>
      obtain ⟨p, e1, e2⟩ := h5 j p' (by simpa using hp)
      exact ⟨p, by simpa using e1, e2⟩
theorem asV_conc {M : Mem} {ps : List (Bool × List C)} {vs : List Value} (hl : vs.length = ps.length) (h : ∀ (j : Nat) p, ps[j]? = some p → ∃ v, vs[j]? = some v ∧ Conc1 w0 F G M p v) : ConcV w0 F G M (asV ps) (if h : vs.toArray.size = 1 then vs.toArray[0] else .tuple vs.toArray) := by
  match ps, vs, hl, h with
  | [(false, [x])], [v], _, h =>
    obtain ⟨u, h1, y, h2, h3⟩ := h 0 _ rfl
    simp at h1 h2
    subst h1 h2
    exact h3
  | [(true, l)], [v], _, h =>
    obtain ⟨u, h1, h2⟩ := h 0 _ rfl
    simp at h1
    subst h1
    exact h2
  | [(false, [])], [v], _, h => obtain ⟨u, h1, y, h2, h3⟩ := h 0 _ rfl; simp at h2
  | [(false, _ :: _ :: _)], [v], _, h => obtain ⟨u, h1, y, h2, h3⟩ := h 0 _ rfl; simp at h2
  | [], [], _, h => exact ⟨#[], rfl, rfl, fun j p hp => by simp at hp⟩
  | p :: q :: r, v :: u :: vs, hl, h =>
    rw [dif_neg (by simp)]
    have e : asV (p :: q :: r) = .tup (p :: q :: r) := by
      obtain ⟨b, l⟩ := p
      cases b with
      | false => cases l with
        | nil => rfl
        | cons x l => cases l <;> rfl
      | true => rfl
    rw [e]
    exact ⟨_, rfl, by simpa using hl, fun j p hp => by simpa using h j p hp⟩
end
end Go.Proofs.Ytfbadfnhnaaeeaa
