/- The abstract machine: code. -/
import Derived.Test.YtfbadfnhnaaeeaaE14
import Derived.Tactics
namespace Go.Proofs.Ytfbadfnhnaaeeaa
set_option linter.unusedSimpArgs false
set_option linter.unusedVariables false
open Go.RowKit

inductive It where
  | op (dst : Option Nat) (g : Option (Nat × Bool)) (o : AOp)
  | split (t : Nat)
  | nxt (dst : Option Nat) (x : Opd)
inductive AC where
  | skip
  | reg (its : List It)
  | dreg (raft : List (List Nat)) (its : List It)
  | seq (a b : AC)
  | cond (c : Opd) (a b : AC)
  | block (id : Nat) (a : AC)
  | loop (wf : List Bool) (a : AC)
  | exit (id : Nat)
  | ret
inductive X where
  | normal
  | exit (id : Nat)
  | ret

def updsK : ML → ML → (ML → Prop) → Prop
  | [], m, k => k m
  | (n, b) :: r, m, k => updK m n b fun m' => updsK r m' k
def effK : Eff → ML → (ML → Prop) → Prop
  | .non, m, k => k m
  | .new l, m, k => newK l m k
  | .upd n b, m, k => updK m n b k
  | .lent us l, m, k => updsK us m fun m' => newK l m' k
def putK (dst : Option Nat) (v : V) (T : List V) (k : List V → Prop) : Prop := match dst with
  | some d => setK T d v k
  | none => k T

/-- One operation, then what follows. -/
def opK (P : Program) (dst : Option Nat) (o : AOp) (T : List V) (m : ML) (kk : List V → ML → Prop) : Prop := opA P (dst.getD 0) T (lookK m) (fun res eff _ => effK eff m fun m' => putK dst res T fun T' => kk T' m') o
/-- The same, if the temporary t is true (or false). -/
def gT (P : Program) (dst : Option Nat) (t : Nat) (o : AOp) (T : List V) (m : ML) (kk : List V → ML → Prop) : Prop := getK T t fun
  | .c (.pv (.bool true)) => opK P dst o T m kk
  | .c (.pv (.bool false)) => putK dst (.c (.pv undef)) T fun T' => kk T' m
  | .c (.pv (.tuple _)) => putK dst (.c (.pv undef)) T fun T' => kk T' m
  | _ => False
def gF (P : Program) (dst : Option Nat) (t : Nat) (o : AOp) (T : List V) (m : ML) (kk : List V → ML → Prop) : Prop := getK T t fun
  | .c (.pv (.bool false)) => opK P dst o T m kk
  | .c (.pv (.bool true)) => putK dst (.c (.pv undef)) T fun T' => kk T' m
  | .c (.pv (.tuple _)) => putK dst (.c (.pv undef)) T fun T' => kk T' m
  | _ => False
def splitK (t : Nat) (T : List V) (kk : List V → Prop) : Prop := getK T t fun
  | .c (.pv (.bool b)) => (b = true → setK T t (.c (.pv (.bool true))) kk) ∧ (b = false → setK T t (.c (.pv (.bool false))) kk)
  | .c (.pv (.tuple _)) => kk T
  | _ => False
/-- The next entry of a map, in whatever order. -/
def nxtK (dst : Option Nat) (x : Opd) (T : List V) (m : ML) (kk : List V → ML → Prop) : Prop := evK T x fun
  | .c (.ref n) => lookK m n fun
    | .it q since seen c0 => lookK m q fun
      | .mp clock l => ((∀ e ∈ l, e.2.2 < since) ∧ since ≤ c0) ∧
          ((∀ e ∈ l, e.2.2 ∈ seen) → putK dst (.tup [(false, [.pv (.bool false)])]) T fun T' => kk T' m) ∧
          ∀ e : Int × Value × Nat, (e ∈ l ∧ e.2.2 ∉ seen) → updK m n (.it q since (seen ++ [e.2.2]) clock) fun m' => putK dst (.tup [(false, [.pv (.bool true)]), (false, [.pv (.int .i64 e.1)]), (false, [.pv e.2.1])]) T fun T' => kk T' m'
      | _ => False
    | _ => False
  | _ => False
def runIt (P : Program) : List It → List V → ML → (List V → ML → Prop) → Prop
  | [], T, m, k => k T m
  | .split t :: r, T, m, k => splitK t T fun T' => runIt P r T' m k
  | .nxt dst x :: r, T, m, k => nxtK dst x T m fun T' m' => runIt P r T' m' k
  | .op dst none o :: r, T, m, k => opK P dst o T m fun T' m' => runIt P r T' m' k
  | .op dst (some (t, true)) o :: r, T, m, k => gT P dst t o T m fun T' m' => runIt P r T' m' k
  | .op dst (some (t, false)) o :: r, T, m, k => gF P dst t o T m fun T' m' => runIt P r T' m' k

/-- What an operation of a region without a fixed order touches. -/
structure LE where
  dst : Option Nat
  ts : List Nat
  rd : List Nm
  wr : List Nm
def effN : Eff → List Nm
  | .non => []
  | .new l => l.map (·.1)
  | .upd n _ => [n]
  | .lent us l => us.map (·.1) ++ l.map (·.1)
def dstIn : Option Nat → List Nat → Bool
  | some d, l => l.any (Nat.beq d ·)
  | none, _ => false
def dstEq : Option Nat → Option Nat → Bool
  | some d, some e => Nat.beq d e
  | _, _ => false
def meets (a b : List Nm) : Bool := a.any fun n => b.any (nmB n ·)
def clash (a b : LE) : Bool := dstIn a.dst b.ts || dstIn b.dst a.ts || dstEq a.dst b.dst || meets a.wr b.rd || meets b.wr a.rd || meets a.wr b.wr
def ok1 (e : LE) (aft : List Nat) : List LE → Bool
  | [] => true
  | e' :: r => (!clash e' e || aft.any (Nat.beq r.length ·)) && ok1 e aft r
def chk : List (List Nat) → List LE → Bool
  | [], [] => true
  | a :: b, e :: r => ok1 e a r && chk b r
  | _, _ => false
def opD (P : Program) (dst : Option Nat) (o : AOp) (ts : List Nat) (T : List V) (m : ML) (kk : LE → List V → ML → Prop) : Prop := opA P (dst.getD 0) T (lookK m) (fun res eff rd => effK eff m fun m' => putK dst res T fun T' => kk ⟨dst, ts ++ tmpsA o, rd, effN eff⟩ T' m') o
def gTD (P : Program) (dst : Option Nat) (t : Nat) (o : AOp) (T : List V) (m : ML) (kk : LE → List V → ML → Prop) : Prop := getK T t fun
  | .c (.pv (.bool true)) => opD P dst o [t] T m kk
  | .c (.pv (.bool false)) => putK dst (.c (.pv undef)) T fun T' => kk ⟨dst, [t], [], []⟩ T' m
  | .c (.pv (.tuple _)) => putK dst (.c (.pv undef)) T fun T' => kk ⟨dst, [t], [], []⟩ T' m
  | _ => False
def gFD (P : Program) (dst : Option Nat) (t : Nat) (o : AOp) (T : List V) (m : ML) (kk : LE → List V → ML → Prop) : Prop := getK T t fun
  | .c (.pv (.bool false)) => opD P dst o [t] T m kk
  | .c (.pv (.bool true)) => putK dst (.c (.pv undef)) T fun T' => kk ⟨dst, [t], [], []⟩ T' m
  | .c (.pv (.tuple _)) => putK dst (.c (.pv undef)) T fun T' => kk ⟨dst, [t], [], []⟩ T' m
  | _ => False
def runD (P : Program) : List It → List LE → List V → ML → (List LE → List V → ML → Prop) → Prop
  | [], lg, T, m, k => k lg T m
  | .split t :: r, lg, T, m, k => splitK t T fun T' => runD P r lg T' m k
  | .nxt _ _ :: _, _, _, _, _ => False
  | .op dst none o :: r, lg, T, m, k => opD P dst o [] T m fun e T' m' => runD P r (e :: lg) T' m' k
  | .op dst (some (t, true)) o :: r, lg, T, m, k => gTD P dst t o T m fun e T' m' => runD P r (e :: lg) T' m' k
  | .op dst (some (t, false)) o :: r, lg, T, m, k => gFD P dst t o T m fun e T' m' => runD P r (e :: lg) T' m' k

def RelS (w0 : World) (F : Nat → Prop) (pins : List (C × Value)) (T : List V) (m : ML) (a : Act) (w : World) : Prop :=
  ∃ G, Rel w0 F G (sem m) w ∧ TRel w0 F G (sem m) T a ∧ ∀ p, p ∈ pins → ConcC w0 F G (sem m) p.1 p.2

def nameC (m : ML) : C → Bool
  | .ptr n _ => (sem m n).isSome
  | .eptr n _ _ _ => (sem m n).isSome
  | .slc n _ => (sem m n).isSome
  | .sub n _ _ _ => (sem m n).isSome
  | .ref n => (sem m n).isSome
  | _ => true
def nameCs (m : ML) : List C → Bool
  | [] => true
  | x :: r => match nameC m x with
    | true => nameCs m r
    | false => false
def nameV (m : ML) : V → Bool
  | .c x => nameC m x
  | .agg l => nameCs m l
  | .tup l => l.all fun p => nameCs m p.2
  | .clo _ l => nameCs m l
def nameT (m : ML) : List V → Bool
  | [] => true
  | x :: r => match nameV m x with
    | true => nameT m r
    | false => false
def nameB (m : ML) : Blk → Bool
  | .fl _ _ _ => true
  | .bx l => nameCs m l
  | .mp _ _ => true
  | .it q _ _ _ => (sem m q).isSome
  | .cs _ l => nameCs m l
def nameM (m : ML) : ML → Bool
  | [] => true
  | (_, b) :: r => match nameB m b with
    | true => nameM m r
    | false => false
/-- One state says less than another. nl: how many blocks were lent. -/
structure Weak (nl : Nat) (T : List V) (m : ML) (T' : List V) (m' : ML) : Prop where
  len : T'.length = T.length
  tm : ∀ (i : Nat) x, T'[i]? = some x → x = .c .any ∨ T[i]? = some x
  mem : ∀ n b, sem m' n = some b → sem m n = some b
  names : nameT m' T' = true
  boxes : ∀ n b, sem m' n = some b → nameB m' b = true
  lent : ∀ i, i < nl → (sem m' (0, i)).isSome = true

/-- Forget what a loop writes. -/
def hav : List V → List Bool → List V
  | [], _ => []
  | x :: T, [] => x :: T
  | _ :: T, true :: wf => .c .any :: hav T wf
  | x :: T, false :: wf => x :: hav T wf
def havK : List V → List Bool → (List V → Prop) → Prop
  | [], _, k => k []
  | x :: T, [], k => k (x :: T)
  | _ :: T, true :: wf, k => havK T wf fun T' => k (.c .any :: T')
  | x :: T, false :: wf, k => havK T wf fun T' => k (x :: T')
/-- What it doesn't write. -/
def keepL : List V → List Bool → List V
  | [], _ => []
  | x :: T, [] => x :: T
  | _ :: T, true :: wf => .c .any :: keepL T wf
  | x :: T, false :: wf => x :: keepL T wf
def setsK : List V → List (Nat × V) → (List V → Prop) → Prop
  | T, [], k => k T
  | T, (j, v) :: r, k => setK T j v fun T' => setsK T' r k
def eqsK (T : List V) : List (Nat × V) → Prop
  | [] => True
  | (j, v) :: r => getK T j (fun x => x = v) ∧ eqsK T r
def memsEq (m : ML) : ML → Prop
  | [] => True
  | (n, b) :: r => lookK m n (fun x => x = b) ∧ memsEq m r
def mkK (T : List V) (wf : List Bool) (sp : List (Nat × V)) (k : List V → Prop) : Prop := havK T wf fun T' => setsK T' sp k

theorem havK_iff : ∀ {T : List V} {wf : List Bool} {k : List V → Prop}, havK T wf k ↔ k (hav T wf)
  | [], _, _ => Iff.rfl
  | _ :: _, [], _ => Iff.rfl
  | _ :: T, true :: wf, k => havK_iff (T := T) (wf := wf)
  | _ :: T, false :: wf, k => havK_iff (T := T) (wf := wf)
def sets : List V → List (Nat × V) → List V
  | T, [] => T
  | T, (j, v) :: r => sets (T.set j v) r
theorem setsK_ex : ∀ {sp : List (Nat × V)} {T : List V} {k : List V → Prop}, setsK T sp k → k (sets T sp)
  | [], _, _, h => h
  | (j, v) :: r, T, k, h => setsK_ex (sp := r) (setK_iff.1 h).2
theorem sets_len : ∀ (sp : List (Nat × V)) (T : List V), (sets T sp).length = T.length
  | [], _ => rfl
  | (j, v) :: r, T => by simp [sets, sets_len r]
theorem sets_get : ∀ (sp : List (Nat × V)) (T : List V) (i : Nat) (x : V), (sets T sp)[i]? = some x → (i, x) ∈ sp ∨ T[i]? = some x
  | [], _, _, _, h => .inr h
  | (j, v) :: r, T, i, x, h => by
    rcases sets_get r _ i x h with h1 | h1
    · exact .inl (by simp [h1])
    · by_cases e : j = i
      · subst e
        rw [List.getElem?_set] at h1
        split at h1
        · split at h1
          · simp only [Option.some.injEq] at h1
            subst h1
            exact .inl (by simp)
          · cases h1
        · rename_i hne; exact absurd rfl hne
      · rw [List.getElem?_set_ne e] at h1
        exact .inr h1
theorem eqsK_iff {T : List V} : ∀ {sp : List (Nat × V)}, eqsK T sp → ∀ j v, (j, v) ∈ sp → T[j]? = some v
  | [], _, j, v, h => by cases h
  | (i, u) :: r, ⟨h1, h2⟩, j, v, h => by
    rcases List.mem_cons.1 h with h | h
    · simp only [Prod.mk.injEq] at h
      obtain ⟨rfl, rfl⟩ := h
      obtain ⟨x, h3, rfl⟩ := getK_iff.1 h1
      exact h3
    · exact eqsK_iff h2 j v h
theorem hav_len : ∀ (T : List V) (wf : List Bool), (hav T wf).length = T.length
  | [], _ => rfl
  | _ :: _, [] => rfl
  | _ :: T, true :: wf => by simp [hav, hav_len T wf]
  | _ :: T, false :: wf => by simp [hav, hav_len T wf]
theorem keepL_len : ∀ (T : List V) (wf : List Bool), (keepL T wf).length = T.length
  | [], _ => rfl
  | _ :: _, [] => rfl
  | _ :: T, true :: wf => by simp [keepL, keepL_len T wf]
  | _ :: T, false :: wf => by simp [keepL, keepL_len T wf]
theorem hav_get : ∀ (T0 T1 : List V) (wf : List Bool), keepL T1 wf = keepL T0 wf → ∀ (i : Nat) x, (hav T0 wf)[i]? = some x → x = .c .any ∨ T1[i]? = some x
  | [], T1, wf, h, i, x, hx => by cases wf <;> simp [hav] at hx
  | y :: T0, T1, [], h, i, x, hx => by
    have : T1 = y :: T0 := by
      cases T1 with
      | nil => simp [keepL] at h
      | cons z t => simpa [keepL] using h
    subst this
    exact .inr hx
  | y :: T0, [], b :: wf, h, i, x, hx => by cases b <;> simp [keepL] at h
  | y :: T0, z :: T1, true :: wf, h, i, x, hx => by
    cases i with
    | zero => simp [hav] at hx; exact .inl hx.symm
    | succ i =>
      simp only [keepL, List.cons.injEq, true_and] at h
      simpa using hav_get T0 T1 wf h i x (by simpa [hav] using hx)
  | y :: T0, z :: T1, false :: wf, h, i, x, hx => by
    simp only [keepL, List.cons.injEq] at h
    cases i with
    | zero => simp [hav] at hx; subst hx; rw [h.1]; exact .inr rfl
    | succ i => simpa using hav_get T0 T1 wf h.2 i x (by simpa [hav] using hx)
theorem memsEq_iff {m : ML} : ∀ {m' : ML}, memsEq m m' → ∀ n b, sem m' n = some b → sem m n = some b
  | [], _, n, b, h => by cases h
  | (q, c) :: r, ⟨h1, h2⟩, n, b, h => by
    simp only [sem] at h
    cases hb : nmB q n with
    | true =>
      rw [hb] at h
      have := nmB_iff.1 hb
      subst this
      obtain ⟨x, h3, rfl⟩ := lookK_iff.1 h1
      simp only [Option.some.injEq] at h
      rw [h3, h]
    | false =>
      rw [hb] at h
      exact memsEq_iff h2 n b h
theorem nameM_iff {m : ML} : ∀ {m' : ML}, nameM m m' = true → ∀ n b, sem m' n = some b → nameB m b = true
  | [], _, n, l, h => by cases h
  | (q, c) :: r, h, n, l, hn => by
    simp only [nameM] at h
    cases hc : nameB m c with
    | false => rw [hc] at h; cases h
    | true =>
      rw [hc] at h
      simp only [sem] at hn
      cases hb : nmB q n with
      | true => rw [hb] at hn; simp only [Option.some.injEq] at hn; rw [← hn]; exact hc
      | false => rw [hb] at hn; exact nameM_iff (m' := r) h n l hn

theorem weak_mk {nl : Nat} {T0 T1 : List V} {m1 m' : ML} {wf : List Bool} {sp : List (Nat × V)} (h1 : keepL T1 wf = keepL T0 wf) (h2 : eqsK T1 sp) (h3 : memsEq m1 m') (h4 : nameT m' (sets (hav T0 wf) sp) = true) (h5 : nameM m' m' = true) (h6 : ∀ i, i < nl → (sem m' (0, i)).isSome = true) :
    Weak nl T1 m1 (sets (hav T0 wf) sp) m' where
  len := by rw [sets_len, hav_len, ← keepL_len T0 wf, ← h1, keepL_len]
  tm := fun i x hx => by
    rcases sets_get _ _ _ _ hx with h | h
    · exact .inr (eqsK_iff h2 i x h)
    · exact hav_get T0 T1 wf h1 i x h
  mem := memsEq_iff h3
  names := h4
  boxes := nameM_iff h5
  lent := h6

/-! Two names may be exchanged. -/
def swN (p q n : Nm) : Nm := match nmB n p with
  | true => q
  | false => match nmB n q with
    | true => p
    | false => n
def swC (p q : Nm) : C → C
  | .ptr n j => .ptr (swN p q n) j
  | .eptr n len i j => .eptr (swN p q n) len i j
  | .slc n len => .slc (swN p q n) len
  | .any => .any
  | .pv v => .pv v
  | .view sz l => .view sz l
  | .vptr es j => .vptr es j
  | .sub n len lo cnt => .sub (swN p q n) len lo cnt
  | .ref n => .ref (swN p q n)
  | .pview sz l => .pview sz l
  | .pvw v sz l => .pvw v sz l
def swCs (p q : Nm) : List C → List C
  | [] => []
  | x :: r => swC p q x :: swCs p q r
def swPs (p q : Nm) : List (Bool × List C) → List (Bool × List C)
  | [] => []
  | (b, l) :: r => (b, swCs p q l) :: swPs p q r
def swV (p q : Nm) : V → V
  | .c x => .c (swC p q x)
  | .agg l => .agg (swCs p q l)
  | .tup l => .tup (swPs p q l)
  | .clo f l => .clo f (swCs p q l)
def swT (p q : Nm) : List V → List V
  | [] => []
  | x :: r => swV p q x :: swT p q r
def swB (p q : Nm) : Blk → Blk
  | .bx l => .bx (swCs p q l)
  | .fl e sz l => .fl e sz l
  | .mp c l => .mp c l
  | .it n s e c => .it (swN p q n) s e c
  | .cs e l => .cs e (swCs p q l)
def swM (p q : Nm) : ML → ML
  | [] => []
  | (n, b) :: r => (swN p q n, swB p q b) :: swM p q r
def okSw (p q : Nm) : Bool := match Nat.beq p.1 0 with
  | true => false
  | false => match Nat.beq q.1 0 with
    | true => false
    | false => true
def swapK (o : Option (Nm × Nm)) (T : List V) (m : ML) (k : List V → ML → Prop) : Prop := match o with
  | none => k T m
  | some (p, q) => guardK (okSw p q) (k (swT p q T) (swM p q m))

/-- A loop: what varies; which temporaries are known at its head; the memory there. -/
structure ALoop0 (nl : Nat) (wf : List Bool) (body : List V → ML → (X → List V → ML → Prop) → Prop) (T0 : List V) (m0 : ML) (k : X → List V → ML → Prop) : Prop where
  ex : ∃ (wf : List Bool) (σ : Type) (sp : σ → List (Nat × V)) (mem : σ → ML) (ok : σ → Prop) (μ : σ → Nat), (∃ s0, ok s0 ∧ eqsK T0 (sp s0) ∧ memsEq m0 (mem s0)) ∧
    (∀ s, nameT (mem s) (sets (hav T0 wf) (sp s)) = true ∧ nameM (mem s) (mem s) = true ∧ ∀ i, i < nl → (sem (mem s) (0, i)).isSome = true) ∧
    ∀ s, ok s → body (sets (hav T0 wf) (sp s)) (mem s) fun e T1 m1 => match e with
      | .normal => ∃ s', ok s' ∧ μ s' < μ s ∧ ∃ o, swapK o T1 m1 fun T1 m1 => keepL T1 wf = keepL T0 wf ∧ eqsK T1 (sp s') ∧ memsEq m1 (mem s')
      | .exit id => k (.exit id) T1 m1
      | .ret => k .ret T1 m1

/-- The first rounds one by one, then a loop. -/
def aRounds (nl : Nat) (wf : List Bool) (body : List V → ML → (X → List V → ML → Prop) → Prop) (k : X → List V → ML → Prop) : List (Option (Nm × Nm)) → List V → ML → Prop
  | [], T, m => ALoop0 nl wf body T m k
  | o :: r, T, m => body T m fun e T1 m1 => match e with
      | .normal => swapK o T1 m1 fun T1 m1 => aRounds nl wf body k r T1 m1
      | .exit id => k (.exit id) T1 m1
      | .ret => k .ret T1 m1
structure ALoop (nl : Nat) (wf : List Bool) (body : List V → ML → (X → List V → ML → Prop) → Prop) (T0 : List V) (m0 : ML) (k : X → List V → ML → Prop) : Prop where
  ex : ∃ os, aRounds nl wf body k os T0 m0

/-! A name that is taken is made free again, if nothing hangs on it. -/
def isNew : AOp → Bool
  | .nilS _ _ | .alloc _ _ | .box _ | .build _ _ _ | .bslice _ _ _ | .mks _ _ _ _ _ | .call _ _ | .callc _ _ | .mkm | .rng _ | .nilC _ | .bsliceC _ _ => true
  | _ => false
def newD : List It → List Nat
  | [] => []
  | .op (some d) _ o :: r => match isNew o with
    | true => d :: newD r
    | false => newD r
  | .op none _ _ :: r => newD r
  | .split _ :: r => newD r
  | .nxt _ _ :: r => newD r
def inD (d : Nat) : List Nat → Bool
  | [] => false
  | e :: r => match Nat.beq d e with
    | true => true
    | false => inD d r
def hitD (ds : List Nat) : ML → Bool
  | [] => false
  | (n, _) :: r => match inD n.1 ds with
    | true => true
    | false => hitD ds r
def anyK (ds : List Nat) : Nat → List V → (List V → Prop) → Prop
  | _, [], k => k []
  | i, x :: T, k => match inD i ds with
    | true => anyK ds (i + 1) T fun T' => k (.c .any :: T')
    | false => anyK ds (i + 1) T fun T' => k (x :: T')
def dropM (ds : List Nat) : ML → (ML → Prop) → Prop
  | [], k => k []
  | (n, b) :: r, k => match inD n.1 ds with
    | true => dropM ds r k
    | false => dropM ds r fun r' => k ((n, b) :: r')
def lentB (m : ML) : Nat → Bool
  | 0 => true
  | n + 1 => match (sem m (0, n)).isSome with
    | true => lentB m n
    | false => false
def forgetK (nl : Nat) (its : List It) (T : List V) (m : ML) (k : List V → ML → Prop) : Prop := match hitD (newD its) m with
  | false => k T m
  | true => anyK (newD its) 0 T fun T' => dropM (newD its) m fun m' => guardK (nameT m' T') (guardK (nameM m' m') (guardK (lentB m' nl) (k T' m')))
theorem anyK_ex {ds : List Nat} : ∀ {T : List V} {i : Nat} {k : List V → Prop}, anyK ds i T k → ∃ T', k T' ∧ T'.length = T.length ∧ ∀ (j : Nat) x, T'[j]? = some x → x = .c .any ∨ T[j]? = some x
  | [], i, k, h => ⟨_, h, rfl, fun j x hx => by simp at hx⟩
  | y :: T, i, k, h => by
    simp only [anyK] at h
    split at h
    · obtain ⟨T', h1, h2, h3⟩ := anyK_ex h
      refine ⟨_, h1, by simp [h2], fun j x hx => ?_⟩
      cases j with
      | zero => simp at hx; exact .inl hx.symm
      | succ j => simpa using h3 j x (by simpa using hx)
    · obtain ⟨T', h1, h2, h3⟩ := anyK_ex h
      refine ⟨_, h1, by simp [h2], fun j x hx => ?_⟩
      cases j with
      | zero => simp at hx; exact .inr (by simp [hx])
      | succ j => simpa using h3 j x (by simpa using hx)
theorem dropM_ex {ds : List Nat} : ∀ {m : ML} {k : ML → Prop}, dropM ds m k → ∃ m', k m' ∧ ∀ n b, sem m' n = some b → inD n.1 ds = false ∧ sem m n = some b
  | [], k, h => ⟨_, h, fun n b hn => by cases hn⟩
  | (q, c) :: r, k, h => by
    simp only [dropM] at h
    split at h
    · rename_i hq
      obtain ⟨m', h1, h2⟩ := dropM_ex h
      refine ⟨_, h1, fun n b hn => ?_⟩
      obtain ⟨h3, h4⟩ := h2 n b hn
      refine ⟨h3, ?_⟩
      simp only [sem]
      cases hb : nmB q n with
      | true => rw [nmB_iff.1 hb, h3] at hq; cases hq
      | false => exact h4
    · rename_i hq
      obtain ⟨m', h1, h2⟩ := dropM_ex h
      refine ⟨_, h1, fun n b hn => ?_⟩
      simp only [sem] at hn ⊢
      cases hb : nmB q n with
      | true => rw [hb] at hn; rw [← nmB_iff.1 hb]; exact ⟨by simpa using hq, hn⟩
      | false => rw [hb] at hn; exact h2 n b hn
theorem lentB_iff {m : ML} : ∀ {nl : Nat}, lentB m nl = true → ∀ i, i < nl → (sem m (0, i)).isSome = true
  | 0, _, i, hi => absurd hi (Nat.not_lt_zero i)
  | n + 1, h, i, hi => by
    simp only [lentB] at h
    split at h
    · rename_i h1
      by_cases e : i = n
      · subst e; exact h1
      · exact lentB_iff h i (by omega)
    · cases h
theorem forget_ex {nl : Nat} {its : List It} {T : List V} {m : ML} {k : List V → ML → Prop} (h : forgetK nl its T m k) : k T m ∨ ∃ T' m', Weak nl T m T' m' ∧ k T' m' := by
  unfold forgetK at h
  split at h
  · exact .inl h
  · right
    obtain ⟨T', h1, h2, h3⟩ := anyK_ex h
    obtain ⟨m', h4, h5⟩ := dropM_ex h1
    obtain ⟨g1, h4⟩ := guardK_iff.1 h4
    obtain ⟨g2, h4⟩ := guardK_iff.1 h4
    obtain ⟨g3, h4⟩ := guardK_iff.1 h4
    exact ⟨T', m', ⟨h2, h3, fun n b hn => (h5 n b hn).2, g1, nameM_iff g2, lentB_iff g3⟩, h4⟩

def wpA (P : Program) (nl : Nat) : AC → List V → ML → (X → List V → ML → Prop) → Prop
  | .skip, T, m, k => k .normal T m
  | .reg its, T, m, k => forgetK nl its T m fun T m => runIt P its T m fun T' m' => k .normal T' m'
  | .dreg raft its, T, m, k => forgetK nl its T m fun T m => runD P its [] T m fun lg T' m' => chk raft lg = true ∧ k .normal T' m'
  | .seq a b, T, m, k => wpA P nl a T m fun e T' m' => match e with
    | .normal => wpA P nl b T' m' k
    | .exit id => k (.exit id) T' m'
    | .ret => k .ret T' m'
  | .cond c a b, T, m, k => evK T c fun
    | .c (.pv (.bool t)) => (t = true → wpA P nl a T m k) ∧ (t = false → wpA P nl b T m k)
    | _ => False
  | .block id a, T, m, k => wpA P nl a T m fun e T' m' => match e with
    | .normal => k .normal T' m'
    | .exit i => match Nat.beq i id with
      | true => k .normal T' m'
      | false => k (.exit i) T' m'
    | .ret => k .ret T' m'
  | .loop wf a, T, m, k => ALoop nl wf (fun T m k => wpA P nl a T m k) T m k
  | .exit id, T, m, k => k (.exit id) T m
  | .ret, T, m, k => k .ret T m

/-! ### from Go's code -/
def nextOf (o : Oper) : Option Opd := match o.op with
  | .next x false => copd x
  | _ => none
def cits (P : Program) (ops : Array Oper) : List Nat → List Oper → Option (List It)
  | _, [] => some []
  | sp, o :: r => match cop P (o.dst.getD 0) o, o.guard with
    | some ao, none => (cits P ops sp r).map (.op o.dst none ao :: ·)
    | some ao, some (j, want) => match (ops[j]?).bind (·.dst) with
      | some t => if sp.contains t then (cits P ops sp r).map (.op o.dst (some (t, want)) ao :: ·)
        else (cits P ops (t :: sp) r).map fun l => .split t :: .op o.dst (some (t, want)) ao :: l
      | none => none
    | none, none => match nextOf o with
      | some x => (cits P ops sp r).map (.nxt o.dst x :: ·)
      | none => none
    | none, some _ => none
def dsts : List It → List Nat
  | [] => []
  | .op (some d) _ _ :: r => d :: dsts r
  | .op none _ _ :: r => dsts r
  | .split t :: r => t :: dsts r
  | .nxt (some d) _ :: r => d :: dsts r
  | .nxt none _ :: r => dsts r
def writes : AC → List Nat
  | .reg its => dsts its
  | .dreg _ its => dsts its
  | .seq a b | .cond _ a b => writes a ++ writes b
  | .block _ a | .loop _ a => writes a
  | _ => []
/-- Which temporaries a code writes. -/
def flags (l : List Nat) : List Bool := (List.range (l.foldl max 0 + 1)).map fun i => l.contains i
/-- The edges that bind, each from an earlier operation: from the last operation to the first. -/
def edges (o : Oper) : List Nat := (o.after.toList.filter fun e => Region.binds .any e).map (·.on)
def edgesOk : Nat → List Oper → Bool
  | _, [] => true
  | i, o :: r => (edges o).all (· < i) && edgesOk (i + 1) r
def ccode (P : Program) : Code → Option AC
  | .skip => some .skip
  | .region _ ops draw => if draw then (if P.follows .mixedOrders && edgesOk 0 ops.toList then (cits P ops [] ops.toList).map (.dreg (ops.toList.map edges).reverse) else none) else (cits P ops [] ops.toList).map .reg
  | .seq a b => match ccode P a, ccode P b with
    | some a, some b => some (.seq a b)
    | _, _ => none
  | .cond c a b => match copd c, ccode P a, ccode P b with
    | some c, some a, some b => some (.cond c a b)
    | _, _, _ => none
  | .block id a => (ccode P a).map (.block id)
  | .loop a => match ccode P a with
    | some a => some (.loop (flags (writes a)) a)
    | none => none
  | .exit id => some (.exit id)
  | .ret => some .ret
  | _ => none

section
variable {P : Program} {w0 : World} {F : Nat → Prop} {pins : List (C × Value)} {w : World} {T : List V} {m : ML} {a : Act} {Q : Exit → Act → World → Prop} {ops : Array Oper}

theorem effK_ex {eff : Eff} {k : ML → Prop} (h : effK eff m k) : eff.ok (sem m) ∧ ∃ m', sem m' = eff.app (sem m) ∧ k m' := by
  cases eff with
  | non => exact ⟨trivial, m, rfl, h⟩
  | new l =>
    have : ∀ (l : ML) (m : ML), newK l m k → okN l (sem m) ∧ ∃ m', sem m' = appN l (sem m) ∧ k m' := by
      intro l
      induction l with
      | nil => intro m h; exact ⟨trivial, m, rfl, h⟩
      | cons p r ih =>
        obtain ⟨n, b⟩ := p
        intro m h
        obtain ⟨m', h1, h2, h3⟩ := insK_sem h
        obtain ⟨h4, m2, h5, h6⟩ := ih m' h3
        rw [h1] at h4 h5
        exact ⟨⟨h2, h4⟩, m2, h5, h6⟩
    exact this l m h
  | upd n b =>
    obtain ⟨m', h1, h2, h3⟩ := updK_sem h
    exact ⟨h2, m', h1, h3⟩
  | lent us l =>
    have news : ∀ (l : ML) (m : ML), newK l m k → okN l (sem m) ∧ ∃ m', sem m' = appN l (sem m) ∧ k m' := by
      intro l
      induction l with
      | nil => intro m h; exact ⟨trivial, m, rfl, h⟩
      | cons p r ih =>
        obtain ⟨n, b⟩ := p
        intro m h
        obtain ⟨m', h1, h2, h3⟩ := insK_sem h
        obtain ⟨h4, m2, h5, h6⟩ := ih m' h3
        rw [h1] at h4 h5
        exact ⟨⟨h2, h4⟩, m2, h5, h6⟩
    have upds : ∀ (us : ML) (m : ML) (k : ML → Prop), updsK us m k → okU us (sem m) ∧ ∃ m', sem m' = appN us (sem m) ∧ k m' := by
      intro us
      induction us with
      | nil => intro m k h; exact ⟨trivial, m, rfl, h⟩
      | cons p r ih =>
        obtain ⟨n, b⟩ := p
        intro m k h
        obtain ⟨m', h1, h2, h3⟩ := updK_sem h
        obtain ⟨h4, m2, h5, h6⟩ := ih m' k h3
        rw [h1] at h4 h5
        exact ⟨⟨h2, h4⟩, m2, h5, h6⟩
    obtain ⟨h1, m1, h2, h3⟩ := upds us m _ h
    obtain ⟨h4, m2, h5, h6⟩ := news l m1 h3
    rw [h2] at h4 h5
    exact ⟨⟨h1, h4⟩, m2, h5, h6⟩

theorem TRel.mono {G G' : Gh} {M M' : Mem} (h : TRel w0 F G M T a) (hm : ∀ x u, ConcC w0 F G M x u → ConcC w0 F G' M' x u) : TRel w0 F G' M' T a :=
  ⟨h.size, h.defers, fun i x hx => let ⟨v, h1, h2⟩ := h.tm i x hx; ⟨v, h1, h2.mono hm⟩⟩
theorem TRel.set {G : Gh} {M : Mem} (h : TRel w0 F G M T a) {d : Nat} {x : V} {v : Value} (hv : ConcV w0 F G M x v) : TRel w0 F G M (T.set d x) (a.put (some d) v) :=
  ⟨by simp [Act.put, h.size], h.defers, fun i y hy => by
    simp only [Act.put]
    by_cases e : d = i
    · subst e
      rw [List.getElem?_set] at hy
      split at hy
      · split at hy
        · rename_i hlt
          simp only [Option.some.injEq] at hy
          subst hy
          exact ⟨v, by simp [h.size, hlt], hv⟩
        · cases hy
      · rename_i hne; exact absurd rfl hne
    · rw [List.getElem?_set_ne e] at hy
      obtain ⟨u, h1, h2⟩ := h.tm i y hy
      exact ⟨u, by rw [Array.getElem?_setIfInBounds_ne e]; exact h1, h2⟩⟩
theorem putK_ex {dst : Option Nat} {x : V} {k : List V → Prop} (h : putK dst x T k) : ∃ T', k T' ∧ ∀ {G : Gh} {M : Mem} {a : Act} {v : Value}, TRel w0 F G M T a → ConcV w0 F G M x v → TRel w0 F G M T' (a.put dst v) := by
  cases dst with
  | none => exact ⟨T, h, fun hT _ => hT⟩
  | some d =>
    obtain ⟨_, h2⟩ := setK_iff.1 h
    exact ⟨_, h2, fun hT hv => hT.set hv⟩

theorem lookK_S (m : ML) : lookK m = lookS (sem m) := by
  funext n k
  exact propext lookK_iff

/-- One operation that is carried out. -/
theorem step_sound {o : Oper} {ao : AOp} {d : Nat} (hc : cop P d o = some ao) {k : List V → ML → Prop} (h : opA P d T (lookK m) (fun res eff _ => effK eff m fun m' => putK o.dst res T fun T' => k T' m') ao) (hR : RelS w0 F pins T m a w) {K : Act → World → Prop}
    (hK : ∀ T' m' a' w', k T' m' → RelS w0 F pins T' m' a' w' → K a' w') : o.wp P a w K Q := by
  rw [lookK_S] at h
  obtain ⟨res, eff, rd, h1, h2⟩ := cop_sound hc h
  obtain ⟨h3, m', h4, h5⟩ := effK_ex h1
  obtain ⟨T', h6, h7⟩ := putK_ex (w0 := w0) (F := F) h5
  obtain ⟨G, r1, r2, r3⟩ := hR
  refine h2 w0 F G (sem m) T (fun _ _ => rfl) (fun _ _ => rfl) h3 a w K Q r1 r2 fun v w' G' q1 q2 q3 => ?_
  rw [← h4] at q1 q2 q3
  exact hK _ _ _ _ h6 ⟨G', q1, h7 (r2.mono q2) q3, fun p hp => q2 _ _ (r3 p hp)⟩

def isB (want : Bool) : Value → Bool
  | .bool b => b == want
  | _ => false
theorem wanted_eq {j t : Nat} {want : Bool} {o : Oper} (hg : o.guard = some (j, want)) (hj : (ops[j]?).bind (·.dst) = some t) {v : Value} (hv : a.tmps[t]? = some v) : Region.wanted o (yielded ops a.tmps) = isB want v := by
  unfold Region.wanted yielded
  rw [hg]
  simp only [hj, Option.bind_some, hv]
  cases v <;> simp [isB]

/-- The next entry of a map. -/
theorem next_sound {o : Oper} {x : Operand} {x' : Opd} (ho : o.op = .next x false) (hx : copd x = some x') {k : List V → ML → Prop} (h : nxtK o.dst x' T m k) (hR : RelS w0 F pins T m a w) {K : Act → World → Prop}
    (hK : ∀ T' m' a' w', k T' m' → RelS w0 F pins T' m' a' w' → K a' w') : o.wp P a w K Q := by
  obtain ⟨u1, h1, hv1⟩ := evK_ex hx h
  split at h1
  case h_2 => exact h1.elim
  rename_i n
  obtain ⟨b1, hb1, h1⟩ := lookK_iff.1 h1
  split at h1
  case h_2 => exact h1.elim
  rename_i q since seen c0
  obtain ⟨b2, hb2, h1⟩ := lookK_iff.1 h1
  split at h1
  case h_2 => exact h1.elim
  rename_i clock l
  obtain ⟨⟨c1, c2⟩, c3, c4⟩ := h1
  obtain ⟨G, r1, r2, r3⟩ := hR
  obtain ⟨Bm, es, e1, e2, e3, e4⟩ := mp_of r1 hb2
  obtain ⟨B, Bm', f1, f2, f3, f4⟩ := r1.own n _ hb1
  obtain rfl : Bm' = Bm := by
    have := f3.1.trans e1
    simpa using this
  have ex : a.eval x = .pointer (some ⟨B, 0, none⟩) := ((hv1 w0 F G (sem m) T a (fun _ _ => rfl) r2).1).trans f1
  have hB : B < w.heap.size := (Array.getElem?_eq_some_iff.1 f4).1
  have mem : ∀ e ∈ es.toList, ∃ p ∈ l, entM e = entI p := fun e he => by
    have : entM e ∈ es.toList.map entM := List.mem_map.2 ⟨e, he, rfl⟩
    rw [e4] at this
    obtain ⟨p, hp, hpe⟩ := List.mem_map.1 this
    exact ⟨p, hp, hpe.symm⟩
  have memi : ∀ p ∈ l, ∃ e ∈ es.toList, entM e = entI p := fun p hp => by
    have : entI p ∈ l.map entI := List.mem_map.2 ⟨p, hp, rfl⟩
    rw [← e4] at this
    obtain ⟨e, he, hpe⟩ := List.mem_map.1 this
    exact ⟨e, he, hpe⟩
  have born : ∀ (e : MapEntry) p, entM e = entI p → e.born = p.2.2 ∧ e.key = .int .i64 p.1 ∧ e.val = p.2.1 := fun e p h => by
    obtain ⟨q1, h⟩ := Prod.mk.inj h
    obtain ⟨q2, q3⟩ := Prod.mk.inj h
    exact ⟨q3, q1, q2⟩
  have hold : ∀ e ∈ es.toList, e.born < since := fun e he => by
    obtain ⟨p, hp, hpe⟩ := mem e he
    rw [(born e p hpe).1]
    exact c1 p hp
  have key := run_next_at (P := P) w o.type B Bm' since c0 seen.toArray es clock f4 e3 hold c2
  rcases key with ⟨g1, g2⟩ | ⟨e, he, w1, g1, g2⟩
  · have hall : ∀ p ∈ l, p.2.2 ∈ seen := fun p hp => by
      obtain ⟨e, he, hpe⟩ := memi p hp
      rw [← (born e p hpe).1]
      have := g1 e he
      simpa using this
    obtain ⟨T', h6, h7⟩ := putK_ex (w0 := w0) (F := F) (c3 hall)
    refine wp_value (v := .tuple #[.bool false]) (w' := w) (by simp [execOp, ho, ex, g2]) (hK _ _ _ _ h6 ⟨G, r1, h7 r2 ?_, r3⟩)
    exact ⟨_, rfl, rfl, fun j p hj => by
      match j, hj with
      | 0, hj => simp at hj; subst hj; exact ⟨_, rfl, _, rfl, rfl⟩
      | j + 1, hj => simp at hj⟩
  · obtain ⟨he1, he2⟩ := he
    obtain ⟨p, hp, hpe⟩ := mem e he1
    obtain ⟨b1', b2', b3'⟩ := born e p hpe
    have hns : p.2.2 ∉ seen := by rw [← b1']; simpa using he2
    obtain ⟨m', q1, q2, q3⟩ := updK_sem (c4 p ⟨hp, hns⟩)
    obtain ⟨T', h6, h7⟩ := putK_ex (w0 := w0) (F := F) q3
    have hturn : Turns (.it q since seen c0) (.it q since (seen ++ [p.2.2]) clock) (G n) (G n) := rfl
    have hRel : Rel w0 F (G.set n (G n)) ((sem m).set n (.it q since (seen ++ [p.2.2]) clock)) { w1 with heap := w1.heap.setIfInBounds B (.mapIter (some Bm') since (seen.toArray.push e.born) clock) } := by
      have hh : w1.heap = w.heap := g1.1
      refine r1.upd hb1 hturn g1.2.1 g1.2.2.1 g1.2.2.2 (by simp [hh]) (fun k hk hlt => ?_) (fun B' hB' => .inl hB') ⟨B, Bm', f1, f2, ConcC.upd (x := .ref q) hb1 hturn f3, ?_⟩
      · have : k ≠ B := fun e => hk (by rw [e, f1]; rfl)
        simp only
        rw [Array.getElem?_setIfInBounds_ne (by omega), hh]
      · simp [hh, hB, b1']
    rw [← q1] at hRel
    refine wp_value (v := .tuple #[.bool true, e.key, e.val]) (w' := { w1 with heap := w1.heap.setIfInBounds B (.mapIter (some Bm') since (seen.toArray.push e.born) clock) }) (by simp [execOp, ho, ex, g2]) (hK _ _ _ _ h6 ⟨_, hRel, h7 (r2.mono fun x u hx => ?_) ?_, fun pn hpin => ?_⟩)
    · rw [q1]; exact hx.upd hb1 hturn
    · exact ⟨_, rfl, rfl, fun j p' hj => by
        match j, hj with
        | 0, hj => simp at hj; subst hj; exact ⟨_, rfl, _, rfl, rfl⟩
        | 1, hj => simp at hj; subst hj; exact ⟨_, rfl, _, rfl, b2'⟩
        | 2, hj => simp at hj; subst hj; exact ⟨_, rfl, _, rfl, b3'⟩
        | j + 3, hj => simp at hj⟩
    · rw [q1]; exact (r3 pn hpin).upd hb1 hturn

theorem runIt_sound : ∀ (l : List Oper) {sp : List Nat} {its : List It} {T : List V} {m : ML} {a : Act} {w : World} {k : List V → ML → Prop}, cits P ops sp l = some its → runIt P its T m k → RelS w0 F pins T m a w →
    (∀ T' m' a' w', k T' m' → RelS w0 F pins T' m' a' w' → Q .normal a' w') → wpList P ops Q l a w
  | [], sp, its, T, m, a, w, k, hc, h, hR, hk => by
    simp only [cits, Option.some.injEq] at hc
    subst hc
    exact hk _ _ _ _ h hR
  | o :: r, sp, its, T, m, a, w, k, hc, h, hR, hk => by
    simp only [cits] at hc
    split at hc
    · rename_i ao hao hg
      obtain ⟨its', hr, rfl⟩ := oneOpt hc
      unfold wpList
      rw [if_pos (by simp [Region.wanted, hg])]
      exact .inl (step_sound hao h hR fun T' m' a' w' h' hR' => runIt_sound r hr h' hR' hk)
    · rename_i ao j want hao hg
      split at hc
      · rename_i t ht
        -- the guarded operation itself
        have guarded : ∀ (its' : List It) (sp' : List Nat) (T : List V) (a : Act), cits P ops sp' r = some its' → RelS w0 F pins T m a w → runIt P (.op o.dst (some (t, want)) ao :: its') T m k → wpList P ops Q (o :: r) a w := fun its' sp' T a hr hR h => by
          have skip : ∀ (v : Value) (u : V), T[t]? = some u → a.tmps[t]? = some v → isB want v = false → (putK o.dst (.c (.pv undef)) T fun T' => runIt P its' T' m k) → wpList P ops Q (o :: r) a w := fun v u _ hv hw h => by
            unfold wpList
            rw [if_neg (by rw [wanted_eq hg ht hv, hw]; simp)]
            obtain ⟨T', h1, h2⟩ := putK_ex (w0 := w0) (F := F) h
            obtain ⟨G, r1, r2, r3⟩ := hR
            exact runIt_sound r hr h1 ⟨G, r1, h2 r2 rfl, r3⟩ hk
          have run : ∀ (v : Value), a.tmps[t]? = some v → isB want v = true → (opA P (o.dst.getD 0) T (lookK m) (fun res eff _ => effK eff m fun m' => putK o.dst res T fun T' => runIt P its' T' m' k) ao) → wpList P ops Q (o :: r) a w := fun v hv hw h => by
            unfold wpList
            rw [if_pos (by rw [wanted_eq hg ht hv, hw])]
            exact .inl (step_sound hao h hR fun T' m' a' w' h' hR' => runIt_sound r hr h' hR' hk)
          have at_ : ∀ u, T[t]? = some u → ∃ v, a.tmps[t]? = some v ∧ ∀ x, u = .c (.pv x) → v = x := fun u hu => by
            obtain ⟨G, r1, r2, r3⟩ := hR
            obtain ⟨v, q1, q2⟩ := r2.tm t u hu
            exact ⟨v, q1, fun x e => by subst e; exact q2⟩
          cases want with
          | true =>
            obtain ⟨u, hu, h⟩ := getK_iff.1 h
            obtain ⟨v, hv, hx⟩ := at_ u hu
            split at h
            · obtain rfl := hx _ rfl; exact run _ hv rfl h
            · obtain rfl := hx _ rfl; exact skip _ _ hu hv rfl h
            · obtain rfl := hx _ rfl; exact skip _ _ hu hv rfl h
            · exact h.elim
          | false =>
            obtain ⟨u, hu, h⟩ := getK_iff.1 h
            obtain ⟨v, hv, hx⟩ := at_ u hu
            split at h
            · obtain rfl := hx _ rfl; exact run _ hv rfl h
            · obtain rfl := hx _ rfl; exact skip _ _ hu hv rfl h
            · obtain rfl := hx _ rfl; exact skip _ _ hu hv rfl h
            · exact h.elim
        split at hc
        · obtain ⟨its', hr, rfl⟩ := oneOpt hc
          exact guarded its' sp T a hr hR h
        · obtain ⟨its', hr, rfl⟩ := oneOpt hc
          obtain ⟨u, hu, h⟩ := getK_iff.1 h
          split at h
          · rename_i b
            -- the truth value is laid down
            have lay : ∀ c, b = c → (setK T t (.c (.pv (.bool c))) fun T' => runIt P (.op o.dst (some (t, want)) ao :: its') T' m k) → wpList P ops Q (o :: r) a w := fun c e h => by
              subst e
              obtain ⟨hlt, h⟩ := setK_iff.1 h
              have : T.set t (.c (.pv (.bool b))) = T := by
                apply List.ext_getElem?
                intro i
                by_cases e : t = i
                · subst e; rw [List.getElem?_set_self hlt, hu]
                · rw [List.getElem?_set_ne e]
              rw [this] at h
              exact guarded its' _ T a hr hR h
            cases b with
            | true => exact lay true rfl (h.1 rfl)
            | false => exact lay false rfl (h.2 rfl)
          · exact guarded its' _ T a hr hR h
          · exact h.elim
      · cases hc
    · rename_i hg
      split at hc
      · rename_i x' hx'
        obtain ⟨its', hr, rfl⟩ := oneOpt hc
        unfold wpList
        rw [if_pos (by simp [Region.wanted, hg])]
        refine .inl ?_
        have hn : ∃ x, o.op = .next x false ∧ copd x = some x' := by
          unfold nextOf at hx'
          split at hx'
          · exact ⟨_, by assumption, hx'⟩
          · cases hx'
        obtain ⟨x, ho, hx⟩ := hn
        exact next_sound ho hx h hR fun T' m' a' w' h' hR' => runIt_sound r hr h' hR' hk
      · cases hc
    · cases hc
end
end Go.Proofs.Ytfbadfnhnaaeeaa
