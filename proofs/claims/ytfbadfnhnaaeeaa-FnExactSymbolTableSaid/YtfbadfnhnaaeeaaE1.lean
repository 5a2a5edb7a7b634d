/- The abstract machine: how its values and memory stand for Go's, contracts of functions, one operation. -/
import Derived.Test.YtfbadfnhnaaeeaaE0
namespace Go.Proofs.Ytfbadfnhnaaeeaa
set_option linter.unusedSimpArgs false
set_option linter.unusedVariables false
open Go.RowKit

abbrev Gh := Nm → Value

/-- A slice that only is read. -/
def ViewOk (w0 : World) (F : Nat → Prop) (sz : Nat) (l : List (List Value)) (x : Value) : Prop :=
  ∃ a cap, x = .slice a l.length cap ∧ l.length ≤ cap ∧ (∀ r ∈ l, r.length = sz) ∧ (∀ r ∈ l, ∀ v ∈ r, v.oneCell' = true) ∧
      (l ≠ [] → ∃ b o, a = some ⟨b, o, none⟩ ∧ F b ∧ ∀ i r j v, l[i]? = some r → r[j]? = some v → w0.cell? ⟨b, o + i * sz + j, none⟩ = some v)
def Blk.isRef : Blk → Bool
  | .mp _ _ => true
  | .it _ _ _ _ => true
  | _ => false
/-- What a cell stands for. w0: the world at the entry; F: the blocks that nobody writes; G: where the own names lie. -/
def ConcC (w0 : World) (F : Nat → Prop) (G : Gh) (M : Mem) : C → Value → Prop
  | .any, _ => True
  | .pv v, x => x = v
  | .ptr n j, x => ∃ B, G n = .pointer (some ⟨B, 0, none⟩) ∧ x = .pointer (some ⟨B, j, none⟩) ∧ ∃ l, M n = some (.bx l)
  | .eptr n len i j, x => ∃ b sz L, M n = some b ∧ arrB b = some (sz, L) ∧ len ≤ L ∧ (∃ a, x = .pointer (some a)) ∧
      (len = L → ∃ B m cap, G n = .slice (some ⟨B, 0, none⟩) m cap ∧ x = .pointer (some ⟨B, i * sz + j, none⟩))
  | .slc n len, x => ∃ b sz L, M n = some b ∧ arrB b = some (sz, L) ∧ len ≤ L ∧ (∃ a cap, x = .slice a len cap) ∧ (len = L → x = G n)
  | .view sz l, x => ∃ a cap, x = .slice a l.length cap ∧ l.length ≤ cap ∧ (∀ r ∈ l, r.length = sz) ∧ (∀ r ∈ l, ∀ v ∈ r, v.oneCell' = true) ∧
      (l ≠ [] → ∃ b o, a = some ⟨b, o, none⟩ ∧ F b ∧ ∀ i r j v, l[i]? = some r → r[j]? = some v → w0.cell? ⟨b, o + i * sz + j, none⟩ = some v)
  | .vptr es j, x => ∃ b o, F b ∧ x = .pointer (some ⟨b, o + j, none⟩) ∧ ∀ j' v, es[j']? = some v → w0.cell? ⟨b, o + j', none⟩ = some v
  | .sub n len lo cnt, x => ∃ e sz l, M n = some (.fl e sz l) ∧ len ≤ l.length ∧ (∃ a cap, x = .slice a cnt cap) ∧
      (len = l.length → lo + cnt ≤ len ∧ (0 < cnt → ∃ B m cap cap', G n = .slice (some ⟨B, 0, none⟩) m cap ∧ x = .slice (some ⟨B, lo * sz, none⟩) cnt cap'))
  | .ref n, x => x = G n ∧ oneV x = true ∧ ∃ b, M n = some b ∧ b.isRef = true
  | .pvw v sz l, x => x = v ∧ ViewOk w0 F sz l v
  | .pview sz l, x => ∃ b o v, F b ∧ x = .pointer (some ⟨b, o, none⟩) ∧ w0.cell? ⟨b, o, none⟩ = some v ∧ ViewOk w0 F sz l v

def ConcCs (w0 : World) (F : Nat → Prop) (G : Gh) (M : Mem) (l : List C) (vs : List Value) : Prop :=
  vs.length = l.length ∧ ∀ (j : Nat) x, l[j]? = some x → ∃ v, vs[j]? = some v ∧ ConcC w0 F G M x v
def Conc1 (w0 : World) (F : Nat → Prop) (G : Gh) (M : Mem) (p : Bool × List C) (v : Value) : Prop :=
  match p with
  | (false, l) => ∃ x, l = [x] ∧ ConcC w0 F G M x v
  | (true, l) => ∃ vs : Array Value, v = .agg vs ∧ ConcCs w0 F G M l vs.toList
def ConcV (w0 : World) (F : Nat → Prop) (G : Gh) (M : Mem) : V → Value → Prop
  | .c x, v => ConcC w0 F G M x v
  | .agg l, v => ∃ vs : Array Value, v = .agg vs ∧ ConcCs w0 F G M l vs.toList
  | .clo f l, v => ∃ vs : Array Value, v = .func (.func f) #[] vs ∧ ConcCs w0 F G M l vs.toList
  | .tup l, v => ∃ vs : Array Value, v = .tuple vs ∧ vs.size = l.length ∧ ∀ (j : Nat) p, l[j]? = some p → ∃ u, vs[j]? = some u ∧ Conc1 w0 F G M p u

def BOk (w0 : World) (F : Nat → Prop) (G : Gh) (M : Mem) (w : World) (g : Value) : Blk → Prop
  | .bx l => ∃ B c ety, g = .pointer (some ⟨B, 0, none⟩) ∧ ¬ F B ∧ w.heap[B]? = some (.cells c ety (0, 0)) ∧ ConcCs w0 F G M l c.toList
  | .fl e sz l => 0 < sz ∧ (∀ r ∈ l, r.length = sz) ∧ (∀ r ∈ l, ∀ v ∈ r, v.oneCell' = true) ∧ w.ownsRow 0 e sz g l.length l.flatten ∧ ∀ B, g.ownBlock = some B → ¬ F B
  | .mp clock l => ∃ B es, g = .map (some B) ∧ ¬ F B ∧ w.heap[B]? = some (.map es clock) ∧ es.toList.map (fun e => (e.key, e.val, e.born)) = l.map fun p => (.int .i64 p.1, p.2.1, p.2.2)
  | .cs e l => ∃ vs, ConcCs w0 F G M l vs ∧ (∀ v ∈ vs, v.oneCell' = true) ∧ w.ownsRow 0 e 1 g l.length vs ∧ ∀ B, g.ownBlock = some B → ¬ F B
  | .it n since seen c0 => ∃ B Bm, g = .pointer (some ⟨B, 0, none⟩) ∧ ¬ F B ∧ ConcC w0 F G M (.ref n) (.map (some Bm)) ∧ w.heap[B]? = some (.mapIter (some Bm) since seen.toArray c0)

def blkOf : Value → Option Nat
  | .slice (some a) _ _ => some a.block
  | .pointer (some a) => some a.block
  | .map (some b) => some b
  | _ => none

structure Rel (w0 : World) (F : Nat → Prop) (G : Gh) (M : Mem) (w : World) : Prop where
  bd : ∀ k, F k → k < w0.heap.size
  os : w.os = w0.os
  tape : w.tape = w0.tape
  output : w.output = w0.output
  size : w0.heap.size ≤ w.heap.size
  keep : ∀ k, F k → w.heap[k]? = w0.heap[k]?
  own : ∀ n b, M n = some b → BOk w0 F G M w (G n) b
  dist : ∀ n m B, M n ≠ none → M m ≠ none → blkOf (G n) = some B → blkOf (G m) = some B → n = m

/-- The memory of a list of blocks, under the names (0, 0), (0, 1), .. -/
def semL (l : List Blk) : Mem := fun n => match n.1 with
  | 0 => l[n.2]?
  | _ => none

/-- THE CONTRACT of a function: ms: blocks that are lent to it, args; its result, what the lent blocks hold behind it, new blocks. -/
def AFun (P : Program) (f : FuncId) (ms : List Blk) (args : List V) (res : V) (ms' news : List Blk) : Prop :=
  ms'.length = ms.length ∧ ∀ (w : World) (F : Nat → Prop) (G : Gh) (vs : List Value), Rel w F G (semL ms) w → (∀ k, k < w.heap.size → F k ∨ ∃ i, i < ms.length ∧ blkOf (G (0, i)) = some k) → vs.length = args.length →
    (∀ (j : Nat) x v, args[j]? = some x → vs[j]? = some v → ConcV w F G (semL ms) x v) →
    Calls P f vs.toArray w fun e w' => ∃ v G', e = .returned v ∧ Rel w F G' (semL (ms' ++ news)) w' ∧ ConcV w F G' (semL (ms' ++ news)) res v ∧
      (∀ i, i < ms.length → G' (0, i) = G (0, i)) ∧ ∀ i, ms.length ≤ i → ∀ B, blkOf (G' (0, i)) = some B → w.heap.size ≤ B

/-! ### arguments and results at a call -/
/-- Which of the blocks that are lent is this? -/
def lnIx : List Nm → Nm → Option Nat
  | [], _ => none
  | q :: r, n => match nmB q n with
    | true => some 0
    | false => match lnIx r n with
      | some i => some (i + 1)
      | none => none
section
variable (ln : List Nm) (look : Nm → (Blk → Prop) → Prop)
/-- A pointer to a box that is handed over to be read. -/
def boxK : List C → Nat → (C → Prop) → Prop
  | [.view sz v], 0, k => k (.pview sz v)
  | l, j, k => pvsK l fun es => k (.vptr es j)
def argCK : List C → (List C → List Nm → Prop) → Prop
  | [], k => k [] []
  | .slc n len :: r, k => match lnIx ln n with
    | some i => argCK r fun r' rd => k (.slc (0, i) len :: r') rd
    | none => look n fun
      | .fl _ sz l => len = l.length ∧ argCK r fun r' rd => k (.view sz l :: r') (n :: rd)
      | _ => False
  | .pv v :: r, k => argCK r fun r' rd => k (.pv v :: r') rd
  | .view sz l :: r, k => argCK r fun r' rd => k (.view sz l :: r') rd
  | .ptr n j :: r, k => match lnIx ln n with
    | some i => argCK r fun r' rd => k (.ptr (0, i) j :: r') rd
    | none => look n fun
      | .bx l => boxK l j fun c => argCK r fun r' rd => k (c :: r') (n :: rd)
      | _ => False
  | .vptr es j :: r, k => argCK r fun r' rd => k (.vptr es j :: r') rd
  | .pview sz l :: r, k => argCK r fun r' rd => k (.pview sz l :: r') rd
  | .pvw v sz l :: r, k => argCK r fun r' rd => k (.pvw v sz l :: r') rd
  | _ :: _, _ => False
def argVK : V → (V → List Nm → Prop) → Prop
  | .c x, k => argCK ln look [x] fun l rd => match l with
    | [y] => k (.c y) rd
    | _ => False
  | .agg l, k => argCK ln look l fun l' rd => k (.agg l') rd
  | .tup _, _ => False
  | .clo f l, k => argCK ln look l fun l' rd => k (.clo f l') rd
def argsK (T : List V) : List Opd → (List V → List Nm → Prop) → Prop
  | [], k => k [] []
  | x :: r, k => evK T x fun v => argVK ln look v fun v' rd => argsK T r fun vs rd' => k (v' :: vs) (rd ++ rd')
end
/-- A result's names (0, i) become (d, i), or the name that was lent. -/
def renI : List Nm → Nat → Nat → Nm
  | [], d, i => (d, i)
  | q :: _, _, 0 => q
  | _ :: r, d, i + 1 => renI r d i
def renN (lo : List Nm) (d : Nat) (n : Nm) : Nm := renI lo d n.2
def renCK (lo : List Nm) (d : Nat) : List C → (List C → Prop) → Prop
  | [], k => k []
  | .slc n len :: r, k => renCK lo d r fun r' => k (.slc (renN lo d n) len :: r')
  | .pv v :: r, k => renCK lo d r fun r' => k (.pv v :: r')
  | .any :: r, k => renCK lo d r fun r' => k (.any :: r')
  | _ :: _, _ => False
def renTK (lo : List Nm) (d : Nat) : List (Bool × List C) → (List (Bool × List C) → Prop) → Prop
  | [], k => k []
  | (b, l) :: r, k => renCK lo d l fun l' => renTK lo d r fun r' => k ((b, l') :: r')
def renK (lo : List Nm) (d : Nat) : V → (V → Prop) → Prop
  | .c x, k => renCK lo d [x] fun l => match l with
    | [y] => k (.c y)
    | _ => False
  | .agg l, k => renCK lo d l fun l' => k (.agg l')
  | .tup l, k => renTK lo d l fun l' => k (.tup l')
  | .clo _ _, _ => False
def newsK (lo : List Nm) (d : Nat) : Nat → List Blk → (ML → Prop) → Prop
  | _, [], k => k []
  | i, .fl e sz l :: r, k => newsK lo d (i + 1) r fun m => k (((d, i), .fl e sz l) :: m)
  | i, .cs e l :: r, k => renCK lo d l fun l' => newsK lo d (i + 1) r fun m => k (((d, i), .cs e l') :: m)
  | _, _ :: _, _ => False
/-- What was lent, with the caller's names. -/
def rnBsK (lo : List Nm) (d : Nat) : List Blk → (List Blk → Prop) → Prop
  | [], k => k []
  | .cs e l :: r, k => renCK lo d l fun l' => rnBsK lo d r fun r' => k (.cs e l' :: r')
  | .fl e sz l :: r, k => rnBsK lo d r fun r' => k (.fl e sz l :: r')
  | .bx l :: r, k => rnBsK lo d r fun r' => k (.bx l :: r')
  | _ :: _, _ => False
/-- What is lent, with the callee's names. -/
def lnCK (ln : List Nm) : List C → (List C → Prop) → Prop
  | [], k => k []
  | .slc n len :: r, k => match lnIx ln n with
    | some i => lnCK ln r fun r' => k (.slc (0, i) len :: r')
    | none => False
  | _ :: _, _ => False
def lnBsK (ln : List Nm) : List Blk → (List Blk → Prop) → Prop
  | [], k => k []
  | .cs e l :: r, k => lnCK ln l fun l' => lnBsK ln r fun r' => k (.cs e l' :: r')
  | .fl e sz l :: r, k => lnBsK ln r fun r' => k (.fl e sz l :: r')
  | .bx l :: r, k => lnBsK ln r fun r' => k (.bx l :: r')
  | _ :: _, _ => False

/-- The blocks that are lent. -/
def looksK (look : Nm → (Blk → Prop) → Prop) : List Nm → (List Blk → Prop) → Prop
  | [], k => k []
  | n :: r, k => look n fun b => looksK look r fun bs => k (b :: bs)
/-- No name hangs on this cell. -/
def freeC : C → Bool
  | .pv _ => true
  | .any => true
  | .pvw _ _ _ => true
  | _ => false
/-- How a lent box may turn. -/
def keepC1 : C → C → Prop
  | x, .pv _ => freeC x = true
  | x, .any => freeC x = true
  | x, .pvw v s u => x = .pvw v s u
  | _, _ => False
def keepCs : List C → List C → Prop
  | [], [] => True
  | x :: r, y :: r' => keepC1 x y ∧ keepCs r r'
  | _, _ => False
def keepBs : List Blk → List Blk → Prop
  | [], [] => True
  | .fl e sz _ :: r, .fl e' sz' _ :: r' => (e' = e ∧ sz' = sz) ∧ keepBs r r'
  | .bx l :: r, .bx l' :: r' => keepCs l l' ∧ keepBs r r'
  | .cs e _ :: r, .cs e' _ :: r' => e' = e ∧ keepBs r r'
  | _, _ => False
def zipN : List Nm → List Blk → ML
  | n :: r, b :: s => (n, b) :: zipN r s
  | _, _ => []
def nodupNm : List Nm → Bool
  | [] => true
  | n :: r => match lnIx r n with
    | some _ => false
    | none => nodupNm r
/-- A call by contract. ns: what is lent. -/
inductive ACall (P : Program) (d : Nat) (f : FuncId) (T : List V) (look : Nm → (Blk → Prop) → Prop) (xs : List Opd) (k : V → Eff → List Nm → Prop) : Prop where
  | mk (ns : List Nm) (args : List V) (rd : List Nm) (res : V) (bs bs' news : List Blk) (hns : nodupNm ns = true) (hf : AFun P f bs args res bs' news) (hl : looksK look ns fun l => lnBsK ns l fun l' => l' = bs)
      (ha : argsK ns look T xs fun a r => a = args ∧ r = rd) (hb : keepBs bs bs') (hk : renK ns d res fun r => rnBsK ns d bs' fun b2 => newsK ns d 0 news fun m => k r (.lent (zipN ns b2) m) (ns ++ rd)) : ACall P d f T look xs k

/-! ### function values -/
def capsK (T : List V) : List Opd → (List C → Prop) → Prop
  | [], k => k []
  | x :: r, k => evK T x fun
    | .c y => capsK T r fun us => k (y :: us)
    | _ => False
def isUser (P : Program) (f : FuncId) : Bool := match P.funcs[f]? with
  | some fn => fn.name != "runtime.NumGoroutine" && fn.body.isSome
  | none => false
/-- A call of a function value by contract. -/
inductive ACallC (P : Program) (d : Nat) (f : FuncId) (caps : List C) (T : List V) (look : Nm → (Blk → Prop) → Prop) (xs : List Opd) (k : V → Eff → List Nm → Prop) : Prop where
  | mk (ns : List Nm) (args : List V) (caps' : List C) (rd rd' : List Nm) (res : V) (bs bs' news : List Blk) (hns : nodupNm ns = true) (hf : AFun P f bs (args ++ caps'.map V.c) res bs' news) (hl : looksK look ns fun l => lnBsK ns l fun l' => l' = bs)
      (ha : argsK ns look T xs fun a r => a = args ∧ r = rd) (hc : argCK ns look caps fun c r => c = caps' ∧ r = rd') (hb : keepBs bs bs') (hk : renK ns d res fun r => rnBsK ns d bs' fun b2 => newsK ns d 0 news fun m => k r (.lent (zipN ns b2) m) (ns ++ (rd ++ rd'))) : ACallC P d f caps T look xs k

/-- A map's entries behind an update. -/
def mpC (clock : Nat) (l : List (Int × Value × Nat)) (a : Int) : Nat := if l.any (fun e => e.1 == a) then clock else clock + 1
def mpMod (a : Int) (u : Value) : List (Int × Value × Nat) → List (Int × Value × Nat)
  | [] => []
  | e :: r => if e.1 == a then (e.1, u, e.2.2) :: r else e :: mpMod a u r
def mpL (clock : Nat) (l : List (Int × Value × Nat)) (a : Int) (u : Value) : List (Int × Value × Nat) := if l.any (fun e => e.1 == a) then mpMod a u l else l ++ [(a, u, clock)]
def noneB : Option Nat → Bool
  | none => true
  | some _ => false
/-- ONE OPERATION. d: the temporary that it yields into; T: the temporaries; look: the memory. -/
def opA (P : Program) (d : Nat) (T : List V) (look : Nm → (Blk → Prop) → Prop) (k : V → Eff → List Nm → Prop) : AOp → Prop
  | .mv x => evK T x fun v => k v .non []
  | .nilS e sz => k (.c (.slc (d, 0) 0)) (.new [((d, 0), .fl e sz [])]) []
  | .pick c a b => evK T c fun
    | .c (.pv (.bool true)) => evK T a fun v => k v .non []
    | .c (.pv (.bool false)) => evK T b fun v => k v .non []
    | _ => False
  | .alloc cells nils => k (.c (.ptr (d, 0) 0)) (.new (nils ++ [((d, 0), .bx cells)])) []
  | .box x => evK T x fun v => cellsK v fun l => k (.c (.ptr (d, 0) 0)) (.new [((d, 0), .bx l)]) []
  | .build cells nils parts => partsK T parts cells fun l => k (.agg l) (.new nils) []
  | .bslice e sz parts => rowsK T sz parts fun rows => k (.c (.slc (d, 0) parts.length)) (.new [((d, 0), .fl e sz rows)]) []
  | .load s x => evK T x fun
    | .c (.ptr n j) => look n fun
      | .bx l => loadC s l j fun v => k v .non [n]
      | _ => False
    | .c (.eptr n len i j) => look n fun
      | .fl _ _ l => len = l.length ∧ ∃ es, l[i]? = some es ∧ loadV s es j fun v => k v .non [n]
      | .cs _ l => len = l.length ∧ guardK (noneB s) (j = 0 ∧ ∃ c, l[i]? = some c ∧ k (.c c) .non [n])
      | _ => False
    | .c (.vptr es j) => loadV s es j fun v => k v .non []
    | .c (.pview sz l) => guardK (noneB s) (k (.c (.view sz l)) .non [])
    | _ => False
  | .store s x y => evK T x fun
    | .c (.ptr n j) => look n fun
      | .bx l => evK T y fun v => cellsK v fun ys => guardK (sizeB s ys.length) (spliceK ys l j fun l' => k (.c (.pv undef)) (.upd n (.bx l')) [n])
      | _ => False
    | .c (.eptr n len i j) => look n fun
      | .fl e sz l => evK T y fun v => valsK v fun ys => guardK (sizeB s ys.length) (len = l.length ∧ ∃ es, l[i]? = some es ∧ spliceK ys es j fun es' => k (.c (.pv undef)) (.upd n (.fl e sz (l.set i es'))) [n])
      | _ => False
    | _ => False
  | .bin op x y => evK T x fun vx => evK T y fun vy => binK op (fun v => k (.c (.pv v)) .non []) vx vy
  | .binB ng x y => evK T x fun vx => evK T y fun vy => match vx, vy with
    | .c (.pv (.bool a)), .c (.pv (.bool b)) => match ng with
      | true => k (.c (.pv (.bool (a != b)))) .non []
      | false => k (.c (.pv (.bool (a == b)))) .non []
    | _, _ => False
  | .eqS ng n x y => evK T x fun vx => evK T y fun vy => aggK vx fun lx => aggK vy fun ly => guardK (Nat.beq lx.length n) (eqK lx ly fun c => match ng with
    | true => k (.c (.pv (.bool (!c)))) .non []
    | false => k (.c (.pv (.bool c))) .non [])
  | .neg x => evK T x fun
    | .c (.pv (.int .i64 a)) => k (.c (.pv (.int .i64 (wrap64 (-a))))) .non []
    | _ => False
  | .not x => evK T x fun
    | .c (.pv (.bool b)) => k (.c (.pv (.bool (!b)))) .non []
    | _ => False
  | .faddr off x => evK T x fun
    | .c (.ptr n j) => k (.c (.ptr n (j + off))) .non []
    | .c (.eptr n len i j) => k (.c (.eptr n len i (j + off))) .non []
    | .c (.vptr es j) => k (.c (.vptr es (j + off))) .non []
    | _ => False
  | .fld off s x => evK T x fun
    | .agg l => guardK (okCs l) (loadC s l off fun v => k v .non [])
    | _ => False
  | .iaddrS sz x i => evK T x fun vx => evK T i fun
    | .c (.pv (.int .i64 iv)) => match vx with
      | .c (.slc n len) => look n fun
        | .fl _ sz' l => (0 ≤ iv ∧ iv < len) ∧ sz' = sz ∧ len = l.length ∧ k (.c (.eptr n len iv.toNat 0)) .non [n]
        | .cs _ l => (0 ≤ iv ∧ iv < len) ∧ 1 = sz ∧ len = l.length ∧ k (.c (.eptr n len iv.toNat 0)) .non [n]
        | _ => False
      | .c (.view sz' l) => (0 ≤ iv ∧ iv < l.length) ∧ sz' = sz ∧ ∃ es, l[iv.toNat]? = some es ∧ k (.c (.vptr es 0)) .non []
      | .c (.pvw _ sz' l) => (0 ≤ iv ∧ iv < l.length) ∧ sz' = sz ∧ ∃ es, l[iv.toNat]? = some es ∧ k (.c (.vptr es 0)) .non []
      | .c (.sub n len lo cnt) => look n fun
        | .fl _ sz' l => (0 ≤ iv ∧ iv < cnt) ∧ sz' = sz ∧ len = l.length ∧ k (.c (.eptr n len (lo + iv.toNat) 0)) .non [n]
        | _ => False
      | _ => False
    | _ => False
  | .iaddrA n sz x i => evK T x fun vx => evK T i fun
    | .c (.pv (.int .i64 iv)) => match vx with
      | .c (.ptr m j) => ∃ q : Nat, iv = q ∧ q < n ∧ k (.c (.ptr m (j + q * sz))) .non []
      | _ => False
    | _ => False
  | .idxA n sz s x i => evK T x fun vx => evK T i fun
    | .c (.pv (.int .i64 iv)) => match vx with
      | .agg l => ∃ q : Nat, iv = q ∧ q < n ∧ guardK (okCs l) (loadC s l (q * sz) fun v => k v .non [])
      | _ => False
    | _ => False
  | .ext x i => evK T x fun
    | .tup l => getK l i fun p => match p with
      | (false, [y]) => k (.c y) .non []
      | (true, l') => k (.agg l') .non []
      | _ => False
    | _ => False
  | .len x => evK T x fun
    | .c (.slc _ n) => k (.c (.pv (.int .i64 n))) .non []
    | .c (.view _ l) => k (.c (.pv (.int .i64 l.length))) .non []
    | .c (.pvw _ _ l) => k (.c (.pv (.int .i64 l.length))) .non []
    | .c (.sub _ _ _ cnt) => k (.c (.pv (.int .i64 cnt))) .non []
    | _ => False
  | .max2 x y => evK T x fun vx => evK T y fun vy => match vx, vy with
    | .c (.pv (.int .i64 a)), .c (.pv (.int .i64 b)) => k (.c (.pv (.int .i64 (max a b)))) .non []
    | _, _ => False
  | .app e sz bs x y => evK T x fun
    | .c (.slc n len) => look n fun
      | .fl e' sz' l => evK T y fun
        | .c (.slc m len2) => look m fun
          | .fl _ sz2 l2 => (e' = e ∧ sz' = sz ∧ sz2 = sz) ∧ len = l.length ∧ len2 = l2.length ∧ (l.length + l2.length) * bs ≤ 140737488355328 ∧ l.length + l2.length ≤ 140737488355328 ∧
              k (.c (.slc n (l.length + l2.length))) (.upd n (.fl e sz (l ++ l2))) [n, m]
          | _ => False
        | .c (.view sz2 l2) => (e' = e ∧ sz' = sz ∧ sz2 = sz) ∧ len = l.length ∧ (l.length + l2.length) * bs ≤ 140737488355328 ∧ l.length + l2.length ≤ 140737488355328 ∧
              k (.c (.slc n (l.length + l2.length))) (.upd n (.fl e sz (l ++ l2))) [n]
        | _ => False
      | .cs e' l => evK T y fun
        | .c (.slc m len2) => look m fun
          | .cs _ l2 => (e' = e ∧ sz = 1) ∧ len = l.length ∧ len2 = l2.length ∧ (l.length + l2.length) * bs ≤ 140737488355328 ∧ l.length + l2.length ≤ 140737488355328 ∧
              k (.c (.slc n (l.length + l2.length))) (.upd n (.cs e (l ++ l2))) [n, m]
          | _ => False
        | _ => False
      | _ => False
    | _ => False
  | .sl sz x lo hi => evK T x fun
    | .c (.view sz' l) => sz' = sz ∧ ∃ a b : Nat, a ≤ b ∧ b ≤ l.length ∧
        (match lo with | none => a = 0 | some o => evK T o fun v => v = .c (.pv (.int .i64 a))) ∧
        (match hi with | none => b = l.length | some o => evK T o fun v => v = .c (.pv (.int .i64 b))) ∧
        k (.c (.view sz ((l.take b).drop a))) .non []
    | .c (.slc n len) => look n fun
      | .fl _ sz' l => sz' = sz ∧ len = l.length ∧ ∃ a b : Nat, a ≤ b ∧ b ≤ l.length ∧
        (match lo with | none => a = 0 | some o => evK T o fun v => v = .c (.pv (.int .i64 a))) ∧
        (match hi with | none => b = l.length | some o => evK T o fun v => v = .c (.pv (.int .i64 b))) ∧
        k (.c (.sub n len a (b - a))) .non [n]
      | _ => False
    | _ => False
  | .mks e sz bs z x => evK T x fun
    | .c (.pv (.int .i64 n)) => 0 ≤ n ∧ bs * n ≤ 140737488355328 ∧ n ≤ 140737488355328 ∧ k (.c (.slc (d, 0) n.toNat)) (.new [((d, 0), .fl e sz (List.replicate n.toNat z))]) []
    | _ => False
  | .call f xs => ACall P d f T look xs k
  | .mkf f xs => capsK T xs fun l => k (.clo f l) .non []
  | .callc x xs => evK T x fun
    | .clo f caps => isUser P f = true ∧ ACallC P d f caps T look xs k
    | _ => False
  | .mkm => k (.c (.ref (d, 0))) (.new [((d, 0), .mp 0 [])]) []
  | .mset x y z => evK T x fun
    | .c (.ref n) => look n fun
      | .mp clock l => evK T y fun
        | .c (.pv (.int .i64 a)) => evK T z fun
          | .c (.pv u) => guardK (oneV u) (k (.c (.pv undef)) (.upd n (.mp (mpC clock l a) (mpL clock l a u))) [n])
          | _ => False
        | _ => False
      | _ => False
    | _ => False
  | .rng x => evK T x fun
    | .c (.ref n) => look n fun
      | .mp clock _ => k (.c (.ref (d, 0))) (.new [((d, 0), .it n clock [] clock)]) [n]
      | _ => False
    | _ => False
  | .ent x => evK T x fun
    | .c (.ref n) => look n fun
      | .it q _ seen c0 => look q fun
        | .mp clock l => clock = c0 ∧ ∃ e b, seen.getLast? = some b ∧ l.find? (fun e => e.2.2 == b) = some e ∧ k (.tup [(false, [.pv (.int .i64 e.1)]), (false, [.pv e.2.1])]) .non [n, q]
        | _ => False
      | _ => False
    | _ => False
  | .nchk x => evK T x fun
    | .c (.ptr n j) => k (.c (.ptr n j)) .non []
    | .c (.eptr n len i j) => k (.c (.eptr n len i j)) .non []
    | .c (.vptr es j) => k (.c (.vptr es j)) .non []
    | _ => False
  | .nilC e => k (.c (.slc (d, 0) 0)) (.new [((d, 0), .cs e [])]) []
  | .bsliceC e parts => cellsLK T parts fun l => k (.c (.slc (d, 0) parts.length)) (.new [((d, 0), .cs e l)]) []
  | .s2a n x => evK T x fun
    | .c (.view sz l) => n ≤ l.length ∧ 0 < l.length ∧ 0 < sz ∧ k (.c (.vptr l.flatten 0)) .non []
    | _ => False
  | .binU kd op x y => evK T x fun vx => evK T y fun vy => binUK kd op (fun v => k (.c (.pv v)) .non []) vx vy
  | .shr kd x y => evK T x fun vx => evK T y fun vy => match vx, vy with
    | .c (.pv (.int k1 a)), .c (.pv (.int _ b)) => k1 = kd ∧ 0 ≤ b ∧ k (.c (.pv (.int kd (a.fdiv (2 ^ min b.toNat kd.bits))))) .non []
    | _, _ => False
  | .conv kd x => evK T x fun
    | .c (.pv (.int _ a)) => k (.c (.pv (.int kd (kd.wrap a)))) .non []
    | _ => False
  | .strop op x y => evK T x fun vx => evK T y fun vy => strK op (fun v => k (.c (.pv v)) .non []) vx vy
  | .slen x => evK T x fun
    | .c (.pv (.string a)) => k (.c (.pv (.int .i64 a.size))) .non []
    | _ => False
  | .sidx x i => evK T x fun vx => evK T i fun vi => match vx, vi with
    | .c (.pv (.string a)), .c (.pv (.int .i64 j)) => ∃ b : UInt8, (0 ≤ j ∧ a[j.toNat]? = some b) ∧ k (.c (.pv (.int .u8 b.toNat))) .non []
    | _, _ => False
  | .ssub x lo hi => evK T x fun
    | .c (.pv (.string a)) => evK T lo fun
      | .c (.pv (.int .i64 l)) => evK T hi fun
        | .c (.pv (.int .i64 h)) => (0 ≤ l ∧ l ≤ h ∧ h ≤ a.size) ∧ k (.c (.pv (.string (a.extract l.toNat h.toNat)))) .non []
        | _ => False
      | _ => False
    | _ => False

end Go.Proofs.Ytfbadfnhnaaeeaa
