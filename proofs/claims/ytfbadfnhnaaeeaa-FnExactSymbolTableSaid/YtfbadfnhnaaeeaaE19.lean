/- The abstract machine: the rule for loops. -/
import Derived.Test.YtfbadfnhnaaeeaaE18
namespace Go.Proofs.Ytfbadfnhnaaeeaa
set_option linter.unusedSimpArgs false
set_option linter.unusedVariables false
open Go.RowKit

theorem setsK_iff' : ∀ {sp : List (Nat × V)} {T : List V} {k : List V → Prop}, setsK T sp k → k (sets T sp) := setsK_ex

/-- A CALL BY CONTRACT: first its arguments, then what follows. -/
theorem acall {P : Program} {d : Nat} {f : FuncId} {T : List V} {look : Nm → (Blk → Prop) → Prop} {xs : List Opd} {k : V → Eff → List Nm → Prop} {args : List V} {rd : List Nm} {res : V} {news : List Blk} (hf : AFun P f [] args res [] news)
    (ha : argsK [] look T xs fun a r => a = args ∧ r = rd) (hk : renK [] d res fun r => newsK [] d 0 news fun m => k r (.lent [] m) rd) : ACall P d f T look xs k := .mk [] args rd res [] [] news rfl hf rfl ha trivial hk
/-- A call of a function value. -/
theorem acallc {P : Program} {d : Nat} {f : FuncId} {caps caps' : List C} {T : List V} {look : Nm → (Blk → Prop) → Prop} {xs : List Opd} {k : V → Eff → List Nm → Prop} {args full : List V} {rd rd' : List Nm} {res : V} {news : List Blk} (hf : AFun P f [] full res [] news)
    (ha : argsK [] look T xs fun a r => a = args ∧ r = rd) (hc : argCK [] look caps fun c r => c = caps' ∧ r = rd') (hfull : args ++ caps'.map V.c = full) (hk : renK [] d res fun r => newsK [] d 0 news fun m => k r (.lent [] m) (rd ++ rd')) : ACallC P d f caps T look xs k := .mk [] args caps' rd rd' res [] [] news rfl (hfull ▸ hf) rfl ha hc trivial hk
/-- The first own slice among the arguments. -/
def firstC : List C → (Nm → Prop) → Prop → Prop
  | [], _, k0 => k0
  | .slc n _ :: _, k, _ => k n
  | _ :: r, k, k0 => firstC r k k0
def firstK (T : List V) : List Opd → (Nm → Prop) → Prop
  | [], _ => False
  | x :: r, k => evK T x fun
    | .c x => firstC [x] k (firstK T r k)
    | .agg l => firstC l k (firstK T r k)
    | .tup _ => False
    | .clo _ _ => False
/-- A call that is lent its first own slice. -/
theorem alent {P : Program} {d : Nat} {f : FuncId} {T : List V} {look : Nm → (Blk → Prop) → Prop} {xs : List Opd} {k : V → Eff → List Nm → Prop} {args : List V} {rd : List Nm} {res : V} {e : TypeId} {sz : Nat} {l l' : List (List Value)} {n : Nm} (hf : AFun P f [.fl e sz l] args res [.fl e sz l'] [])
    (hn : firstK T xs fun m => m = n) (ha : argsK [n] look T xs fun a r => a = args ∧ r = rd) (hl : looksK look [n] fun l' => lnBsK [n] l' fun b => b = [.fl e sz l]) (hk : renK [n] d res fun r => k r (.lent [(n, .fl e sz l')] []) ([n] ++ rd)) : ACall P d f T look xs k :=
  .mk [n] args rd res [.fl e sz l] [.fl e sz l'] [] rfl hf hl ha ⟨⟨rfl, rfl⟩, trivial⟩ hk
/-- The own boxes (pointers) among the arguments, in their order. -/
def ptrsC : List C → List Nm
  | [] => []
  | .ptr n _ :: r => n :: ptrsC r
  | _ :: r => ptrsC r
def ptrsK (T : List V) : List Opd → (List Nm → Prop) → Prop
  | [], k => k []
  | x :: r, k => evK T x fun
    | .c x => ptrsK T r fun l => k (ptrsC [x] ++ l)
    | .agg l => ptrsK T r fun l' => k (ptrsC l ++ l')
    | _ => ptrsK T r k
/-- A call that is lent the boxes that its arguments point to. -/
theorem abox {P : Program} {d : Nat} {f : FuncId} {T : List V} {look : Nm → (Blk → Prop) → Prop} {xs : List Opd} {k : V → Eff → List Nm → Prop} {ns : List Nm} {args : List V} {rd : List Nm} {res : V} {bs bs' news : List Blk} (hf : AFun P f bs args res bs' news)
    (hn : ptrsK T xs fun m => m = ns) (hns : nodupNm ns = true) (hl : looksK look ns fun l => lnBsK ns l fun l' => l' = bs) (ha : argsK ns look T xs fun a r => a = args ∧ r = rd) (hb : keepBs bs bs') (hk : renK ns d res fun r => rnBsK ns d bs' fun b2 => newsK ns d 0 news fun m => k r (.lent (zipN ns b2) m) (ns ++ rd)) : ACall P d f T look xs k := .mk ns args rd res bs bs' news hns hf hl ha hb hk
/-- The own slices of slices among the arguments, with their rows. -/
def rowsN : List C → List Nm
  | [] => []
  | .slc n _ :: r => n :: rowsN r
  | _ :: r => rowsN r
def csNsK (T : List V) (look : Nm → (Blk → Prop) → Prop) : List Opd → (List Nm → Prop) → Prop
  | [], k => k []
  | x :: r, k => evK T x fun
    | .c (.slc n _) => look n fun
      | .cs _ l => csNsK T look r fun l' => k ((n :: rowsN l) ++ l')
      | _ => csNsK T look r k
    | _ => csNsK T look r k
/-- A call that is lent slices of slices. -/
theorem acs {P : Program} {d : Nat} {f : FuncId} {T : List V} {look : Nm → (Blk → Prop) → Prop} {xs : List Opd} {k : V → Eff → List Nm → Prop} {ns : List Nm} {args : List V} {rd : List Nm} {res : V} {bs bs' news : List Blk} (hf : AFun P f bs args res bs' news)
    (hn : csNsK T look xs fun m => m = ns) (hns : nodupNm ns = true) (hl : looksK look ns fun l => lnBsK ns l fun l' => l' = bs) (ha : argsK ns look T xs fun a r => a = args ∧ r = rd) (hb : keepBs bs bs') (hk : renK ns d res fun r => rnBsK ns d bs' fun b2 => newsK ns d 0 news fun m => k r (.lent (zipN ns b2) m) (ns ++ rd)) : ACall P d f T look xs k := .mk ns args rd res bs bs' news hns hf hl ha hb hk
/-- A call of a function value that is lent the boxes that it has captured. -/
theorem aboxc {P : Program} {d : Nat} {f : FuncId} {caps caps' : List C} {T : List V} {look : Nm → (Blk → Prop) → Prop} {xs : List Opd} {k : V → Eff → List Nm → Prop} {ns : List Nm} {args full : List V} {rd rd' : List Nm} {res : V} {bs bs' news : List Blk} (hf : AFun P f bs full res bs' news)
    (hn : ptrsC caps = ns) (hns : nodupNm ns = true) (hl : looksK look ns fun l => lnBsK ns l fun l' => l' = bs) (ha : argsK ns look T xs fun a r => a = args ∧ r = rd) (hc : argCK ns look caps fun c r => c = caps' ∧ r = rd') (hfull : args ++ caps'.map V.c = full) (hb : keepBs bs bs') (hk : renK ns d res fun r => rnBsK ns d bs' fun b2 => newsK ns d 0 news fun m => k r (.lent (zipN ns b2) m) (ns ++ (rd ++ rd'))) : ACallC P d f caps T look xs k := .mk ns args caps' rd rd' res bs bs' news hns (hfull ▸ hf) hl ha hc hb hk

/-- THE RULE FOR LOOPS. s: what varies; sp: the temporaries that vary and are known at the loop's head; mem: the memory there. -/
theorem loop_rule {nl : Nat} {wf : List Bool} {body : List V → ML → (X → List V → ML → Prop) → Prop} {T0 : List V} {m0 : ML} {k : X → List V → ML → Prop} {σ : Type} (sp : σ → List (Nat × V)) (mem : σ → ML) (ok : σ → Prop) (μ : σ → Nat) (s0 : σ) (h0 : ok s0)
    (hsp : eqsK T0 (sp s0)) (hmem : memsEq m0 (mem s0)) (hnm : ∀ s, (mkK T0 wf (sp s) fun T => nameT (mem s) T = true) ∧ nameM (mem s) (mem s) = true) (hl : ∀ s i, i < nl → (sem (mem s) (0, i)).isSome = true)
    (round : ∀ s, ok s → mkK T0 wf (sp s) fun T => body T (mem s) fun e T1 m1 => match e with
      | .normal => ∃ s', ok s' ∧ μ s' < μ s ∧ ∃ o, swapK o T1 m1 fun T1 m1 => keepL T1 wf = keepL T0 wf ∧ eqsK T1 (sp s') ∧ memsEq m1 (mem s')
      | .exit id => k (.exit id) T1 m1
      | .ret => k .ret T1 m1) : ALoop nl wf body T0 m0 k :=
  ⟨[], ⟨wf, σ, sp, mem, ok, μ, ⟨s0, h0, hsp, hmem⟩, fun s => ⟨setsK_ex (havK_iff.1 (hnm s).1), (hnm s).2, hl s⟩, fun s hs => setsK_ex (havK_iff.1 (round s hs))⟩⟩

/-- Some temporaries more are forgotten. -/
def setTrue : List Bool → Nat → List Bool
  | [], 0 => [true]
  | [], n + 1 => false :: setTrue [] n
  | _ :: l, 0 => true :: l
  | b :: l, n + 1 => b :: setTrue l n
def killF : List Bool → List Nat → List Bool
  | wf, [] => wf
  | wf, k :: r => killF (setTrue wf k) r
/-- The same, some temporaries forgotten. THE RULE FOR LOOPS. s: what varies; sp: the temporaries that vary and are known at the loop's head; mem: the memory there. -/
theorem loop_ruleK (kill : List Nat) {nl : Nat} {wf : List Bool} {body : List V → ML → (X → List V → ML → Prop) → Prop} {T0 : List V} {m0 : ML} {k : X → List V → ML → Prop} {σ : Type} (sp : σ → List (Nat × V)) (mem : σ → ML) (ok : σ → Prop) (μ : σ → Nat) (s0 : σ) (h0 : ok s0)
    (hsp : eqsK T0 (sp s0)) (hmem : memsEq m0 (mem s0)) (hnm : ∀ s, (mkK T0 (killF wf kill) (sp s) fun T => nameT (mem s) T = true) ∧ nameM (mem s) (mem s) = true) (hl : ∀ s i, i < nl → (sem (mem s) (0, i)).isSome = true)
    (round : ∀ s, ok s → mkK T0 (killF wf kill) (sp s) fun T => body T (mem s) fun e T1 m1 => match e with
      | .normal => ∃ s', ok s' ∧ μ s' < μ s ∧ ∃ o, swapK o T1 m1 fun T1 m1 => keepL T1 (killF wf kill) = keepL T0 (killF wf kill) ∧ eqsK T1 (sp s') ∧ memsEq m1 (mem s')
      | .exit id => k (.exit id) T1 m1
      | .ret => k .ret T1 m1) : ALoop nl wf body T0 m0 k :=
  ⟨[], ⟨killF wf kill, σ, sp, mem, ok, μ, ⟨s0, h0, hsp, hmem⟩, fun s => ⟨setsK_ex (havK_iff.1 (hnm s).1), (hnm s).2, hl s⟩, fun s hs => setsK_ex (havK_iff.1 (round s hs))⟩⟩
/-- The first rounds one by one. -/
theorem aunroll (n : Nat) {nl : Nat} {wf : List Bool} {body : List V → ML → (X → List V → ML → Prop) → Prop} {T0 : List V} {m0 : ML} {k : X → List V → ML → Prop} (h : aRounds nl wf body k (List.replicate n none) T0 m0) : ALoop nl wf body T0 m0 k := ⟨_, h⟩
/-- The same, two names exchanged behind a round. -/
theorem aunrollS (os : List (Option (Nm × Nm))) {nl : Nat} {wf : List Bool} {body : List V → ML → (X → List V → ML → Prop) → Prop} {T0 : List V} {m0 : ML} {k : X → List V → ML → Prop} (h : aRounds nl wf body k os T0 m0) : ALoop nl wf body T0 m0 k := ⟨_, h⟩
/-- An index that is known. -/
theorem ex_nat {iv : Int} {n : Nat} {k : Nat → Prop} {q : Nat} (h : iv = q) (hq : q < n) (hk : k q) : ∃ q : Nat, iv = q ∧ q < n ∧ k q := ⟨q, h, hq, hk⟩
end Go.Proofs.Ytfbadfnhnaaeeaa
