/- The first contracts: numbers, forms, matrices, triples. -/
import Derived.Test.YtindcbcafmgfdaaRows
import Derived.WalkKit
import Derived.WalkSpells
import Derived.WalkLawsBesides
import Derived.StillTactics
import Derived.Laws.Pointers
import Derived.Deep.RegionHeld3
import Derived.Deep.DeepCutAuto
import Derived.Outline
import Derived.Lib.Hide
import Derived.RowKit3
import Derived.Below
import Derived.BigQuiet
namespace Go.Proofs.Ytindcbcafmgfdaa
open Go.RowKit

/-- n is a number. -/
def num (n : Int) : Bool := decide (-1000000 ≤ n ∧ n ≤ 1000000)
theorem num_iff {n : Int} : num n = true ↔ -1000000 ≤ n ∧ n ≤ 1000000 := by simp [num]
theorem bcell {W w1 : World} (hb : Below W.heap.size W w1) : (∀ b o, b < W.heap.size → w1.cell? ⟨b, o, none⟩ = W.cell? ⟨b, o, none⟩) ∧ (∀ b o, b < W.heap.size → w1.frozen? ⟨b, o, none⟩ = W.frozen? ⟨b, o, none⟩) ∧ (∀ b, b < W.heap.size → b < w1.heap.size) :=
  ⟨fun b o h => hb.cell (p := ⟨b, o, none⟩) h, fun b o h => hb.frozen (p := ⟨b, o, none⟩) h, fun b h => by have := hb.size; omega⟩
theorem bone {W w1 : World} (hb : Below W.heap.size W w1) (b : Nat) (h : b < W.heap.size) : (∀ o, w1.cell? ⟨b, o, none⟩ = W.cell? ⟨b, o, none⟩) ∧ (∀ o, w1.frozen? ⟨b, o, none⟩ = W.frozen? ⟨b, o, none⟩) ∧ b < w1.heap.size :=
  ⟨fun o => hb.cell (p := ⟨b, o, none⟩) h, fun o => hb.frozen (p := ⟨b, o, none⟩) h, Nat.lt_of_lt_of_le h hb.size⟩
theorem bone_elim {W w1 : World} (hb : Below W.heap.size W w1) (b : Nat) {R : Prop} (h : b < W.heap.size) (k : (∀ o, w1.cell? ⟨b, o, none⟩ = W.cell? ⟨b, o, none⟩) → (∀ o, w1.frozen? ⟨b, o, none⟩ = W.frozen? ⟨b, o, none⟩) → b < w1.heap.size → R) : R :=
  k (bone hb b h).1 (bone hb b h).2.1 (bone hb b h).2.2
theorem bl_alloc {B : Nat} {a w : World} {o : Obj} (hB : B ≤ w.heap.size) (h : Below B a w) : Below B a (w.alloc o) := h.alloc hB o
theorem bl_set {B : Nat} {a w : World} {p : Addr} {u : Value} (hp : B ≤ p.block) (h : Below B a w) : Below B a (w.setCell p u) := h.setCell hp u
theorem bl_trans {B B' : Nat} {a b c : World} (k : Below B' b c) (hB : B ≤ B') (h : Below B a b) : Below B a c := h.trans (k.mono hB)
theorem ret_bool {a b : Bool} (h : a = b) : Ending.returned (.bool a) = .returned (.bool b) := by rw [h]
theorem ret_int {a b : Int} (h : a = b) : Ending.returned (.int .i64 a) = .returned (.int .i64 b) := by rw [h]
theorem le_of_sq (d b : Int) (hb : 0 ≤ b) (h : d * d ≤ b * b) : d ≤ b := by
  rcases (by omega : b < d ∨ d ≤ b) with h1 | h1
  · have := Int.mul_le_mul (Int.le_of_lt h1) (Int.le_of_lt h1) hb (by omega)
    have h2 : b * d < d * d := Int.mul_lt_mul_of_pos_right h1 (by omega)
    have h3 : b * b ≤ b * d := Int.mul_le_mul_of_nonneg_left (Int.le_of_lt h1) hb
    omega
  · exact h1

theorem mul_bd {a b A B : Int} (h1 : -A ≤ a) (h2 : a ≤ A) (h3 : -B ≤ b) (h4 : b ≤ B) : -(A * B) ≤ a * b ∧ a * b ≤ A * B := by
  have h5 : (a * b).natAbs ≤ A.natAbs * B.natAbs := by
    rw [Int.natAbs_mul]; exact Nat.mul_le_mul (by omega) (by omega)
  have h6 : ((A.natAbs * B.natAbs : Nat) : Int) = A * B := by
    rw [Int.natCast_mul, Int.natAbs_of_nonneg (by omega), Int.natAbs_of_nonneg (by omega)]
  omega

theorem spec_l1In (n lo hi : Int) (w : World) :
    Calls Try.prog 56 #[.int .i64 n, .int .i64 lo, .int .i64 hi] w fun e w' => e = .returned (.bool (decide (lo ≤ n ∧ n ≤ hi))) ∧ w = w' := by
  by_cases h1 : lo ≤ n
  · have d1 : decide (lo ≤ n) = true := by simpa using h1
    go_enter Try.func56, Try.ntmps56
    go_wp2
    go_ret
    exact ⟨ret_bool (by simp [h1]), rfl⟩
  · have d1 : decide (lo ≤ n) = false := by simpa using h1
    go_enter Try.func56, Try.ntmps56
    go_wp2
    go_ret
    exact ⟨ret_bool (by simp), rfl⟩

theorem spec_nuGood (n : Int) (w : World) :
    Calls Try.prog 39 #[.int .i64 n] w fun e w' => e = .returned (.bool (num n)) ∧ w = w' := by
  go_enter Try.func39, Try.ntmps39
  go_wp2_with (first | (go_at_call 56; (with_reducible refine (spec_l1In _ _ _ _).mono ?_); rintro e w' ⟨rfl, rfl⟩))
  go_ret
  simp [num]

theorem spec_l1Most (a b : Int) (w : World) :
    Calls Try.prog 63 #[.int .i64 a, .int .i64 b] w fun e w' => e = .returned (.int .i64 (max a b)) ∧ w = w' := by
  go_enter Try.func63, Try.ntmps63
  go_wp2
  all_goals go_ret
  all_goals exact ⟨by simp; omega, rfl⟩

theorem max_neg_self (n : Int) : max n (-n) = n.natAbs := by omega
/-- |n|, for an n that is not the least integer. -/
theorem spec_l1Abs (n : Int) (w : World) (h1 : -9223372036854775807 ≤ n) (h2 : n ≤ 9223372036854775807) :
    Calls Try.prog 57 #[.int .i64 n] w fun e w' => e = .returned (.int .i64 n.natAbs) ∧ w = w' := by
  go_enter Try.func57, Try.ntmps57
  go_wp2_with (first | (go_at_call 63; (with_reducible refine (spec_l1Most _ _ _).mono ?_); rintro e w' ⟨rfl, rfl⟩))
  go_ret
  exact ⟨ret_int (max_neg_self n), rfl⟩

/-- The program's abs, for every integer. -/
def absI (n : Int) : Int := max n (-(max n (-9223372036854775807)))
theorem absI_eq {n : Int} (h : -9223372036854775807 ≤ n) : absI n = n.natAbs := by unfold absI; omega
theorem absI_le {n b : Int} (h : 0 ≤ b) (h2 : b ≤ 1000000000) : absI n ≤ b ↔ -b ≤ n ∧ n ≤ b := by unfold absI; omega
theorem impl_abs (n : Int) (w : World) (h1 : -9223372036854775808 ≤ n) (h2 : n ≤ 9223372036854775807) :
    Calls Try.prog 58 #[.int .i64 n] w fun e w' => e = .returned (.int .i64 (absI n)) ∧ w = w' := by
  have ha : absI n = max n (-(max n (-9223372036854775807))) := rfl
  generalize absI n = a at *
  go_enter Try.func58, Try.ntmps58
  go_wp2
  all_goals go_ret
  all_goals exact ⟨ret_int (by first | (simp; omega) | omega), rfl⟩

/-! ### lists of numbers -/
theorem all_take_succ (p : Int → Bool) (l : List Int) (k : Nat) (h : k < l.length) : (l.take (k + 1)).all p = ((l.take k).all p && p l[k]) := by
  rw [List.take_succ_eq_append_getElem h, List.all_append]; simp
theorem all_false_of (p : Int → Bool) (l : List Int) (k : Nat) (h : k < l.length) (hp : p l[k] = false) : l.all p = false := by
  rw [List.all_eq_false]; exact ⟨l[k], List.getElem_mem h, by simp [hp]⟩
theorem num_false {n : Int} (h : n < -1000000 ∨ 1000000 < n) : num n = false := by simp [num]; omega
theorem impl_areNumbers (b off cap : Nat) (l : List Int) (w : World) (hl : l.length ≤ 140737488351232) (hc : ∀ i, i < l.length → w.cell? ⟨b, off + i, none⟩ = some (.int .i64 (l.getD i 0))) :
    Calls Try.prog 41 #[.slice (some ⟨b, off, none⟩) l.length cap] w fun e w' => e = .returned (.bool (l.all num)) ∧ w = w' := by
  go_enter Try.func41, Try.ntmps41
  go_wp2
  go_loop [4, 7] (fun _ i => ∃ k : Nat, k ≤ l.length ∧ i = .int .i64 k ∧ (l.take k).all num = true) (fun _ i => l.length - (intOf i).toNat)
  case atStart => exact ⟨0, Nat.zero_le _, rfl, by simp⟩
  case round =>
    obtain ⟨k, hk, rfl, ha⟩ := hrel
    have HA := Lib.hid ha
    clear ha
    by_cases hlt : k < l.length
    · have h1 := hc k hlt
      have hs := all_take_succ num l k hlt
      have HS := Lib.hid hs
      clear hs
      by_cases hn : num l[k] = true
      · have hb := num_iff.1 hn
        obtain ⟨hb1, hb2⟩ := hb
        have HN := Lib.hid hn
        clear hn
        go_wp2
        go_round
        case rel => exact ⟨k + 1, by omega, by go_num, by rw [HS.out, HA.out, HN.out]; rfl⟩
        case measure => simp [intOf]; omega
      · have hn' : num l[k] = false := by simpa using hn
        have hf := all_false_of num l k hlt hn'
        have HF := Lib.hid hf
        have hb : l[k] < -1000000 ∨ 1000000 < l[k] := by simp [num] at hn'; omega
        clear hn hn' hf
        rcases hb with hb | hb
        all_goals
          go_wp2
          go_ret
          exact ⟨ret_bool HF.out.symm, rfl⟩
    · have hkk : l.take k = l := List.take_of_length_le (by omega)
      rw [hkk] at HA
      clear hkk
      go_wp2
      go_ret
      exact ⟨ret_bool HA.out.symm, rfl⟩

theorem spec_l1All (b off cap : Nat) (l : List Int) (lo hi : Int) (w : World) (hl : l.length ≤ 140737488351232) (hc : ∀ i, i < l.length → w.cell? ⟨b, off + i, none⟩ = some (.int .i64 (l.getD i 0))) :
    Calls Try.prog 45 #[.slice (some ⟨b, off, none⟩) l.length cap, .int .i64 lo, .int .i64 hi] w fun e w' => e = .returned (.bool (l.all fun n => decide (lo ≤ n ∧ n ≤ hi))) ∧ w = w' := by
  generalize hp : (fun n : Int => decide (lo ≤ n ∧ n ≤ hi)) = p
  have HP := Lib.hid hp
  clear hp
  go_enter Try.func45, Try.ntmps45
  go_wp2
  go_loop [8, 11] (fun _ i => ∃ k : Nat, k ≤ l.length ∧ i = .int .i64 k ∧ (l.take k).all p = true) (fun _ i => l.length - (intOf i).toNat)
  case atStart => exact ⟨0, Nat.zero_le _, rfl, by simp⟩
  case round =>
    obtain ⟨k, hk, rfl, ha⟩ := hrel
    have HA := Lib.hid ha
    clear ha
    by_cases hlt : k < l.length
    · have h1 := hc k hlt
      have hs := all_take_succ p l k hlt
      have HS := Lib.hid hs
      clear hs
      have hq : decide (lo ≤ l[k] ∧ l[k] ≤ hi) = p l[k] := by rw [← HP.out]
      by_cases hn : p l[k] = true
      · have HN := Lib.hid hn
        rw [hn] at hq
        have HQ := Lib.hid hq
        clear hn hq
        go_wp2_with (go_at_call 56; refine (spec_l1In _ _ _ _).mono ?_; rw [HQ.out]; rintro e w' ⟨rfl, rfl⟩)
        go_round
        case rel => exact ⟨k + 1, by omega, by go_num, by rw [HS.out, HA.out, HN.out]; rfl⟩
        case measure => simp [intOf]; omega
      · have hn' : p l[k] = false := by simpa using hn
        have hf := all_false_of p l k hlt hn'
        have HF := Lib.hid hf
        rw [hn'] at hq
        have HQ := Lib.hid hq
        clear hn hn' hf hq
        go_wp2_with (go_at_call 56; refine (spec_l1In _ _ _ _).mono ?_; rw [HQ.out]; rintro e w' ⟨rfl, rfl⟩)
        go_ret
        exact ⟨ret_bool HF.out.symm, rfl⟩
    · have hkk : l.take k = l := List.take_of_length_le (by omega)
      rw [hkk] at HA
      clear hkk
      go_wp2
      go_ret
      exact ⟨ret_bool HA.out.symm, rfl⟩

/-! ### primes -/
def IsP (n : Int) : Prop := 2 ≤ n ∧ ∀ d : Int, 2 ≤ d → d * d ≤ n → n % d ≠ 0
open Classical in
noncomputable def primeB (n : Int) : Bool := decide (IsP n)
theorem primeB_true {n : Int} (h : IsP n) : true = primeB n := by simp [primeB, h]
theorem primeB_false {n : Int} (h : ¬ IsP n) : false = primeB n := by simp [primeB, h]
theorem impl_isPrime (n : Int) (w : World) (h1 : -9223372036854775808 ≤ n) (h2 : n ≤ 1000000) :
    Calls Try.prog 62 #[.int .i64 n] w fun e w' => e = .returned (.bool (primeB n)) ∧ w = w' := by
  by_cases hlt : n < 2
  · have hf := primeB_false (n := n) (fun h => by have := h.1; omega)
    generalize primeB n = q at *
    have HF := Lib.hid hf
    clear hf
    go_enter Try.func62, Try.ntmps62
    go_wp2
    go_ret
    exact ⟨ret_bool HF.out, rfl⟩
  · have hdec : ∀ P : Prop, (P → IsP n) → P → true = primeB n := fun P h p => primeB_true (h p)
    have hdec2 : ∀ P : Prop, (P → ¬ IsP n) → P → false = primeB n := fun P h p => primeB_false (h p)
    have H1 := Lib.hid hdec
    have H2 := Lib.hid hdec2
    clear hdec hdec2
    generalize primeB n = q at *
    go_enter Try.func62, Try.ntmps62
    go_wp2
    go_loop [3] (fun t => ∃ d : Int, 2 ≤ d ∧ d ≤ 1001 ∧ t = .int .i64 d ∧ ∀ e : Int, 2 ≤ e → e < d → n % e ≠ 0) (fun t => (2000 - intOf t).toNat)
    case atStart => exact ⟨2, by omega, by omega, rfl, fun e _ _ => by omega⟩
    case round =>
      obtain ⟨d, hd1, hd2, rfl, hall⟩ := hrel
      have HA := Lib.hid hall
      clear hall
      have hp1 : 0 ≤ d * d := Int.mul_nonneg (by omega) (by omega)
      have hp2 : d * d ≤ 1001 * 1001 := Int.mul_le_mul hd2 hd2 (by omega) (by omega)
      by_cases hsq : d * d ≤ n
      · have hd3 : d ≤ 1000 := le_of_sq d 1000 (by omega) (by omega)
        by_cases hm : n % d = 0
        · have hfin := H2.out (n % d = 0) (fun h hp => hp.2 d hd1 hsq h) hm
          have HF := Lib.hid hfin
          have hm' : (n % d == 0) = true := by simp [hm]
          clear hm hfin
          go_wp2
          go_ret
          exact ⟨ret_bool HF.out, rfl⟩
        · have hm' : (n % d == 0) = false := by simp [hm]
          have HM := Lib.hid hm
          clear hm
          go_wp2
          go_round
          case rel => exact ⟨d + 1, by omega, by omega, rfl, fun e he1 he2 => by
            rcases (by omega : e < d ∨ e = d) with h | h
            · exact HA.out e he1 h
            · rw [h]; exact HM.out⟩
          case measure => simp [intOf]; omega
      · have hfin := H1.out True (fun _ => ⟨by omega, fun e he1 he2 => HA.out e he1 (by
          rcases (by omega : e < d ∨ d ≤ e) with h | h
          · exact h
          · have := Int.mul_le_mul h h (by omega) (by omega); omega)⟩) trivial
        have HF := Lib.hid hfin
        clear hfin
        go_wp2
        go_ret
        exact ⟨ret_bool HF.out, rfl⟩

theorem spec_nuPrime (n : Int) (w : World) (h1 : -9223372036854775808 ≤ n) (h2 : n ≤ 1000000) :
    Calls Try.prog 47 #[.int .i64 n] w fun e w' => e = .returned (.bool (primeB n)) ∧ w = w' := by
  by_cases hlt : n < 2
  · have hf := primeB_false (n := n) (fun h => by have := h.1; omega)
    generalize primeB n = q at *
    have HF := Lib.hid hf
    clear hf
    go_enter Try.func47, Try.ntmps47
    go_wp2
    go_ret
    exact ⟨ret_bool HF.out, rfl⟩
  · have hdec : ∀ P : Prop, (P → IsP n) → P → true = primeB n := fun P h p => primeB_true (h p)
    have hdec2 : ∀ P : Prop, (P → ¬ IsP n) → P → false = primeB n := fun P h p => primeB_false (h p)
    have H1 := Lib.hid hdec
    have H2 := Lib.hid hdec2
    clear hdec hdec2
    generalize primeB n = q at *
    go_enter Try.func47, Try.ntmps47
    go_wp2
    go_loop [3] (fun t => ∃ d : Int, 2 ≤ d ∧ d ≤ 1001 ∧ t = .int .i64 d ∧ ∀ e : Int, 2 ≤ e → e < d → n % e ≠ 0) (fun t => (2000 - intOf t).toNat)
    case atStart => exact ⟨2, by omega, by omega, rfl, fun e _ _ => by omega⟩
    case round =>
      obtain ⟨d, hd1, hd2, rfl, hall⟩ := hrel
      have HA := Lib.hid hall
      clear hall
      have hp1 : 0 ≤ d * d := Int.mul_nonneg (by omega) (by omega)
      have hp2 : d * d ≤ 1001 * 1001 := Int.mul_le_mul hd2 hd2 (by omega) (by omega)
      by_cases hsq : d * d ≤ n
      · have hd3 : d ≤ 1000 := le_of_sq d 1000 (by omega) (by omega)
        by_cases hm : n % d = 0
        · have hfin := H2.out (n % d = 0) (fun h hp => hp.2 d hd1 hsq h) hm
          have HF := Lib.hid hfin
          have hm' : (n % d == 0) = true := by simp [hm]
          clear hm hfin
          go_wp2
          go_ret
          exact ⟨ret_bool HF.out, rfl⟩
        · have hm' : (n % d == 0) = false := by simp [hm]
          have HM := Lib.hid hm
          clear hm
          go_wp2
          go_round
          case rel => exact ⟨d + 1, by omega, by omega, rfl, fun e he1 he2 => by
            rcases (by omega : e < d ∨ e = d) with h | h
            · exact HA.out e he1 h
            · rw [h]; exact HM.out⟩
          case measure => simp [intOf]; omega
      · have hfin := H1.out True (fun _ => ⟨by omega, fun e he1 he2 => HA.out e he1 (by
          rcases (by omega : e < d ∨ d ≤ e) with h | h
          · exact h
          · have := Int.mul_le_mul h h (by omega) (by omega); omega)⟩) trivial
        have HF := Lib.hid hfin
        clear hfin
        go_wp2
        go_ret
        exact ⟨ret_bool HF.out, rfl⟩

theorem impl_areNumbers1 (b : Nat) (x : Int) (w : World) (h0 : w.cell? ⟨b, 0, none⟩ = some (.int .i64 x)) :
    Calls Try.prog 41 #[.slice (some ⟨b, 0, none⟩) 1 1] w fun e w' => e = .returned (.bool (num x)) ∧ w = w' :=
  (impl_areNumbers b 0 1 [x] w (by simp) (fun i hi => by match i, hi with | 0, _ => simpa using h0)).mono fun e w' ⟨h, h'⟩ => ⟨by rw [h]; simp, h'⟩
theorem impl_areNumbers2 (b : Nat) (x y : Int) (w : World) (h0 : w.cell? ⟨b, 0, none⟩ = some (.int .i64 x)) (h1 : w.cell? ⟨b, 1, none⟩ = some (.int .i64 y)) :
    Calls Try.prog 41 #[.slice (some ⟨b, 0, none⟩) 2 2] w fun e w' => e = .returned (.bool (num x && num y)) ∧ w = w' :=
  (impl_areNumbers b 0 2 [x, y] w (by simp) (fun i hi => by match i, hi with | 0, _ => simpa using h0 | 1, _ => simpa using h1)).mono fun e w' ⟨h, h'⟩ => ⟨by rw [h]; simp, h'⟩
theorem impl_areNumbers3 (b : Nat) (x y z : Int) (w : World) (h0 : w.cell? ⟨b, 0, none⟩ = some (.int .i64 x)) (h1 : w.cell? ⟨b, 1, none⟩ = some (.int .i64 y)) (h2 : w.cell? ⟨b, 2, none⟩ = some (.int .i64 z)) :
    Calls Try.prog 41 #[.slice (some ⟨b, 0, none⟩) 3 3] w fun e w' => e = .returned (.bool (num x && num y && num z)) ∧ w = w' :=
  (impl_areNumbers b 0 3 [x, y, z] w (by simp) (fun i hi => by match i, hi with | 0, _ => simpa using h0 | 1, _ => simpa using h1 | 2, _ => simpa using h2)).mono fun e w' ⟨h, h'⟩ => ⟨by rw [h]; simp [Bool.and_assoc], h'⟩
theorem impl_areNumbers4 (b : Nat) (x y z u : Int) (w : World) (h0 : w.cell? ⟨b, 0, none⟩ = some (.int .i64 x)) (h1 : w.cell? ⟨b, 1, none⟩ = some (.int .i64 y)) (h2 : w.cell? ⟨b, 2, none⟩ = some (.int .i64 z)) (h3 : w.cell? ⟨b, 3, none⟩ = some (.int .i64 u)) :
    Calls Try.prog 41 #[.slice (some ⟨b, 0, none⟩) 4 4] w fun e w' => e = .returned (.bool (num x && num y && num z && num u)) ∧ w = w' :=
  (impl_areNumbers b 0 4 [x, y, z, u] w (by simp) (fun i hi => by match i, hi with | 0, _ => simpa using h0 | 1, _ => simpa using h1 | 2, _ => simpa using h2 | 3, _ => simpa using h3)).mono fun e w' ⟨h, h'⟩ => ⟨by rw [h]; simp [Bool.and_assoc], h'⟩

theorem impl_IsPrime (n : Int) (w : World) :
    Calls Try.prog 48 #[.int .i64 n] w fun e w' => e = .returned (.bool (num n && primeB n)) ∧ Below w.heap.size w w' := by
  by_cases h : num n = true
  · have h1 := num_iff.1 h
    obtain ⟨h1, h2⟩ := h1
    go_enter Try.func48, Try.ntmps48
    go_wp2_with (first | (go_at_call 41; (with_reducible refine (impl_areNumbers1 _ _ _ (by go_simp; rfl)).mono ?_); rintro e w' ⟨rfl, rfl⟩) | (go_at_call 41; (with_reducible refine (impl_areNumbers2 _ _ _ _ (by go_simp; rfl) (by go_simp; rfl)).mono ?_); rintro e w' ⟨rfl, rfl⟩) | (go_at_call 41; (with_reducible refine (impl_areNumbers3 _ _ _ _ _ (by go_simp; rfl) (by go_simp; rfl) (by go_simp; rfl)).mono ?_); rintro e w' ⟨rfl, rfl⟩) | (go_at_call 41; (with_reducible refine (impl_areNumbers4 _ _ _ _ _ _ (by go_simp; rfl) (by go_simp; rfl) (by go_simp; rfl) (by go_simp; rfl)).mono ?_); rintro e w' ⟨rfl, rfl⟩) | (go_at_call 62; (with_reducible refine (impl_isPrime _ _ (by omega) (by omega)).mono ?_); rintro e w' ⟨rfl, rfl⟩))
    all_goals go_ret
    all_goals exact ⟨by simp [*], (by repeat (first | (with_reducible exact Below.refl _ _) | (with_reducible assumption) | (with_reducible refine Below.drew ?_) | ((with_reducible refine bl_alloc ?_ ?_); (focus (first | omega | (simp; done) | (simp; omega)))) | ((with_reducible refine bl_set ?_ ?_); (focus (first | omega | (simp; done) | (simp; omega)))) | ((with_reducible refine bl_trans (by with_reducible assumption) ?_ ?_); (focus (first | omega | (simp; done) | (simp; omega))))))⟩
  · have h' : num n = false := by simpa using h
    clear h
    go_enter Try.func48, Try.ntmps48
    go_wp2_with (first | (go_at_call 41; (with_reducible refine (impl_areNumbers1 _ _ _ (by go_simp; rfl)).mono ?_); rintro e w' ⟨rfl, rfl⟩) | (go_at_call 41; (with_reducible refine (impl_areNumbers2 _ _ _ _ (by go_simp; rfl) (by go_simp; rfl)).mono ?_); rintro e w' ⟨rfl, rfl⟩) | (go_at_call 41; (with_reducible refine (impl_areNumbers3 _ _ _ _ _ (by go_simp; rfl) (by go_simp; rfl) (by go_simp; rfl)).mono ?_); rintro e w' ⟨rfl, rfl⟩) | (go_at_call 41; (with_reducible refine (impl_areNumbers4 _ _ _ _ _ _ (by go_simp; rfl) (by go_simp; rfl) (by go_simp; rfl) (by go_simp; rfl)).mono ?_); rintro e w' ⟨rfl, rfl⟩) | (go_at_call 62; (with_reducible refine (impl_isPrime _ _ (by omega) (by omega)).mono ?_); rintro e w' ⟨rfl, rfl⟩))
    all_goals go_ret
    all_goals exact ⟨by simp [*], (by repeat (first | (with_reducible exact Below.refl _ _) | (with_reducible assumption) | (with_reducible refine Below.drew ?_) | ((with_reducible refine bl_alloc ?_ ?_); (focus (first | omega | (simp; done) | (simp; omega)))) | ((with_reducible refine bl_set ?_ ?_); (focus (first | omega | (simp; done) | (simp; omega)))) | ((with_reducible refine bl_trans (by with_reducible assumption) ?_ ?_); (focus (first | omega | (simp; done) | (simp; omega))))))⟩

theorem spec_hiPlace (n : Int) (w : World) :
    Calls Try.prog 28 #[.int .i64 n] w fun e w' => e = .returned (.bool (n == 0 || num n && primeB n)) ∧ w = w' := by
  by_cases h0 : n = 0
  · have e0 : (n == 0) = true := by simp [h0]
    clear h0
    go_enter Try.func28, Try.ntmps28
    go_wp2
    go_ret
    exact ⟨ret_bool (by simp [e0]), rfl⟩
  have e0 : (n == 0) = false := by simp [h0]
  clear h0
  by_cases h : num n = true
  · have h1 := num_iff.1 h
    obtain ⟨h1, h2⟩ := h1
    go_enter Try.func28, Try.ntmps28
    go_wp2_with (first | (go_at_call 39; (with_reducible refine (spec_nuGood _ _).mono ?_); rintro e w' ⟨rfl, rfl⟩) | (go_at_call 47; (with_reducible refine (spec_nuPrime _ _ (by omega) (by omega)).mono ?_); rintro e w' ⟨rfl, rfl⟩))
    all_goals go_ret
    all_goals exact ⟨ret_bool (by simp [*]), rfl⟩
  · have h' : num n = false := by simpa using h
    clear h
    go_enter Try.func28, Try.ntmps28
    go_wp2_with (first | (go_at_call 39; (with_reducible refine (spec_nuGood _ _).mono ?_); rintro e w' ⟨rfl, rfl⟩) | (go_at_call 47; (with_reducible refine (spec_nuPrime _ _ (by omega) (by omega)).mono ?_); rintro e w' ⟨rfl, rfl⟩))
    all_goals go_ret
    all_goals exact ⟨ret_bool (by simp [*]), rfl⟩

theorem impl_isPlace (n : Int) (w : World) :
    Calls Try.prog 29 #[.int .i64 n] w fun e w' => e = .returned (.bool (n == 0 || num n && primeB n)) ∧ Below w.heap.size w w' := by
  by_cases h0 : n = 0
  · have e0 : (n == 0) = true := by simp [h0]
    clear h0
    go_enter Try.func29, Try.ntmps29
    go_wp2
    go_ret
    exact ⟨ret_bool (by simp [e0]), (by repeat (first | (with_reducible exact Below.refl _ _) | (with_reducible assumption) | (with_reducible refine Below.drew ?_) | ((with_reducible refine bl_alloc ?_ ?_); (focus (first | omega | (simp; done) | (simp; omega)))) | ((with_reducible refine bl_set ?_ ?_); (focus (first | omega | (simp; done) | (simp; omega)))) | ((with_reducible refine bl_trans (by with_reducible assumption) ?_ ?_); (focus (first | omega | (simp; done) | (simp; omega))))))⟩
  have e0 : (n == 0) = false := by simp [h0]
  clear h0
  go_enter Try.func29, Try.ntmps29
  go_wp2_with (first | (go_at_call 48; (with_reducible refine (impl_IsPrime _ _).mono ?_); rintro e w' ⟨rfl, hb⟩; obtain ⟨hc, hf, hk⟩ := bcell hb; have hz := hb.size; (try simp at hz); (try simp only [World.size_alloc] at hc hf hk); (try (refine bone_elim hb (w.heap.size) ?_ ?_; (focus (first | omega | (simp; done) | (simp; omega))); intro g0 k0 s0)); (try (refine bone_elim hb (w.heap.size + 1) ?_ ?_; (focus (first | omega | (simp; done) | (simp; omega))); intro g1 k1 s1)); (try (refine bone_elim hb (w.heap.size + 1 + 1) ?_ ?_; (focus (first | omega | (simp; done) | (simp; omega))); intro g2 k2 s2)); (try (refine bone_elim hb (w.heap.size + 1 + 1 + 1) ?_ ?_; (focus (first | omega | (simp; done) | (simp; omega))); intro g3 k3 s3))))
  all_goals go_ret
  all_goals exact ⟨ret_bool (by simp [*]), (by repeat (first | (with_reducible exact Below.refl _ _) | (with_reducible assumption) | (with_reducible refine Below.drew ?_) | ((with_reducible refine bl_alloc ?_ ?_); (focus (first | omega | (simp; done) | (simp; omega)))) | ((with_reducible refine bl_set ?_ ?_); (focus (first | omega | (simp; done) | (simp; omega)))) | ((with_reducible refine bl_trans (by with_reducible assumption) ?_ ?_); (focus (first | omega | (simp; done) | (simp; omega))))))⟩

theorem law_IsPlace (n : Int) (w : World) :
    Calls Try.prog 4 #[.int .i64 n] w fun e w' => e = .returned (.bool true) ∧ Below w.heap.size w w' := by
  go_enter Try.func4, Try.ntmps4
  go_wp2_with (first | (go_at_call 29; (with_reducible refine (impl_isPlace _ _).mono ?_); rintro e w' ⟨rfl, hb⟩; obtain ⟨hc, hf, hk⟩ := bcell hb; have hz := hb.size; (try simp at hz); (try simp only [World.size_alloc] at hc hf hk); (try (refine bone_elim hb (w.heap.size) ?_ ?_; (focus (first | omega | (simp; done) | (simp; omega))); intro g0 k0 s0)); (try (refine bone_elim hb (w.heap.size + 1) ?_ ?_; (focus (first | omega | (simp; done) | (simp; omega))); intro g1 k1 s1)); (try (refine bone_elim hb (w.heap.size + 1 + 1) ?_ ?_; (focus (first | omega | (simp; done) | (simp; omega))); intro g2 k2 s2)); (try (refine bone_elim hb (w.heap.size + 1 + 1 + 1) ?_ ?_; (focus (first | omega | (simp; done) | (simp; omega))); intro g3 k3 s3))) | (go_at_call 28; (with_reducible refine (spec_hiPlace _ _).mono ?_); rintro e w' ⟨rfl, rfl⟩) | go_in)
  all_goals go_ret
  all_goals exact ⟨ret_bool (by simp [*]), (by repeat (first | (with_reducible exact Below.refl _ _) | (with_reducible assumption) | (with_reducible refine Below.drew ?_) | ((with_reducible refine bl_alloc ?_ ?_); (focus (first | omega | (simp; done) | (simp; omega)))) | ((with_reducible refine bl_set ?_ ?_); (focus (first | omega | (simp; done) | (simp; omega)))) | ((with_reducible refine bl_trans (by with_reducible assumption) ?_ ?_); (focus (first | omega | (simp; done) | (simp; omega))))))⟩
end Go.Proofs.Ytindcbcafmgfdaa
