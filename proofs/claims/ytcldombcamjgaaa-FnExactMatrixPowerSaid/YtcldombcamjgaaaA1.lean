/- The first contracts: numbers, forms, matrices, triples. -/
import Derived.Test.YtcldombcamjgaaaRows
import Derived.WalkKit
import Derived.WalkSpells
import Derived.WalkLawsBesides
import Derived.StillTactics
import Derived.Laws.Pointers
import Derived.Deep.RegionHeld3
import Derived.Deep.DeepCutAuto
import Derived.Outline
import Derived.Lib.Hide
import Derived.RowKit3
import Derived.Below
import Derived.BigQuiet
namespace Go.Proofs.Ytcldombcamjgaaa
open Go.RowKit

/-- n is a number. -/
def num (n : Int) : Bool := decide (-1000000 ≤ n ∧ n ≤ 1000000)
theorem num_iff {n : Int} : num n = true ↔ -1000000 ≤ n ∧ n ≤ 1000000 := by simp [num]
theorem bcell {W w1 : World} (hb : Below W.heap.size W w1) : (∀ b o, b < W.heap.size → w1.cell? ⟨b, o, none⟩ = W.cell? ⟨b, o, none⟩) ∧ (∀ b o, b < W.heap.size → w1.frozen? ⟨b, o, none⟩ = W.frozen? ⟨b, o, none⟩) ∧ (∀ b, b < W.heap.size → b < w1.heap.size) :=
  ⟨fun b o h => hb.cell (p := ⟨b, o, none⟩) h, fun b o h => hb.frozen (p := ⟨b, o, none⟩) h, fun b h => by have := hb.size; omega⟩
theorem bone {W w1 : World} (hb : Below W.heap.size W w1) (b : Nat) (h : b < W.heap.size) : (∀ o, w1.cell? ⟨b, o, none⟩ = W.cell? ⟨b, o, none⟩) ∧ (∀ o, w1.frozen? ⟨b, o, none⟩ = W.frozen? ⟨b, o, none⟩) ∧ b < w1.heap.size :=
  ⟨fun o => hb.cell (p := ⟨b, o, none⟩) h, fun o => hb.frozen (p := ⟨b, o, none⟩) h, Nat.lt_of_lt_of_le h hb.size⟩
theorem bone_elim {W w1 : World} (hb : Below W.heap.size W w1) (b : Nat) {R : Prop} (h : b < W.heap.size) (k : (∀ o, w1.cell? ⟨b, o, none⟩ = W.cell? ⟨b, o, none⟩) → (∀ o, w1.frozen? ⟨b, o, none⟩ = W.frozen? ⟨b, o, none⟩) → b < w1.heap.size → R) : R :=
  k (bone hb b h).1 (bone hb b h).2.1 (bone hb b h).2.2
theorem bone_alloc {W w1 : World} {X : Obj} (hb : Below (W.alloc X).heap.size (W.alloc X) w1) {R : Prop} (k : (∀ o, w1.cell? ⟨W.heap.size, o, none⟩ = (W.alloc X).cell? ⟨W.heap.size, o, none⟩) → (∀ o, w1.frozen? ⟨W.heap.size, o, none⟩ = (W.alloc X).frozen? ⟨W.heap.size, o, none⟩) → W.heap.size < w1.heap.size → R) : R :=
  bone_elim hb W.heap.size (by simp) k
theorem bl_alloc {B : Nat} {a w : World} {o : Obj} (hB : B ≤ w.heap.size) (h : Below B a w) : Below B a (w.alloc o) := h.alloc hB o
theorem bl_set {B : Nat} {a w : World} {p : Addr} {u : Value} (hp : B ≤ p.block) (h : Below B a w) : Below B a (w.setCell p u) := h.setCell hp u
theorem bl_trans {B B' : Nat} {a b c : World} (k : Below B' b c) (hB : B ≤ B') (h : Below B a b) : Below B a c := h.trans (k.mono hB)
theorem ret_bool {a b : Bool} (h : a = b) : Ending.returned (.bool a) = .returned (.bool b) := by rw [h]
theorem ret_int {a b : Int} (h : a = b) : Ending.returned (.int .i64 a) = .returned (.int .i64 b) := by rw [h]
theorem le_of_sq (d b : Int) (hb : 0 ≤ b) (h : d * d ≤ b * b) : d ≤ b := by
  rcases (by omega : b < d ∨ d ≤ b) with h1 | h1
  · have := Int.mul_le_mul (Int.le_of_lt h1) (Int.le_of_lt h1) hb (by omega)
    have h2 : b * d < d * d := Int.mul_lt_mul_of_pos_right h1 (by omega)
    have h3 : b * b ≤ b * d := Int.mul_le_mul_of_nonneg_left (Int.le_of_lt h1) hb
    omega
  · exact h1

theorem mul_bd {a b A B : Int} (h1 : -A ≤ a) (h2 : a ≤ A) (h3 : -B ≤ b) (h4 : b ≤ B) : -(A * B) ≤ a * b ∧ a * b ≤ A * B := by
  have h5 : (a * b).natAbs ≤ A.natAbs * B.natAbs := by
    rw [Int.natAbs_mul]; exact Nat.mul_le_mul (by omega) (by omega)
  have h6 : ((A.natAbs * B.natAbs : Nat) : Int) = A * B := by
    rw [Int.natCast_mul, Int.natAbs_of_nonneg (by omega), Int.natAbs_of_nonneg (by omega)]
  omega

theorem spec_l1In (n lo hi : Int) (w : World) :
    Calls Try.prog 38 #[.int .i64 n, .int .i64 lo, .int .i64 hi] w fun e w' => e = .returned (.bool (decide (lo ≤ n ∧ n ≤ hi))) ∧ w = w' := by
  by_cases h1 : lo ≤ n
  · have d1 : decide (lo ≤ n) = true := by simpa using h1
    go_enter Try.func38, Try.ntmps38
    go_wp2
    go_ret
    exact ⟨ret_bool (by simp [h1]), rfl⟩
  · have d1 : decide (lo ≤ n) = false := by simpa using h1
    go_enter Try.func38, Try.ntmps38
    go_wp2
    go_ret
    exact ⟨ret_bool (by simp), rfl⟩

theorem spec_nuGood (n : Int) (w : World) :
    Calls Try.prog 66 #[.int .i64 n] w fun e w' => e = .returned (.bool (num n)) ∧ w = w' := by
  go_enter Try.func66, Try.ntmps66
  go_wp2_with (first | (go_at_call 38; (with_reducible refine (spec_l1In _ _ _ _).mono ?_); rintro e w' ⟨rfl, rfl⟩))
  go_ret
  simp [num]

theorem spec_l1Most (a b : Int) (w : World) :
    Calls Try.prog 73 #[.int .i64 a, .int .i64 b] w fun e w' => e = .returned (.int .i64 (max a b)) ∧ w = w' := by
  go_enter Try.func73, Try.ntmps73
  go_wp2
  all_goals go_ret
  all_goals exact ⟨by simp; omega, rfl⟩

theorem max_neg_self (n : Int) : max n (-n) = n.natAbs := by omega
/-- |n|, for an n that is not the least integer. -/
theorem spec_l1Abs (n : Int) (w : World) (h1 : -9223372036854775807 ≤ n) (h2 : n ≤ 9223372036854775807) :
    Calls Try.prog 69 #[.int .i64 n] w fun e w' => e = .returned (.int .i64 n.natAbs) ∧ w = w' := by
  go_enter Try.func69, Try.ntmps69
  go_wp2_with (first | (go_at_call 73; (with_reducible refine (spec_l1Most _ _ _).mono ?_); rintro e w' ⟨rfl, rfl⟩))
  go_ret
  exact ⟨ret_int (max_neg_self n), rfl⟩

/-- The program's abs, for every integer. -/
def absI (n : Int) : Int := max n (-(max n (-9223372036854775807)))
theorem absI_eq {n : Int} (h : -9223372036854775807 ≤ n) : absI n = n.natAbs := by unfold absI; omega
theorem absI_le {n b : Int} (h : 0 ≤ b) (h2 : b ≤ 1000000000) : absI n ≤ b ↔ -b ≤ n ∧ n ≤ b := by unfold absI; omega
theorem impl_abs (n : Int) (w : World) (h1 : -9223372036854775808 ≤ n) (h2 : n ≤ 9223372036854775807) :
    Calls Try.prog 70 #[.int .i64 n] w fun e w' => e = .returned (.int .i64 (absI n)) ∧ w = w' := by
  have ha : absI n = max n (-(max n (-9223372036854775807))) := rfl
  generalize absI n = a at *
  go_enter Try.func70, Try.ntmps70
  go_wp2
  all_goals go_ret
  all_goals exact ⟨ret_int (by first | (simp; omega) | omega), rfl⟩

/-! ### lists of numbers -/
theorem all_take_succ (p : Int → Bool) (l : List Int) (k : Nat) (h : k < l.length) : (l.take (k + 1)).all p = ((l.take k).all p && p l[k]) := by
  rw [List.take_succ_eq_append_getElem h, List.all_append]; simp
theorem all_false_of (p : Int → Bool) (l : List Int) (k : Nat) (h : k < l.length) (hp : p l[k] = false) : l.all p = false := by
  rw [List.all_eq_false]; exact ⟨l[k], List.getElem_mem h, by simp [hp]⟩
theorem num_false {n : Int} (h : n < -1000000 ∨ 1000000 < n) : num n = false := by simp [num]; omega
theorem impl_areNumbers (b off cap : Nat) (l : List Int) (w : World) (hl : l.length ≤ 140737488351232) (hc : ∀ i, i < l.length → w.cell? ⟨b, off + i, none⟩ = some (.int .i64 (l.getD i 0))) :
    Calls Try.prog 68 #[.slice (some ⟨b, off, none⟩) l.length cap] w fun e w' => e = .returned (.bool (l.all num)) ∧ w = w' := by
  go_enter Try.func68, Try.ntmps68
  go_wp2
  go_loop [4, 7] (fun _ i => ∃ k : Nat, k ≤ l.length ∧ i = .int .i64 k ∧ (l.take k).all num = true) (fun _ i => l.length - (intOf i).toNat)
  case atStart => exact ⟨0, Nat.zero_le _, rfl, by simp⟩
  case round =>
    obtain ⟨k, hk, rfl, ha⟩ := hrel
    have HA := Lib.hid ha
    clear ha
    by_cases hlt : k < l.length
    · have h1 := hc k hlt
      have hs := all_take_succ num l k hlt
      have HS := Lib.hid hs
      clear hs
      by_cases hn : num l[k] = true
      · have hb := num_iff.1 hn
        obtain ⟨hb1, hb2⟩ := hb
        have HN := Lib.hid hn
        clear hn
        go_wp2
        go_round
        case rel => exact ⟨k + 1, by omega, by go_num, by rw [HS.out, HA.out, HN.out]; rfl⟩
        case measure => simp [intOf]; omega
      · have hn' : num l[k] = false := by simpa using hn
        have hf := all_false_of num l k hlt hn'
        have HF := Lib.hid hf
        have hb : l[k] < -1000000 ∨ 1000000 < l[k] := by simp [num] at hn'; omega
        clear hn hn' hf
        rcases hb with hb | hb
        all_goals
          go_wp2
          go_ret
          exact ⟨ret_bool HF.out.symm, rfl⟩
    · have hkk : l.take k = l := List.take_of_length_le (by omega)
      rw [hkk] at HA
      clear hkk
      go_wp2
      go_ret
      exact ⟨ret_bool HA.out.symm, rfl⟩

theorem impl_areNumbers1 (b : Nat) (x : Int) (w : World) (h0 : w.cell? ⟨b, 0, none⟩ = some (.int .i64 x)) :
    Calls Try.prog 68 #[.slice (some ⟨b, 0, none⟩) 1 1] w fun e w' => e = .returned (.bool (num x)) ∧ w = w' :=
  (impl_areNumbers b 0 1 [x] w (by simp) (fun i hi => by match i, hi with | 0, _ => simpa using h0)).mono fun e w' ⟨h, h'⟩ => ⟨by rw [h]; simp, h'⟩
theorem impl_areNumbers2 (b : Nat) (x y : Int) (w : World) (h0 : w.cell? ⟨b, 0, none⟩ = some (.int .i64 x)) (h1 : w.cell? ⟨b, 1, none⟩ = some (.int .i64 y)) :
    Calls Try.prog 68 #[.slice (some ⟨b, 0, none⟩) 2 2] w fun e w' => e = .returned (.bool (num x && num y)) ∧ w = w' :=
  (impl_areNumbers b 0 2 [x, y] w (by simp) (fun i hi => by match i, hi with | 0, _ => simpa using h0 | 1, _ => simpa using h1)).mono fun e w' ⟨h, h'⟩ => ⟨by rw [h]; simp, h'⟩
theorem impl_areNumbers3 (b : Nat) (x y z : Int) (w : World) (h0 : w.cell? ⟨b, 0, none⟩ = some (.int .i64 x)) (h1 : w.cell? ⟨b, 1, none⟩ = some (.int .i64 y)) (h2 : w.cell? ⟨b, 2, none⟩ = some (.int .i64 z)) :
    Calls Try.prog 68 #[.slice (some ⟨b, 0, none⟩) 3 3] w fun e w' => e = .returned (.bool (num x && num y && num z)) ∧ w = w' :=
  (impl_areNumbers b 0 3 [x, y, z] w (by simp) (fun i hi => by match i, hi with | 0, _ => simpa using h0 | 1, _ => simpa using h1 | 2, _ => simpa using h2)).mono fun e w' ⟨h, h'⟩ => ⟨by rw [h]; simp [Bool.and_assoc], h'⟩
theorem impl_areNumbers4 (b : Nat) (x y z u : Int) (w : World) (h0 : w.cell? ⟨b, 0, none⟩ = some (.int .i64 x)) (h1 : w.cell? ⟨b, 1, none⟩ = some (.int .i64 y)) (h2 : w.cell? ⟨b, 2, none⟩ = some (.int .i64 z)) (h3 : w.cell? ⟨b, 3, none⟩ = some (.int .i64 u)) :
    Calls Try.prog 68 #[.slice (some ⟨b, 0, none⟩) 4 4] w fun e w' => e = .returned (.bool (num x && num y && num z && num u)) ∧ w = w' :=
  (impl_areNumbers b 0 4 [x, y, z, u] w (by simp) (fun i hi => by match i, hi with | 0, _ => simpa using h0 | 1, _ => simpa using h1 | 2, _ => simpa using h2 | 3, _ => simpa using h3)).mono fun e w' ⟨h, h'⟩ => ⟨by rw [h]; simp [Bool.and_assoc], h'⟩