/- sort.Ints: the shelf's contract as one of this machine's. -/
import Derived.Test.YtfcndlagnhaafaaS0
import Derived.Test.YtfcndlagnhaafaaF13
namespace Go.Proofs.Ytfcndlagnhaafaa
open Go.RowKit
set_option linter.unusedSimpArgs false
set_option linter.unusedVariables false

def srt (l : List Int) : List Int := l.mergeSort fun x y => decide (x ≤ y)
theorem srt_len (l : List Int) : (srt l).length = l.length := List.length_mergeSort l
theorem ints_flat (l : List Int) : (ints l).flatten = l.map (Value.int .i64) := by
  unfold ints
  induction l with
  | nil => rfl
  | cons x l ih => simp only [List.map_cons, List.flatten_cons, ih]; rfl

theorem go_sortInts (l : List Int) (h0 : l ≠ []) (hl : l.length ≤ 1000000000) : AFun Try.prog 52 [FI l] [.c (.slc (0, 0) l.length)] (.tup []) [FI (srt l)] [] := by
  refine ⟨rfl, fun w F G vs hR hcov hlen hargs => ?_⟩
  obtain ⟨v, rfl⟩ : ∃ v, vs = [v] := by
    match vs, hlen with
    | [v], _ => exact ⟨v, rfl⟩
  obtain ⟨b0, sz, l1, q1, q1b, q2, q3, q4⟩ := hargs 0 _ v rfl rfl
  have hb : semL [FI l] (0, 0) = some (FI l) := rfl
  rw [hb] at q1
  simp only [Option.some.injEq] at q1
  subst q1
  have hil := ints_len l
  have q5 : (ints l).length = l1 := by
    simp only [arrB, Option.some.injEq, Prod.mk.injEq] at q1b
    exact q1b.2
  have hv : v = G (0, 0) := q4 (by omega)
  obtain ⟨f1, f2, f3, ⟨f4, f5⟩, f6⟩ := hR.own (0, 0) _ hb
  rcases f5 with ⟨_, hn⟩ | ⟨B, cap, cur, g1, g2, g3, g4, g5, g6, g7⟩
  · exact absurd (List.eq_nil_of_length_eq_zero (by omega)) h0
  rw [hil] at g1 g4 g7
  rw [ints_flat, Nat.mul_one] at g7
  rw [Nat.mul_one] at g6
  have hB : B < w.heap.size := (Array.getElem?_eq_some_iff.1 g3).1
  have hFB : ¬ F B := f6 B (by rw [g1]; rfl)
  have hcur : ∀ j, j < l.length → cur[j]? = some (.int .i64 l.toArray[j]!) := fun j hj => by
    have := congrArg (·[j]?) g7
    simp only [List.getElem?_take, if_pos hj, List.getElem?_map, List.getElem?_eq_getElem hj, Option.map_some, Array.getElem?_toList] at this
    rw [this]
    simp [hj]
  have hH : Sort.Holds (Value.int .i64) w B 0 l.toArray := fun j hj => by
    have hj : j < l.length := by simpa using hj
    refine ⟨?_, ?_⟩
    · simp only [World.cell?, g3, Nat.zero_add]
      exact hcur j hj
    · simp [World.frozen?, g3]
  have hc := Any.sort_Ints Try.lays191 B 0 cap l w hH hB (by omega)
  have hargs' : [v].toArray = #[.slice (some ⟨B, 0, none⟩) l.length cap] := by rw [hv, g1]
  rw [hargs']
  have hc' : Calls Try.prog 52 #[.slice (some ⟨B, 0, none⟩) l.length cap] w _ := hc
  refine hc'.mono fun e' w' ⟨he, n, os, hw⟩ => ?_
  subst hw
  have hsl := srt_len l
  refine ⟨_, fun m => if m = (0, 0) then G m else .bool false, he, ?_, ⟨_, rfl, rfl, fun j p hj => by simp at hj⟩, fun i hi => ?_, fun i hi B' hB' => ?_⟩
  · have heap : ∀ k, k < w.heap.size → k ≠ B → (Sort.grow (Sort.putRow (Value.int .i64) (Sort.ahead w n) B 0 (srt l).toArray) os).heap[k]? = w.heap[k]? := fun k hk hne => by
      simp only [Sort.grow, Sort.putRow, Sort.mapBlock, Sort.ahead]
      rw [Array.getElem?_append_left (by simpa using hk), Array.getElem?_modify, if_neg (by omega)]
    have heapB : (Sort.grow (Sort.putRow (Value.int .i64) (Sort.ahead w n) B 0 (srt l).toArray) os).heap[B]? = some (.cells (Sort.putCells (Value.int .i64) 0 (srt l).toArray cur) 3 (0, 0)) := by
      simp only [Sort.grow, Sort.putRow, Sort.mapBlock, Sort.ahead]
      rw [Array.getElem?_append_left (by simpa using hB), Array.getElem?_modify, if_pos rfl, g3]
      rfl
    refine ⟨hR.bd, rfl, rfl, rfl, ?_, fun k hk => heap k (hR.bd k hk) (fun e => hFB (e ▸ hk)), fun m b hm => ?_, fun p q B' hp hq _ _ => ?_⟩
    · simp only [Sort.grow, Sort.putRow, Sort.mapBlock, Sort.ahead, Array.size_append, Array.size_modify]
      omega
    · obtain ⟨m1, m2⟩ := semL_some hm
      have hm0 : m = (0, 0) ∧ b = FI (srt l) := by
        rw [m1]
        cases hq : m.2 with
        | zero => rw [hq] at m2; simp at m2; exact ⟨rfl, m2.symm⟩
        | succ q => rw [hq] at m2; simp at m2
      obtain ⟨rfl, rfl⟩ := hm0
      have hsi := ints_len (srt l)
      refine ⟨f1, fun r hr => ?_, fun r hr => ?_, ⟨?_, .inr ⟨B, cap, Sort.putCells (Value.int .i64) 0 (srt l).toArray cur, ?_, Nat.zero_le _, heapB, by omega, g5, ?_, ?_⟩⟩, fun B' hB' => ?_⟩
      · obtain ⟨x, _, rfl⟩ := List.mem_map.1 hr; rfl
      · obtain ⟨x, _, rfl⟩ := List.mem_map.1 hr
        intro u hu
        simp at hu
        subst hu
        rfl
      · rw [ints_flat]; simp [hsi]
      · simp only [if_true]
        rw [g1, hsi, hsl]
      · simp [Sort.putCells, g6]
      · rw [ints_flat, hsi, hsl, Nat.mul_one]
        apply List.ext_getElem?
        intro j
        rw [List.getElem?_take, List.getElem?_map]
        by_cases hj : j < l.length
        · have hjs : j < (srt l).length := by omega
          have hjc : j < cur.size := by omega
          rw [if_pos hj, List.getElem?_eq_getElem hjs, Array.getElem?_toList]
          simp [Sort.putCells, hjc, hsl, hj, hjs]
        · rw [if_neg hj, List.getElem?_eq_none (by omega)]
          rfl
      · simp only [if_true] at hB'
        exact f6 B' hB'
    · have one : ∀ m : Nm, semL ([FI (srt l)] ++ []) m ≠ none → m = (0, 0) := fun m hm => by
        obtain ⟨b, hb⟩ := Option.ne_none_iff_exists'.1 hm
        obtain ⟨h1, h2⟩ := semL_some hb
        rw [h1]
        cases h3 : m.2 with
        | zero => rfl
        | succ q => rw [h3] at h2; simp at h2
      rw [one p hp, one q hq]
  · have : i = 0 := by simpa using hi
    subst this
    simp
  · simp only [List.length_singleton] at hi
    dsimp only at hB'
    rw [if_neg (by simp; omega)] at hB'
    simp [blkOf] at hB'

end Go.Proofs.Ytfcndlagnhaafaa
