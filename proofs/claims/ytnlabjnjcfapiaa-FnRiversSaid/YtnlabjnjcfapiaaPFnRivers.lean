/- FnRivers: for every input the law returns true and each argument reads behind the call as it read before. No condition. -/
import Derived.Test.YtnlabjnjcfapiaaE21
import Derived.Test.YtnlabjnjcfapiaaTL
import Derived.Test.YtnlabjnjcfapiaaK
namespace Go.Proofs.Ytnlabjnjcfapiaa
open Go.ChangeShapes Go.WideShapes Go.ChangeAt Go.RowKit Go.Joins
namespace fnRivers
set_option maxRecDepth 100000 in
theorem lifted (os : Os) (started : os.Started) (H : Type) (enc : TypeId × Value → H) :
    ReturnsInHanded {} Try.checked os 3 .any (Rows.fnRiversSpec.pre6 enc Try.prog Try.f3 Rows.fnRiversRow.domain false) (Rows.fnRiversSpec.post enc Try.prog Try.f3 false true false false) := by
  refine returnsInHanded_of_change (C := Try.checked) Try.own started (by kernel_rfl) Try.func3
    (ChangeSpec.witness6 (enc := enc) (C := Try.checked) false ⟨#[], #[.slice none 0 0, .slice none 0 0], []⟩ 8 (by kernel_rfl) (by kernel_rfl) (by kernel_rfl) (by kernel_rfl)) ?_
  intro W base args ds gs before hval0 hW _ _
  have hval : ∀ (j : Nat) t v, Try.f3.params[j]? = some t → args[j]? = some v → Value.okWide Try.prog W .any base t v := hval0
  have hW' := hW
  obtain ⟨p, q, hA0, hV, rfl, hfz, hnd⟩ := hW
  have hA : DataW.TrodAll enc Try.prog W 0 (fun _ => true) true Try.f3.params.toList args.toList ds p := hA0
  rw [Try.params3] at hA hval
  obtain ⟨v0, vs0, d0, ds0, p0, q0, hargs, rfl, rfl, h0, r0⟩ := trodAll_cons hA
  obtain ⟨v1, vs1, d1, ds1, p1, q1, rfl, rfl, rfl, h1, r1⟩ := trodAll_cons r0
  obtain ⟨rfl, rfl, rfl⟩ := trodAll_nil r1
  obtain rfl : args = #[v0, v1] := by cases args; simp_all
  obtain ⟨rfl, rfl⟩ := trodVars_none hV
  have hk : ∀ (v : Value) (W' : World), v = .bool true → Below W.heap.size W W' → ∃ v', Ending.returned v = .returned v' ∧ Rows.fnRiversSpec.post enc Try.prog Try.f3 false true false false W #[v0, v1] v' W' := by
    intro v W' hv hb
    subst hv
    refine ⟨_, rfl, law_post (b := 4) Try.laidOut ?_ Try.underlying4 rfl rfl rfl rfl rfl hW' hb⟩
    rw [Try.params3]
    intro t ht
    simp only [List.mem_cons, List.not_mem_nil, or_false] at ht
    rcases ht with rfl | rfl
    all_goals exact ⟨by kernel_rfl, of_decide_eq_true (by kernel_rfl)⟩
  obtain ⟨l0, k0⟩ := cameb_arg Try.underlying22 Try.underlying5 (by kernel_rfl) (hval 0 22 v0 rfl rfl) h0
  obtain ⟨l1, k1⟩ := cameb_arg Try.underlying22 Try.underlying5 (by kernel_rfl) (hval 1 22 v1 rfl rfl) h1
  refine (law_Rivers l0 l1 W _ k0 _ k1).mono fun e W' ⟨he, hb⟩ => ?_
  subst he
  exact hk _ W' rfl hb

theorem proved : Rows.FnRiversSaid :=
  OpenClaim.holds_of_wide 3 Try.f3 rfl rfl rfl rfl rfl rfl rfl ⟨rfl, rfl, rfl, rfl, rfl⟩ rfl rfl rfl rfl rfl (by kernel_rfl) Try.func3 (by kernel_rfl)
    (of_decide_eq_true (by kernel_rfl)) (by unfold Func.isWrapper; first | (rw [if_pos (by decide +kernel)]; kernel_rfl) | (rw [if_neg (by decide +kernel)]; exact ⟨rfl, rfl⟩))
    (fun os started H enc _ => lifted os started H enc)
end fnRivers
#print axioms fnRivers.proved
end Go.Proofs.Ytnlabjnjcfapiaa
