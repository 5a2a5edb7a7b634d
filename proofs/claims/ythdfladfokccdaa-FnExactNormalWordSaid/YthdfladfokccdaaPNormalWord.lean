/- FnExactNormalWord: for every input the law returns true and each argument reads behind the call as it read before. No condition. -/
import Derived.Test.YthdfladfokccdaaE21
import Derived.Test.YthdfladfokccdaaG6
import Derived.Test.YthdfladfokccdaaK
namespace Go.Proofs.Ythdfladfokccdaa
open Go.ChangeShapes Go.WideShapes Go.ChangeAt Go.RowKit Go.Joins
namespace fnExactNormalWord
theorem cellsWord : Try.prog.cellsOf 35 = 2 := by kernel_rfl
set_option maxRecDepth 100000 in
theorem lifted (os : Os) (started : os.Started) (H : Type) (enc : TypeId × Value → H) :
    ReturnsInHanded {} Try.checked os 11 .any (Rows.fnExactNormalWordSpec.pre6 enc Try.prog Try.f11 Rows.fnExactNormalWordRow.domain false) (Rows.fnExactNormalWordSpec.post enc Try.prog Try.f11 false true false false) := by
  refine returnsInHanded_of_change (C := Try.checked) Try.own started (by kernel_rfl) Try.func11
    (ChangeSpec.witness6 (enc := enc) (C := Try.checked) false ⟨#[], #[.agg #[.int .i64 0, .slice none 0 0]], []⟩ 8 (by kernel_rfl) (by kernel_rfl) (by kernel_rfl) (by kernel_rfl)) ?_
  intro W base args ds gs before hval0 hW _ _
  have hval : ∀ (j : Nat) t v, Try.f11.params[j]? = some t → args[j]? = some v → Value.okWide Try.prog W .any base t v := hval0
  have hW' := hW
  obtain ⟨p, q, hA0, hV, rfl, hfz, hnd⟩ := hW
  have hA : DataW.TrodAll enc Try.prog W 0 (fun _ => true) true Try.f11.params.toList args.toList ds p := hA0
  rw [Try.params11] at hA hval
  obtain ⟨v0, vs0, d0, ds0, p0, q0, hargs, rfl, rfl, h0, r0⟩ := trodAll_cons hA
  obtain ⟨rfl, rfl, rfl⟩ := trodAll_nil r0
  obtain rfl : args = #[v0] := by cases args; simp_all
  obtain ⟨rfl, rfl⟩ := trodVars_none hV
  have hk : ∀ (v : Value) (W' : World), v = .bool true → Below W.heap.size W W' → ∃ v', Ending.returned v = .returned v' ∧ Rows.fnExactNormalWordSpec.post enc Try.prog Try.f11 false true false false W #[v0] v' W' := by
    intro v W' hv hb
    subst hv
    refine ⟨_, rfl, law_post (b := 4) Try.laidOut ?_ Try.underlying4 rfl rfl rfl rfl rfl hW' hb⟩
    rw [Try.params11]
    intro t ht
    simp only [List.mem_cons, List.not_mem_nil, or_false] at ht
    subst ht
    all_goals exact ⟨by kernel_rfl, of_decide_eq_true (by kernel_rfl)⟩
  obtain ⟨c00, c01, y00, y01, m0, rfl, rfl, rfl, hy00, hy01⟩ := open_agg2 Try.underlying35 (by kernel_rfl) cellsWord (hval 0 35 v0 rfl rfl) h0
  obtain ⟨a00, e00, rfl, w00⟩ := DataW.trod_int Try.underlying3 hy00
  obtain ⟨l00, u00⟩ := bd_of_wf w00
  obtain ⟨x0, l0, e01, k0, b0, z0⟩ := came_of_trod Try.underlying33 Try.underlying3 (by kernel_rfl) hy01
  simp at e00 e01
  subst e00 e01
  refine (law_NormalWord a00 l0 W (by omega) (by omega) (by omega) _ k0).mono fun e W' ⟨he, hb⟩ => ?_
  subst he
  exact hk _ W' rfl hb

theorem proved : Rows.FnExactNormalWordSaid :=
  OpenClaim.holds_of_wide 11 Try.f11 rfl rfl rfl rfl rfl rfl rfl ⟨rfl, rfl, rfl, rfl, rfl⟩ rfl rfl rfl rfl rfl (by kernel_rfl) Try.func11 (by kernel_rfl)
    (of_decide_eq_true (by kernel_rfl)) (by unfold Func.isWrapper; first | (rw [if_pos (by decide +kernel)]; kernel_rfl) | (rw [if_neg (by decide +kernel)]; exact ⟨rfl, rfl⟩))
    (fun os started H enc _ => lifted os started H enc)
end fnExactNormalWord
#print axioms fnExactNormalWord.proved
end Go.Proofs.Ythdfladfokccdaa
