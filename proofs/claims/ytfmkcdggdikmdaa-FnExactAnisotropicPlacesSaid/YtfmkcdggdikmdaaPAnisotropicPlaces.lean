/- FnExactAnisotropicPlaces: for every input the law returns true and each argument reads behind the call as it read before. No condition. -/
import Derived.Test.YtfmkcdggdikmdaaE21
import Derived.Test.YtfmkcdggdikmdaaHJ
import Derived.Test.YtfmkcdggdikmdaaK
namespace Go.Proofs.Ytfmkcdggdikmdaa
open Go.ChangeShapes Go.WideShapes Go.ChangeAt Go.RowKit Go.Joins
namespace fnExactAnisotropicPlaces
set_option maxRecDepth 100000 in
theorem lifted (os : Os) (started : os.Started) (H : Type) (enc : TypeId × Value → H) :
    ReturnsInHanded {} Try.checked os 10 .any (Rows.fnExactAnisotropicPlacesSpec.pre6 enc Try.prog Try.f10 Rows.fnExactAnisotropicPlacesRow.domain false) (Rows.fnExactAnisotropicPlacesSpec.post enc Try.prog Try.f10 false true false false) := by
  refine returnsInHanded_of_change (C := Try.checked) Try.own started (by kernel_rfl) Try.func10
    (ChangeSpec.witness6 (enc := enc) (C := Try.checked) false ⟨#[], #[.slice none 0 0], []⟩ 8 (by kernel_rfl) (by kernel_rfl) (by kernel_rfl) (by kernel_rfl)) ?_
  intro W base args ds gs before hval0 hW _ _
  have hval : ∀ (j : Nat) t v, Try.f10.params[j]? = some t → args[j]? = some v → Value.okWide Try.prog W .any base t v := hval0
  have hW' := hW
  obtain ⟨p, q, hA0, hV, rfl, hfz, hnd⟩ := hW
  have hA : DataW.TrodAll enc Try.prog W 0 (fun _ => true) true Try.f10.params.toList args.toList ds p := hA0
  rw [Try.params10] at hA hval
  obtain ⟨v0, vs0, d0, ds0, p0, q0, hargs, rfl, rfl, h0, r0⟩ := trodAll_cons hA
  obtain ⟨rfl, rfl, rfl⟩ := trodAll_nil r0
  obtain rfl : args = #[v0] := by cases args; simp_all
  obtain ⟨rfl, rfl⟩ := trodVars_none hV
  have hk : ∀ (v : Value) (W' : World), v = .bool true → Below W.heap.size W W' → ∃ v', Ending.returned v = .returned v' ∧ Rows.fnExactAnisotropicPlacesSpec.post enc Try.prog Try.f10 false true false false W #[v0] v' W' := by
    intro v W' hv hb
    subst hv
    refine ⟨_, rfl, law_post (b := 4) Try.laidOut ?_ Try.underlying4 rfl rfl rfl rfl rfl hW' hb⟩
    rw [Try.params10]
    intro t ht
    simp only [List.mem_cons, List.not_mem_nil, or_false] at ht
    subst ht
    all_goals exact ⟨by kernel_rfl, of_decide_eq_true (by kernel_rfl)⟩
  obtain ⟨l0, k0, b0, z0⟩ := came_arg Try.underlying22 Try.underlying3 (by kernel_rfl) (hval 0 22 v0 rfl rfl) h0
  refine (law_AnisotropicPlaces l0 W (by omega) _ k0).mono fun e W' ⟨he, hb⟩ => ?_
  subst he
  exact hk _ W' rfl hb

theorem proved : Rows.FnExactAnisotropicPlacesSaid :=
  OpenClaim.holds_of_wide 10 Try.f10 rfl rfl rfl rfl rfl rfl rfl ⟨rfl, rfl, rfl, rfl, rfl⟩ rfl rfl rfl rfl rfl (by kernel_rfl) Try.func10 (by kernel_rfl)
    (of_decide_eq_true (by kernel_rfl)) (by unfold Func.isWrapper; first | (rw [if_pos (by decide +kernel)]; kernel_rfl) | (rw [if_neg (by decide +kernel)]; exact ⟨rfl, rfl⟩))
    (fun os started H enc _ => lifted os started H enc)
end fnExactAnisotropicPlaces
#print axioms fnExactAnisotropicPlaces.proved
end Go.Proofs.Ytfmkcdggdikmdaa
