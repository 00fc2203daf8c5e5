



/- RouteFirst: for both lists of numbers and both numbers the law returns true. No condition. -/
import Derived.Test.YtgmfifilgbbogaaFXa
import Derived.Test.YtgmfifilgbbogaaO
import Derived.Test.YtgmfifilgbbogaaRows
namespace Go.Proofs.Ytgmfifilgbbogaa
open Go.ChangeShapes Go.WideShapes Go.ChangeAt Go.RowKit Go.Joins Go.Deep
set_option linter.unusedSimpArgs false
set_option linter.unusedVariables false

theorem Try.cells3 : Try.prog.cellsOf 3 = 1 := by kernel_rfl

set_option maxRecDepth 100000 in
theorem routeFirst_lifted (os : Os) (started : os.Started) (H : Type) (enc : TypeId × Value → H) :
    ReturnsInHanded {} Try.checked os 7 .any (Rows.routeFirstSpec.pre6 enc Try.prog Try.f7 Rows.routeFirstRow.domain false) (Rows.routeFirstSpec.post enc Try.prog Try.f7 false true false false) := by
  refine returnsInHanded_of_change (C := Try.checked) Try.own started (by kernel_rfl) Try.func7
    (ChangeSpec.witness6 (enc := enc) (C := Try.checked) false ⟨#[], #[.slice none 0 0, .int .i64 0, .slice none 0 0, .int .i64 0], []⟩ 8 (by kernel_rfl) (by kernel_rfl) (by kernel_rfl) (by kernel_rfl)) ?_
  intro W base args ds gs before hval0 hW hcnd _
  have hval : ∀ (j : Nat) t v, Try.f7.params[j]? = some t → args[j]? = some v → Value.okWide Try.prog W .any base t v := hval0
  have hW' := hW
  obtain ⟨p, q, hA0, hV, rfl, hfz, hnd⟩ := hW
  have hA : DataW.TrodAll enc Try.prog W 0 (fun _ => true) true Try.f7.params.toList args.toList ds p := hA0
  rw [Try.params7] at hA hval
  obtain ⟨v0, v1, v2, v3, d0, d1, d2, d3, p0, p1, p2, p3, rfl, rfl, rfl, h0, h1, h2, h3⟩ := trodAll_four hA
  obtain ⟨rfl, rfl⟩ := trodVars_none hV
  obtain ⟨nums, hr, hwf⟩ := open_rdi Try.underlying25 Try.underlying3 Try.cells3 (hval 0 25 v0 rfl rfl) h0
  obtain ⟨x1, rfl, _, _, hx1⟩ := open_int Try.underlying3 (hval 1 3 v1 rfl rfl) h1
  obtain ⟨cl, hr2, hwf2⟩ := open_rdi Try.underlying25 Try.underlying3 Try.cells3 (hval 2 25 v2 rfl rfl) h2
  obtain ⟨x3, rfl, _, _, hx3⟩ := open_int Try.underlying3 (hval 3 3 v3 rfl rfl) h3
  clear hA0 hval0
  refine (lfirst_any _ _ nums cl x1 x3 (fun x hx => bd_i64 (hwf x hx)) (bd_i64 hx1) (fun x hx => bd_i64 (hwf2 x hx)) (bd_i64 hx3) _ hr hr2).mono fun e W' ⟨he, hb⟩ => ?_
  subst he
  exact ⟨_, rfl, post_law Try.laidOut (by kernel_rfl) rfl rfl Try.underlying4 hW' rfl hb⟩

theorem routeFirst_holds : Rows.RouteFirstSaid :=
  OpenClaim.holds_of_wide 7 Try.f7 rfl rfl rfl rfl rfl rfl rfl ⟨rfl, rfl, rfl, rfl, rfl⟩ rfl rfl rfl rfl rfl (by kernel_rfl) Try.func7 (by kernel_rfl)
    (of_decide_eq_true (by kernel_rfl)) (by unfold Func.isWrapper; rw [if_neg (of_decide_eq_false (by kernel_rfl))]; exact ⟨rfl, rfl⟩)
    (fun os started H enc _ => routeFirst_lifted os started H enc)
#print axioms routeFirst_holds
end Go.Proofs.Ytgmfifilgbbogaa
