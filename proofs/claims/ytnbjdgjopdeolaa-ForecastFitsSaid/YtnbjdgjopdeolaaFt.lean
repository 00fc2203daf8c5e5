


/- ForecastFits: for every config, space, plan and time the law returns true. No condition. -/
import Derived.Test.YtnbjdgjopdeolaaTF
import Derived.Test.YtnbjdgjopdeolaaOD
import Derived.Test.YtnbjdgjopdeolaaRows
namespace Go.Proofs.Ytnbjdgjopdeolaa
open Go.ChangeShapes Go.WideShapes Go.ChangeAt Go.RowKit Go.Joins Go.Deep
set_option linter.unusedSimpArgs false
set_option linter.unusedVariables false


set_option maxRecDepth 100000 in
theorem forecastFits_lifted (os : Os) (started : os.Started) (H : Type) (enc : TypeId × Value → H) :
    ReturnsInHanded {} Try.checked os 16 .any (Rows.forecastFitsSpec.pre6 enc Try.prog Try.f16 Rows.forecastFitsRow.domain false) (Rows.forecastFitsSpec.post enc Try.prog Try.f16 false true false false) := by
  refine returnsInHanded_of_change (C := Try.checked) Try.own started (by kernel_rfl) Try.func16
    (ChangeSpec.witness6 (enc := enc) (C := Try.checked) false ⟨#[], #[.agg #[.int .i64 0, .int .u64 0, .int .u64 0, .int .u64 0, .int .u64 0, .int .i64 0, .int .i64 0, .int .i64 0, .int .i64 0, .int .i64 0, .int .i64 0, .int .i64 0, .int .i64 0, .int .i64 0, .int .i64 0, .int .i64 0], .agg #[.int .u64 0, .int .u64 0, .slice none 0 0], .slice none 0 0, .agg #[.int .i64 0, .int .i64 0, .int .u64 0]], []⟩ 8 (by kernel_rfl) (by kernel_rfl) (by kernel_rfl) (by kernel_rfl)) ?_
  intro W base args ds gs before hval0 hW hcnd _
  have hval : ∀ (j : Nat) t v, Try.f16.params[j]? = some t → args[j]? = some v → Value.okWide Try.prog W .any base t v := hval0
  have hW' := hW
  obtain ⟨p, q, hA0, hV, rfl, hfz, hnd⟩ := hW
  have hA : DataW.TrodAll enc Try.prog W 0 (fun _ => true) true Try.f16.params.toList args.toList ds p := hA0
  rw [Try.params16] at hA hval
  obtain ⟨v0, v1, v2, v3, d0, d1, d2, d3, p0, p1, p2, p3, rfl, rfl, rfl, h0, h1, h2, h3⟩ := trodAll_four hA
  obtain ⟨rfl, rfl⟩ := trodVars_none hV
  obtain ⟨c, rfl⟩ := open_cfg (hval 0 35 v0 rfl rfl) h0
  obtain ⟨q, st, rs, xs, rfl, hi, hr⟩ := open_spc (hval 1 38 v1 rfl rfl) h1
  obtain ⟨cs, hp, hwf⟩ := open_rdc Try.underlying39 Try.underlying23 rfl (by kernel_rfl) Try.cells23 Try.underlying3 (by simp) (hval 2 39 v2 rfl rfl) h2
  obtain ⟨now, un, sz, rfl, hno, hun, hsz⟩ := open_ahead (by kernel_rfl) (hval 3 41 v3 rfl rfl) h3
  clear hA0 hval0
  refine (lawFits c q st rs xs cs v2 now un sz hi hwf hno hun _ hr hp).mono fun e W' ⟨he, hb⟩ => ?_
  subst he
  exact ⟨_, rfl, post_law Try.laidOut (by kernel_rfl) rfl rfl Try.underlying4 hW' rfl hb⟩

theorem forecastFits_holds : Rows.ForecastFitsSaid :=
  OpenClaim.holds_of_wide 16 Try.f16 rfl rfl rfl rfl rfl rfl rfl ⟨rfl, rfl, rfl, rfl, rfl⟩ rfl rfl rfl rfl rfl (by kernel_rfl) Try.func16 (by kernel_rfl)
    (of_decide_eq_true (by kernel_rfl)) (by unfold Func.isWrapper; rw [if_neg (of_decide_eq_false (by kernel_rfl))]; exact ⟨rfl, rfl⟩)
    (fun os started H enc _ => forecastFits_lifted os started H enc)
#print axioms forecastFits_holds
end Go.Proofs.Ytnbjdgjopdeolaa
