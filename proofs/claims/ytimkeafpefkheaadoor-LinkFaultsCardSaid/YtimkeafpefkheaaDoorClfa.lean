


/- LinkFaults: called with any list of texts and any fault, the law returns true and changes neither; the table of faults reads as the program's text lays it. No condition. -/
import Derived.Test.YtimkeafpefkheaaDoorZ
import Derived.Test.YtimkeafpefkheaaDoorCa
namespace Go.Proofs.YtimkeafpefkheaaDoor
open Go.ChangeShapes Go.WideShapes Go.ChangeAt Go.RowKit Go.Joins Go.Deep
set_option linter.unusedSimpArgs false
set_option linter.unusedVariables false

set_option maxRecDepth 100000 in
theorem linkFaults_lifted (os : Os) (started : os.Started) (H : Type) (enc : TypeId × Value → H) :
    ReturnsInHanded {} Tryd.checked os 4 .any (fun w args => (Rows.linkFaultsSpec.pre enc Tryd.prog Tryd.f4 [] false w args ∧ laidMetH Tryd.prog laid1 w) ∧ sizedMet enc Tryd.prog Tryd.f4 (OpenSpec.ofChange Rows.linkFaultsSpec) false w args)
      (Rows.linkFaultsSpec.post enc Tryd.prog Tryd.f4 false true false false) := by
  refine returnsInHanded_of_change_and (C := Tryd.checked) (X := fun w _ => laidMetH Tryd.prog laid1 w) (fun _ _ _ hh h => h.of_heap hh) Tryd.own started (by kernel_rfl) Tryd.func4
    (ChangeSpec.witness_shaped (enc := enc) (C := Tryd.checked) (os := os) (X := fun w _ => laidMetH Tryd.prog laid1 w) false (World.doorLaid Tryd.prog 19 os) #[.slice none 0 0, .agg #[.int .i64 0, .int .i64 0, .int .i64 0, .int .i64 0]] 8 rfl (World.shaped_of_RefB (by kernel_rfl) (by kernel_rfl)) (by kernel_rfl) (by kernel_rfl) (by kernel_rfl) (door_met os _)) ?_
  intro W base args ds gs before hval0 hW _ _ hL _
  have hval : ∀ (j : Nat) t v, Tryd.f4.params[j]? = some t → args[j]? = some v → Value.okWide Tryd.prog W .any base t v := hval0
  have hW' := hW
  obtain ⟨p, q, hA0, hV, rfl, hfz, hnd⟩ := hW
  have hA : DataW.TrodAll enc Tryd.prog W 0 (fun _ => true) true Tryd.f4.params.toList args.toList ds p := hA0
  rw [Tryd.params4] at hA hval
  have hKD := of_laid hL
  obtain ⟨v0, v1, d0, d1, p0, p1, rfl, rfl, rfl, h0, h1⟩ := trodAll_two hA
  obtain ⟨rfl, rfl⟩ := trodVars_none hV
  obtain ⟨l, hl, hz⟩ := open_rdt Tryd.underlying22 Tryd.underlying9 (by kernel_rfl) (hval 0 _ v0 rfl rfl) h0
  obtain ⟨z0, z1, z2, z3, y0, y1, y2, y3, n, rfl, rfl, rfl, e0, e1, e2, e3⟩ := open_agg4 Tryd.underlying36 (by kernel_rfl) (by kernel_rfl) (hval 1 _ v1 rfl rfl) h1
  obtain ⟨i0, k0, _, w0⟩ := DataW.trod_int Tryd.underlying3 e0
  obtain ⟨i1, k1, _, w1⟩ := DataW.trod_int Tryd.underlying3 e1
  obtain ⟨i2, k2, _, w2⟩ := DataW.trod_int Tryd.underlying3 e2
  obtain ⟨i3, k3, _, w3⟩ := DataW.trod_int Tryd.underlying3 e3
  simp only [List.cons.injEq, and_true] at k0 k1 k2 k3
  subst k0 k1 k2 k3
  clear hA0 hval0
  refine (faults_any v0 l hz ⟨i0, i1, i2, i3⟩ ⟨bd_i64 w0, bd_i64 w1, bd_i64 w2, bd_i64 w3⟩ W hKD hl).mono fun e W' ⟨he, hb⟩ => ?_
  subst he
  exact ⟨_, rfl, post_law Tryd.laidOut (by kernel_rfl) rfl rfl Tryd.underlying4 hW' rfl hb⟩

theorem linkFaults_said : Rows.LinkFaultsSaid :=
  OpenClaim.holds_of_wide 4 Tryd.f4 rfl rfl rfl rfl rfl rfl rfl ⟨rfl, rfl, rfl, rfl, rfl⟩ rfl rfl rfl rfl rfl (by kernel_rfl) Tryd.func4 (by kernel_rfl)
    (of_decide_eq_true (by kernel_rfl)) (by unfold Func.isWrapper; rw [if_neg (of_decide_eq_false (by kernel_rfl))]; exact ⟨rfl, rfl⟩)
    (fun os started H enc _ => linkFaults_lifted os started H enc)

theorem linkFaults_holds : Rows.LinkFaultsCardSaid :=
  Claim7.holds_tied_plain_at .later [] [.funcs] true (true, "c6d179f98de627aad8a65784be011a6208f59f7b88be516f39c8fb7a0a30092a") false
    linkFaults_said (fun _ h => by cases h) (by kernel_rfl) (fun _ h => by cases h) linkFaults_row_tie rfl ⟨rfl, rfl⟩ (by kernel_rfl) rfl
    (fun f fn hf hfn => by
      obtain rfl : f = 4 := Option.some.inj ((show Tryd.prog.funcNamed "packhorse/packhorselaw36.LinkFaults" = some 4 by kernel_rfl).symm.trans hf) |>.symm
      obtain rfl : fn = Tryd.f4 := (Option.some.inj (Tryd.func4.symm.trans hfn)).symm
      exact ⟨by kernel_rfl, fun j t ht => by
        rw [Tryd.params4] at ht
        have hm : t ∈ ([22, 36] : List TypeId) := by simpa using Array.mem_of_getElem? ht
        have hall : (([22, 36] : List TypeId).all fun u => !Tryd.prog.wantsStandIn u) = true := by kernel_rfl
        exact (show Tryd.prog.wantsStandIn t = false by simpa using List.all_eq_true.1 hall t hm)⟩)
    (by kernel_rfl)
#print axioms linkFaults_holds
end Go.Proofs.YtimkeafpefkheaaDoor
