

/- Forecast: the law's awake. -/
import Derived.Test.YtnbjdgjopdeolaaFN
namespace Go.Proofs.Ytnbjdgjopdeolaa
open Go.RowKit Go.Shelf
set_option linter.unusedSimpArgs false
set_option linter.unusedVariables false
set_option maxRecDepth 100000

theorem exP_wf : ∀ c, c ∈ exP → Wf c := by
  intro c hc
  simp at hc
  rcases hc with rfl | rfl <;> (unfold Wf; decide)
theorem rz_nn : Nn rz := by
  intro x hx
  simp [rz] at hx
  subst hx; omega
theorem ex_inp (st : Int) (h : 0 ≤ st ∧ st < 18446744073709551616) : Inp 100 st rz := ⟨by omega, h, rz_nn⟩
theorem ib_lit (x : Int) (h : 0 ≤ x ∧ x ≤ 2000) : Ib x := by unfold Ib; omega
abbrev exW : List Lv := [⟨0, 10, 20⟩, ⟨1, 18, 20⟩, ⟨2, 21, 20⟩, ⟨3, 24, 12⟩, ⟨4, 19, 12⟩]
theorem ex_fck : fck exF 100 10 rz exP 0 5 = 0 := by decide
theorem ex_lv : lvV exF 100 10 rz exP 0 5 = exW := by kernel_rfl
theorem Below.al2 {w w1 w2 : World} {o1 o2 : Obj} (h : Below w.heap.size w w1) (hb : Below ((w1.alloc o1).alloc o2).heap.size ((w1.alloc o1).alloc o2) w2) : Below w.heap.size w w2 :=
  Below.next (Below.al (Below.al h _) _) hb
set_option maxHeartbeats 1000000 in
theorem awake26_any (w : World) : Calls Try.prog 28 #[] w fun e w' => e = .returned (.bool true) ∧ Below w.heap.size w w' := by
  have HF : Hid (fck exF 100 10 rz exP 0 5 = 0) := ex_fck
  have HL : Hid (lvV exF 100 10 rz exP 0 5 = exW) := ex_lv
  go_enter Try.func28, Try.ntmps28
  go_wp2_with fail
  refine (example_any 10 _).mono ?_
  rintro e w1 ⟨a, r, b, rfl, hR, hP, hB⟩
  have HR := Lib.hid hR
  have HP := Lib.hid hP
  clear hR hP
  go_wp2_with fail
  refine (levels_any exF 100 10 _ rz exP _ 0 5 (ex_inp 10 (by omega)) exP_wf (ib_lit 0 (by omega)) (ib_lit 5 (by omega)) _ (HR.out.keep (by repeat (first | assumption | exact Below.refl _ _ | apply Below.al | apply below_drewN | apply Below.drew | refine Below.next ?_ (by assumption)))) (HP.out.keep (by repeat (first | assumption | exact Below.refl _ _ | apply Below.al | apply below_drewN | apply Below.drew | refine Below.next ?_ (by assumption))))).mono ?_
  rw [HF.out, HL.out]
  rintro e w2 ⟨v, rfl, hv, _, hb⟩
  have hB2 : Below w.heap.size w w2 := Below.al2 hB hb
  obtain ⟨va, vc, rfl⟩ := hv.form
  have h5 : exW.length = 5 := rfl
  rw [h5] at hv ⊢
  have HV := Lib.hid hv
  clear hv hb hB h5
  obtain ⟨W3, hW3⟩ : ∃ W : World, W = w2.alloc (.cells #[.int .i64 0, .int .u64 10, .int .u64 20, .int .i64 1, .int .u64 18, .int .u64 20, .int .i64 2, .int .u64 21, .int .u64 20, .int .i64 3, .int .u64 24, .int .u64 12, .int .i64 4, .int .u64 19, .int .u64 12] 57) := ⟨_, rfl⟩
  have h3 : RdL W3 (.slice (some ⟨w2.heap.size, 0, none⟩) 5 5) exW := by rw [hW3]; exact rdS_box 3 5 (lcs exW) (BoxN.new w2 _ _) rfl (by decide)
  have hb3 : Below w2.heap.size w2 W3 := by rw [hW3]; exact Below.al (Below.refl _ _) _
  have HV3 := Lib.hid (HV.out.keep hb3)
  have HW3 := Lib.hid h3
  have hB3 := Below.next hB2 hb3
  clear h3 hb3 hB2
  go_wp2_with fail
  rw [← hW3]
  clear hW3
  refine (sameL_eq _ _ exW (by decide) _ HV3.out HW3.out).mono ?_
  rintro e w4 ⟨rfl, hb⟩
  have hB4 := Below.next hB3 hb
  clear hb hB3
  go_wp2_with fail
  go_ret
  exact ⟨rfl, hB4⟩
end Go.Proofs.Ytnbjdgjopdeolaa
