

/- ForecastKnown: the walk of the law. -/
import Derived.Test.YtnbjdgjopdeolaaSPO
import Derived.Test.YtnbjdgjopdeolaaFD
import Derived.Test.YtnbjdgjopdeolaaFQ
namespace Go.Proofs.Ytnbjdgjopdeolaa
open Go.RowKit Go.Shelf
set_option linter.unusedSimpArgs false
set_option linter.unusedVariables false
set_option maxRecDepth 100000

set_option maxHeartbeats 1000000 in
theorem drains_any (st un want err : Int) (hst : 0 ≤ st ∧ st < 18446744073709551616) (hun : Ib un) (hd : drV exF 100 st rz exP 0 un = (want, err)) (w : World) :
    Calls Try.prog 62 #[.int .u64 st, .int .i64 un, .int .i64 want, .int .i64 err] w fun e w' => e = .returned (.bool true) ∧ Below w.heap.size w w' := by
  have HD := Lib.hid hd
  have n1 : (want == want) = true := by simp
  have n2 : (err == err) = true := by simp
  clear hd
  go_enter Try.func62, Try.ntmps62
  go_wp2_with fail
  refine (example_any st _).mono ?_
  rintro e w1 ⟨a, r, b, rfl, hR, hP, hB⟩
  have HR := Lib.hid hR
  have HP := Lib.hid hP
  clear hR hP
  go_wp2_with fail
  refine (drained_any exF 100 st _ rz exP _ 0 un (ex_inp st hst) exP_wf (ib_lit 0 (by omega)) hun _ (HR.out.keep (by repeat (first | assumption | exact Below.refl _ _ | apply Below.al | apply below_drewN | apply Below.drew | refine Below.next ?_ (by assumption)))) (HP.out.keep (by repeat (first | assumption | exact Below.refl _ _ | apply Below.al | apply below_drewN | apply Below.drew | refine Below.next ?_ (by assumption))))).mono ?_
  rw [HD.out]
  rintro e w2 ⟨rfl, hb⟩
  have hB2 : Below w.heap.size w w2 := Below.al2 hB hb
  clear hb hB
  go_wp2_with fail
  go_ret
  exact ⟨rfl, hB2⟩
set_option maxHeartbeats 4000000 in
theorem known26_any (w : World) : Calls Try.prog 17 #[] w fun e w' => e = .returned (.bool true) ∧ Below w.heap.size w w' := by
  have HF : Hid (fck exF 100 10 rz exP 0 5 = 0) := ex_fck
  have HPV : Hid (pkV exF 100 10 rz exP 0 5 = ⟨2, 21, 20⟩) := by unfold Hid; kernel_rfl
  have HRM : Hid (rmV exF 100 10 rz exP 0 5 = 59) := by unfold Hid; kernel_rfl
  have HT1 : Hid (ftV exF 100 10 rz exP 0 5 59 = true) := by unfold Hid; kernel_rfl
  have HT2 : Hid (ftV exF 100 10 rz exP 0 5 60 = false) := by unfold Hid; kernel_rfl
  have HF1 : Hid (fck exF 100 10 rz exP 9 20 = 0) := by unfold Hid; decide
  have HF2 : Hid (fck exF 100 10 rz exP 0 0 = 19) := by unfold Hid; decide
  have HF3 : Hid (fck exF 100 10 rz exP 0 1001 = 4) := by unfold Hid; decide
  have HL1 : Hid (lvV exF 100 10 rz exP 9 20 = [⟨9, 10, 0⟩]) := by unfold Hid; kernel_rfl
  have HD1 : Hid (drV exF 100 10 rz exP 0 5 = (3, 0)) := by unfold Hid; kernel_rfl
  have HD2 : Hid (drV exF 100 11 rz exP 0 5 = (4, 0)) := by unfold Hid; kernel_rfl
  have HD3 : Hid (drV exF 100 10 rz exP 0 3 = (3, 0)) := by unfold Hid; kernel_rfl
  have HD4 : Hid (drV exF 100 11 rz exP 0 3 = (0, 8)) := by unfold Hid; kernel_rfl
  have HD5 : Hid (drV exF 100 0 rz exP 0 1 = (0, 0)) := by unfold Hid; kernel_rfl
  have hin := ex_inp 10 (by omega)
  have i0 := ib_lit 0 (by omega)
  have i5 := ib_lit 5 (by omega)
  have i9 := ib_lit 9 (by omega)
  have i20 := ib_lit 20 (by omega)
  have i3 := ib_lit 3 (by omega)
  have i1 := ib_lit 1 (by omega)
  have i1001 := ib_lit 1001 (by omega)
  go_enter Try.func17, Try.ntmps17
  go_wp2_with fail
  refine (example_any 10 _).mono ?_
  rintro e w1 ⟨a, r, b, rfl, hR, hP, hB⟩
  go_upto_region 2 with fail
  obtain ⟨W1, hW1⟩ : ∃ W : World, W = (w1.alloc (.cells #[.int .i64 1, .int .u64 100, .int .u64 0, .int .u64 20, .int .u64 0, .int .i64 0, .int .i64 0, .int .i64 0, .int .i64 0, .int .i64 0, .int .i64 0, .int .i64 0, .int .i64 0, .int .i64 0, .int .i64 0, .int .i64 0] 35)).alloc (.cells #[.int .u64 100, .int .u64 10, .slice (some a) 16 r] 38) := ⟨_, rfl⟩
  have b0 : BoxN W1 w1.heap.size 35 #[.int .i64 1, .int .u64 100, .int .u64 0, .int .u64 20, .int .u64 0, .int .i64 0, .int .i64 0, .int .i64 0, .int .i64 0, .int .i64 0, .int .i64 0, .int .i64 0, .int .i64 0, .int .i64 0, .int .i64 0, .int .i64 0] := by rw [hW1]; exact heap_al _ (heap_last w1 _)
  have b1 : BoxN W1 (w1.heap.size + 1) 38 #[.int .u64 100, .int .u64 10, .slice (some a) 16 r] := by
    have := BoxN.new (w1.alloc (.cells #[.int .i64 1, .int .u64 100, .int .u64 0, .int .u64 20, .int .u64 0, .int .i64 0, .int .i64 0, .int .i64 0, .int .i64 0, .int .i64 0, .int .i64 0, .int .i64 0, .int .i64 0, .int .i64 0, .int .i64 0, .int .i64 0] 35)) 38 #[.int .u64 100, .int .u64 10, .slice (some a) 16 r]
    rw [World.size_alloc] at this
    rw [hW1]; exact this
  have hBw : Below w1.heap.size w1 W1 := by rw [hW1]; exact (by repeat (first | assumption | exact Below.refl _ _ | apply Below.al | apply below_drewN | apply Below.drew | refine Below.next ?_ (by assumption)))
  have HXS := Lib.hid (hR.keep hBw)
  have HP := Lib.hid (hP.keep hBw)
  have hB := Below.next hB hBw
  rw [← hW1]
  clear hW1 hBw hR hP
  obtain ⟨Cx, hCx⟩ : ∃ C, C = w1.heap.size := ⟨_, rfl⟩
  rw [← hCx] at b0 b1 ⊢
  clear hCx
  obtain ⟨wn, rfl⟩ : ∃ wn, wn = W1 := ⟨_, rfl⟩
  as_aux_lemma =>
    have a0 : wn.cell? ⟨Cx, 0, none⟩ = some (.int .i64 1) := b0.cell 0
    have a1 : wn.cell? ⟨Cx, 1, none⟩ = some (.int .u64 100) := b0.cell 1
    have a2 : wn.cell? ⟨Cx, 2, none⟩ = some (.int .u64 0) := b0.cell 2
    have a3 : wn.cell? ⟨Cx, 3, none⟩ = some (.int .u64 20) := b0.cell 3
    have a4 : wn.cell? ⟨Cx, 4, none⟩ = some (.int .u64 0) := b0.cell 4
    have a5 : wn.cell? ⟨Cx, 5, none⟩ = some (.int .i64 0) := b0.cell 5
    have a6 : wn.cell? ⟨Cx, 6, none⟩ = some (.int .i64 0) := b0.cell 6
    have a7 : wn.cell? ⟨Cx, 7, none⟩ = some (.int .i64 0) := b0.cell 7
    have a8 : wn.cell? ⟨Cx, 8, none⟩ = some (.int .i64 0) := b0.cell 8
    have a9 : wn.cell? ⟨Cx, 9, none⟩ = some (.int .i64 0) := b0.cell 9
    have a10 : wn.cell? ⟨Cx, 10, none⟩ = some (.int .i64 0) := b0.cell 10
    have a11 : wn.cell? ⟨Cx, 11, none⟩ = some (.int .i64 0) := b0.cell 11
    have a12 : wn.cell? ⟨Cx, 12, none⟩ = some (.int .i64 0) := b0.cell 12
    have a13 : wn.cell? ⟨Cx, 13, none⟩ = some (.int .i64 0) := b0.cell 13
    have a14 : wn.cell? ⟨Cx, 14, none⟩ = some (.int .i64 0) := b0.cell 14
    have a15 : wn.cell? ⟨Cx, 15, none⟩ = some (.int .i64 0) := b0.cell 15
    have e0 : wn.cell? ⟨Cx + 1, 0, none⟩ = some (.int .u64 100) := b1.cell 0
    have e1 : wn.cell? ⟨Cx + 1, 1, none⟩ = some (.int .u64 10) := b1.cell 1
    have e2 : wn.cell? ⟨Cx + 1, 2, none⟩ = some (.slice (some a) 16 r) := b1.cell 2
    have HB0 := Lib.hid b0
    have HB1 := Lib.hid b1
    clear b0 b1
    go_wp2_with fail
    clear a0 a1 a2 a3 a4 a5 a6 a7 a8 a9 a10 a11 a12 a13 a14 a15 e0 e1 e2
    have b0 := HB0.out
    have b1 := HB1.out
    clear HB0 HB1
    refine (peak_any exF 100 10 _ rz exP _ 0 5 hin exP_wf i0 i5 _ HXS.out HP.out).mono ?_
    rw [HPV.out, HF.out]
    rintro e w2 ⟨rfl, hb⟩
    obtain ⟨W2, hW2⟩ : ∃ W : World, W = w2.alloc (.cells #[.int .i64 2, .int .u64 21, .int .u64 20] 57) := ⟨_, rfl⟩
    have hbx : BoxN W2 w2.heap.size 57 #[.int .i64 2, .int .u64 21, .int .u64 20] := by rw [hW2]; exact BoxN.new w2 _ _
    have hb : Below wn.heap.size wn W2 := by rw [hW2]; exact Below.al hb _
    obtain ⟨X, hX⟩ : ∃ X, X = w2.heap.size := ⟨_, rfl⟩
    rw [← hX] at hbx
    go_upto_region 3 with fail
    rw [← hW2, ← hX]
    clear hX hW2
    have HX := Lib.hid hbx
    clear hbx
    obtain ⟨w2, rfl⟩ : ∃ w, w = W2 := ⟨_, rfl⟩
    have b0 := b0.below hb
    have b1 := b1.below hb
    have HXS := Lib.hid (HXS.out.keep hb)
    have HP := Lib.hid (HP.out.keep hb)
    have hB := Below.next hB hb
    obtain ⟨wn, rfl⟩ : ∃ wn, wn = w2 := ⟨_, rfl⟩
    clear hb
    have a0 : wn.cell? ⟨Cx, 0, none⟩ = some (.int .i64 1) := b0.cell 0
    have a1 : wn.cell? ⟨Cx, 1, none⟩ = some (.int .u64 100) := b0.cell 1
    have a2 : wn.cell? ⟨Cx, 2, none⟩ = some (.int .u64 0) := b0.cell 2
    have a3 : wn.cell? ⟨Cx, 3, none⟩ = some (.int .u64 20) := b0.cell 3
    have a4 : wn.cell? ⟨Cx, 4, none⟩ = some (.int .u64 0) := b0.cell 4
    have a5 : wn.cell? ⟨Cx, 5, none⟩ = some (.int .i64 0) := b0.cell 5
    have a6 : wn.cell? ⟨Cx, 6, none⟩ = some (.int .i64 0) := b0.cell 6
    have a7 : wn.cell? ⟨Cx, 7, none⟩ = some (.int .i64 0) := b0.cell 7
    have a8 : wn.cell? ⟨Cx, 8, none⟩ = some (.int .i64 0) := b0.cell 8
    have a9 : wn.cell? ⟨Cx, 9, none⟩ = some (.int .i64 0) := b0.cell 9
    have a10 : wn.cell? ⟨Cx, 10, none⟩ = some (.int .i64 0) := b0.cell 10
    have a11 : wn.cell? ⟨Cx, 11, none⟩ = some (.int .i64 0) := b0.cell 11
    have a12 : wn.cell? ⟨Cx, 12, none⟩ = some (.int .i64 0) := b0.cell 12
    have a13 : wn.cell? ⟨Cx, 13, none⟩ = some (.int .i64 0) := b0.cell 13
    have a14 : wn.cell? ⟨Cx, 14, none⟩ = some (.int .i64 0) := b0.cell 14
    have a15 : wn.cell? ⟨Cx, 15, none⟩ = some (.int .i64 0) := b0.cell 15
    have e0 : wn.cell? ⟨Cx + 1, 0, none⟩ = some (.int .u64 100) := b1.cell 0
    have e1 : wn.cell? ⟨Cx + 1, 1, none⟩ = some (.int .u64 10) := b1.cell 1
    have e2 : wn.cell? ⟨Cx + 1, 2, none⟩ = some (.slice (some a) 16 r) := b1.cell 2
    have HB0 := Lib.hid b0
    have HB1 := Lib.hid b1
    clear b0 b1
    go_wp2_with fail
    clear a0 a1 a2 a3 a4 a5 a6 a7 a8 a9 a10 a11 a12 a13 a14 a15 e0 e1 e2
    have b0 := HB0.out
    have b1 := HB1.out
    clear HB0 HB1
    refine (room_any exF 100 10 _ rz exP _ 0 5 hin exP_wf i0 i5 _ HXS.out HP.out).mono ?_
    rw [HRM.out, HF.out]
    rintro e w2 ⟨rfl, hb⟩
    have HX := Lib.hid (HX.out.below hb)
    have b0 := b0.below hb
    have b1 := b1.below hb
    have HXS := Lib.hid (HXS.out.keep hb)
    have HP := Lib.hid (HP.out.keep hb)
    have hB := Below.next hB hb
    obtain ⟨wn, rfl⟩ : ∃ wn, wn = w2 := ⟨_, rfl⟩
    clear hb
    as_aux_lemma =>
      have a0 : wn.cell? ⟨Cx, 0, none⟩ = some (.int .i64 1) := b0.cell 0
      have a1 : wn.cell? ⟨Cx, 1, none⟩ = some (.int .u64 100) := b0.cell 1
      have a2 : wn.cell? ⟨Cx, 2, none⟩ = some (.int .u64 0) := b0.cell 2
      have a3 : wn.cell? ⟨Cx, 3, none⟩ = some (.int .u64 20) := b0.cell 3
      have a4 : wn.cell? ⟨Cx, 4, none⟩ = some (.int .u64 0) := b0.cell 4
      have a5 : wn.cell? ⟨Cx, 5, none⟩ = some (.int .i64 0) := b0.cell 5
      have a6 : wn.cell? ⟨Cx, 6, none⟩ = some (.int .i64 0) := b0.cell 6
      have a7 : wn.cell? ⟨Cx, 7, none⟩ = some (.int .i64 0) := b0.cell 7
      have a8 : wn.cell? ⟨Cx, 8, none⟩ = some (.int .i64 0) := b0.cell 8
      have a9 : wn.cell? ⟨Cx, 9, none⟩ = some (.int .i64 0) := b0.cell 9
      have a10 : wn.cell? ⟨Cx, 10, none⟩ = some (.int .i64 0) := b0.cell 10
      have a11 : wn.cell? ⟨Cx, 11, none⟩ = some (.int .i64 0) := b0.cell 11
      have a12 : wn.cell? ⟨Cx, 12, none⟩ = some (.int .i64 0) := b0.cell 12
      have a13 : wn.cell? ⟨Cx, 13, none⟩ = some (.int .i64 0) := b0.cell 13
      have a14 : wn.cell? ⟨Cx, 14, none⟩ = some (.int .i64 0) := b0.cell 14
      have a15 : wn.cell? ⟨Cx, 15, none⟩ = some (.int .i64 0) := b0.cell 15
      have e0 : wn.cell? ⟨Cx + 1, 0, none⟩ = some (.int .u64 100) := b1.cell 0
      have e1 : wn.cell? ⟨Cx + 1, 1, none⟩ = some (.int .u64 10) := b1.cell 1
      have e2 : wn.cell? ⟨Cx + 1, 2, none⟩ = some (.slice (some a) 16 r) := b1.cell 2
      have HB0 := Lib.hid b0
      have HB1 := Lib.hid b1
      clear b0 b1
      go_wp2_with fail
      clear a0 a1 a2 a3 a4 a5 a6 a7 a8 a9 a10 a11 a12 a13 a14 a15 e0 e1 e2
      have b0 := HB0.out
      have b1 := HB1.out
      clear HB0 HB1
      refine (fits_any exF 100 10 _ rz exP _ 0 5 59 hin exP_wf i0 i5 _ HXS.out HP.out).mono ?_
      rw [HT1.out, HF.out]
      rintro e w2 ⟨rfl, hb⟩
      have HX := Lib.hid (HX.out.below hb)
      have b0 := b0.below hb
      have b1 := b1.below hb
      have HXS := Lib.hid (HXS.out.keep hb)
      have HP := Lib.hid (HP.out.keep hb)
      have hB := Below.next hB hb
      obtain ⟨wn, rfl⟩ : ∃ wn, wn = w2 := ⟨_, rfl⟩
      clear hb
      have a0 : wn.cell? ⟨Cx, 0, none⟩ = some (.int .i64 1) := b0.cell 0
      have a1 : wn.cell? ⟨Cx, 1, none⟩ = some (.int .u64 100) := b0.cell 1
      have a2 : wn.cell? ⟨Cx, 2, none⟩ = some (.int .u64 0) := b0.cell 2
      have a3 : wn.cell? ⟨Cx, 3, none⟩ = some (.int .u64 20) := b0.cell 3
      have a4 : wn.cell? ⟨Cx, 4, none⟩ = some (.int .u64 0) := b0.cell 4
      have a5 : wn.cell? ⟨Cx, 5, none⟩ = some (.int .i64 0) := b0.cell 5
      have a6 : wn.cell? ⟨Cx, 6, none⟩ = some (.int .i64 0) := b0.cell 6
      have a7 : wn.cell? ⟨Cx, 7, none⟩ = some (.int .i64 0) := b0.cell 7
      have a8 : wn.cell? ⟨Cx, 8, none⟩ = some (.int .i64 0) := b0.cell 8
      have a9 : wn.cell? ⟨Cx, 9, none⟩ = some (.int .i64 0) := b0.cell 9
      have a10 : wn.cell? ⟨Cx, 10, none⟩ = some (.int .i64 0) := b0.cell 10
      have a11 : wn.cell? ⟨Cx, 11, none⟩ = some (.int .i64 0) := b0.cell 11
      have a12 : wn.cell? ⟨Cx, 12, none⟩ = some (.int .i64 0) := b0.cell 12
      have a13 : wn.cell? ⟨Cx, 13, none⟩ = some (.int .i64 0) := b0.cell 13
      have a14 : wn.cell? ⟨Cx, 14, none⟩ = some (.int .i64 0) := b0.cell 14
      have a15 : wn.cell? ⟨Cx, 15, none⟩ = some (.int .i64 0) := b0.cell 15
      have e0 : wn.cell? ⟨Cx + 1, 0, none⟩ = some (.int .u64 100) := b1.cell 0
      have e1 : wn.cell? ⟨Cx + 1, 1, none⟩ = some (.int .u64 10) := b1.cell 1
      have e2 : wn.cell? ⟨Cx + 1, 2, none⟩ = some (.slice (some a) 16 r) := b1.cell 2
      have HB0 := Lib.hid b0
      have HB1 := Lib.hid b1
      clear b0 b1
      go_wp2_with fail
      clear a0 a1 a2 a3 a4 a5 a6 a7 a8 a9 a10 a11 a12 a13 a14 a15 e0 e1 e2
      have b0 := HB0.out
      have b1 := HB1.out
      clear HB0 HB1
      refine (fits_any exF 100 10 _ rz exP _ 0 5 60 hin exP_wf i0 i5 _ HXS.out HP.out).mono ?_
      rw [HT2.out, HF.out]
      rintro e w2 ⟨rfl, hb⟩
      have HX := Lib.hid (HX.out.below hb)
      have b0 := b0.below hb
      have b1 := b1.below hb
      have HXS := Lib.hid (HXS.out.keep hb)
      have HP := Lib.hid (HP.out.keep hb)
      have hB := Below.next hB hb
      obtain ⟨wn, rfl⟩ : ∃ wn, wn = w2 := ⟨_, rfl⟩
      clear hb
      as_aux_lemma =>
        have x0 : wn.cell? ⟨X, 0, none⟩ = some (.int .i64 2) := HX.out.cell 0
        have x1 : wn.cell? ⟨X, 1, none⟩ = some (.int .u64 21) := HX.out.cell 1
        have x2 : wn.cell? ⟨X, 2, none⟩ = some (.int .u64 20) := HX.out.cell 2
        have a0 : wn.cell? ⟨Cx, 0, none⟩ = some (.int .i64 1) := b0.cell 0
        have a1 : wn.cell? ⟨Cx, 1, none⟩ = some (.int .u64 100) := b0.cell 1
        have a2 : wn.cell? ⟨Cx, 2, none⟩ = some (.int .u64 0) := b0.cell 2
        have a3 : wn.cell? ⟨Cx, 3, none⟩ = some (.int .u64 20) := b0.cell 3
        have a4 : wn.cell? ⟨Cx, 4, none⟩ = some (.int .u64 0) := b0.cell 4
        have a5 : wn.cell? ⟨Cx, 5, none⟩ = some (.int .i64 0) := b0.cell 5
        have a6 : wn.cell? ⟨Cx, 6, none⟩ = some (.int .i64 0) := b0.cell 6
        have a7 : wn.cell? ⟨Cx, 7, none⟩ = some (.int .i64 0) := b0.cell 7
        have a8 : wn.cell? ⟨Cx, 8, none⟩ = some (.int .i64 0) := b0.cell 8
        have a9 : wn.cell? ⟨Cx, 9, none⟩ = some (.int .i64 0) := b0.cell 9
        have a10 : wn.cell? ⟨Cx, 10, none⟩ = some (.int .i64 0) := b0.cell 10
        have a11 : wn.cell? ⟨Cx, 11, none⟩ = some (.int .i64 0) := b0.cell 11
        have a12 : wn.cell? ⟨Cx, 12, none⟩ = some (.int .i64 0) := b0.cell 12
        have a13 : wn.cell? ⟨Cx, 13, none⟩ = some (.int .i64 0) := b0.cell 13
        have a14 : wn.cell? ⟨Cx, 14, none⟩ = some (.int .i64 0) := b0.cell 14
        have a15 : wn.cell? ⟨Cx, 15, none⟩ = some (.int .i64 0) := b0.cell 15
        have e0 : wn.cell? ⟨Cx + 1, 0, none⟩ = some (.int .u64 100) := b1.cell 0
        have e1 : wn.cell? ⟨Cx + 1, 1, none⟩ = some (.int .u64 10) := b1.cell 1
        have e2 : wn.cell? ⟨Cx + 1, 2, none⟩ = some (.slice (some a) 16 r) := b1.cell 2
        have HB0 := Lib.hid b0
        have HB1 := Lib.hid b1
        clear b0 b1
        go_wp2_with fail
        clear a0 a1 a2 a3 a4 a5 a6 a7 a8 a9 a10 a11 a12 a13 a14 a15 e0 e1 e2
        have b0 := HB0.out
        have b1 := HB1.out
        clear HB0 HB1
        clear x0 x1 x2 HX
        refine (levels_any exF 100 10 _ rz exP _ 9 20 hin exP_wf i9 i20 _ HXS.out HP.out).mono ?_
        rw [HL1.out, HF1.out]
        rintro e w2 ⟨l1, rfl, hl, _, hb⟩
        have HV1 := Lib.hid hl
        clear hl
        have b0 := b0.below hb
        have b1 := b1.below hb
        have HXS := Lib.hid (HXS.out.keep hb)
        have HP := Lib.hid (HP.out.keep hb)
        have hB := Below.next hB hb
        obtain ⟨wn, rfl⟩ : ∃ wn, wn = w2 := ⟨_, rfl⟩
        clear hb
        as_aux_lemma =>
          have a0 : wn.cell? ⟨Cx, 0, none⟩ = some (.int .i64 1) := b0.cell 0
          have a1 : wn.cell? ⟨Cx, 1, none⟩ = some (.int .u64 100) := b0.cell 1
          have a2 : wn.cell? ⟨Cx, 2, none⟩ = some (.int .u64 0) := b0.cell 2
          have a3 : wn.cell? ⟨Cx, 3, none⟩ = some (.int .u64 20) := b0.cell 3
          have a4 : wn.cell? ⟨Cx, 4, none⟩ = some (.int .u64 0) := b0.cell 4
          have a5 : wn.cell? ⟨Cx, 5, none⟩ = some (.int .i64 0) := b0.cell 5
          have a6 : wn.cell? ⟨Cx, 6, none⟩ = some (.int .i64 0) := b0.cell 6
          have a7 : wn.cell? ⟨Cx, 7, none⟩ = some (.int .i64 0) := b0.cell 7
          have a8 : wn.cell? ⟨Cx, 8, none⟩ = some (.int .i64 0) := b0.cell 8
          have a9 : wn.cell? ⟨Cx, 9, none⟩ = some (.int .i64 0) := b0.cell 9
          have a10 : wn.cell? ⟨Cx, 10, none⟩ = some (.int .i64 0) := b0.cell 10
          have a11 : wn.cell? ⟨Cx, 11, none⟩ = some (.int .i64 0) := b0.cell 11
          have a12 : wn.cell? ⟨Cx, 12, none⟩ = some (.int .i64 0) := b0.cell 12
          have a13 : wn.cell? ⟨Cx, 13, none⟩ = some (.int .i64 0) := b0.cell 13
          have a14 : wn.cell? ⟨Cx, 14, none⟩ = some (.int .i64 0) := b0.cell 14
          have a15 : wn.cell? ⟨Cx, 15, none⟩ = some (.int .i64 0) := b0.cell 15
          have e0 : wn.cell? ⟨Cx + 1, 0, none⟩ = some (.int .u64 100) := b1.cell 0
          have e1 : wn.cell? ⟨Cx + 1, 1, none⟩ = some (.int .u64 10) := b1.cell 1
          have e2 : wn.cell? ⟨Cx + 1, 2, none⟩ = some (.slice (some a) 16 r) := b1.cell 2
          have HB0 := Lib.hid b0
          have HB1 := Lib.hid b1
          clear b0 b1
          go_wp2_with fail
          clear a0 a1 a2 a3 a4 a5 a6 a7 a8 a9 a10 a11 a12 a13 a14 a15 e0 e1 e2
          have b0 := HB0.out
          have b1 := HB1.out
          clear HB0 HB1
          refine (levels_any exF 100 10 _ rz exP _ 0 0 hin exP_wf i0 i0 _ HXS.out HP.out).mono ?_
          rw [HF2.out]
          rintro e w2 ⟨l2, rfl, _, _, hb⟩
          have HV1 := Lib.hid (HV1.out.keep hb)
          have b0 := b0.below hb
          have b1 := b1.below hb
          have HXS := Lib.hid (HXS.out.keep hb)
          have HP := Lib.hid (HP.out.keep hb)
          have hB := Below.next hB hb
          obtain ⟨wn, rfl⟩ : ∃ wn, wn = w2 := ⟨_, rfl⟩
          clear hb
          have a0 : wn.cell? ⟨Cx, 0, none⟩ = some (.int .i64 1) := b0.cell 0
          have a1 : wn.cell? ⟨Cx, 1, none⟩ = some (.int .u64 100) := b0.cell 1
          have a2 : wn.cell? ⟨Cx, 2, none⟩ = some (.int .u64 0) := b0.cell 2
          have a3 : wn.cell? ⟨Cx, 3, none⟩ = some (.int .u64 20) := b0.cell 3
          have a4 : wn.cell? ⟨Cx, 4, none⟩ = some (.int .u64 0) := b0.cell 4
          have a5 : wn.cell? ⟨Cx, 5, none⟩ = some (.int .i64 0) := b0.cell 5
          have a6 : wn.cell? ⟨Cx, 6, none⟩ = some (.int .i64 0) := b0.cell 6
          have a7 : wn.cell? ⟨Cx, 7, none⟩ = some (.int .i64 0) := b0.cell 7
          have a8 : wn.cell? ⟨Cx, 8, none⟩ = some (.int .i64 0) := b0.cell 8
          have a9 : wn.cell? ⟨Cx, 9, none⟩ = some (.int .i64 0) := b0.cell 9
          have a10 : wn.cell? ⟨Cx, 10, none⟩ = some (.int .i64 0) := b0.cell 10
          have a11 : wn.cell? ⟨Cx, 11, none⟩ = some (.int .i64 0) := b0.cell 11
          have a12 : wn.cell? ⟨Cx, 12, none⟩ = some (.int .i64 0) := b0.cell 12
          have a13 : wn.cell? ⟨Cx, 13, none⟩ = some (.int .i64 0) := b0.cell 13
          have a14 : wn.cell? ⟨Cx, 14, none⟩ = some (.int .i64 0) := b0.cell 14
          have a15 : wn.cell? ⟨Cx, 15, none⟩ = some (.int .i64 0) := b0.cell 15
          have e0 : wn.cell? ⟨Cx + 1, 0, none⟩ = some (.int .u64 100) := b1.cell 0
          have e1 : wn.cell? ⟨Cx + 1, 1, none⟩ = some (.int .u64 10) := b1.cell 1
          have e2 : wn.cell? ⟨Cx + 1, 2, none⟩ = some (.slice (some a) 16 r) := b1.cell 2
          have HB0 := Lib.hid b0
          have HB1 := Lib.hid b1
          clear b0 b1
          go_wp2_with fail
          clear a0 a1 a2 a3 a4 a5 a6 a7 a8 a9 a10 a11 a12 a13 a14 a15 e0 e1 e2
          have b0 := HB0.out
          have b1 := HB1.out
          clear HB0 HB1
          refine (levels_any exF 100 10 _ rz exP _ 0 1001 hin exP_wf i0 i1001 _ HXS.out HP.out).mono ?_
          rw [HF3.out]
          rintro e w2 ⟨l3, rfl, _, _, hb⟩
          have HV1 := Lib.hid (HV1.out.keep hb)
          have hB := Below.next hB hb
          clear b0 b1 hb HXS HP
          obtain ⟨W3, hW3⟩ : ∃ W : World, W = w2.alloc (.cells #[.int .i64 9, .int .u64 10, .int .u64 0] 57) := ⟨_, rfl⟩
          have h3 : RdL W3 (.slice (some ⟨w2.heap.size, 0, none⟩) 1 1) [⟨9, 10, 0⟩] := by rw [hW3]; exact rdS_box 3 1 (lcs [⟨9, 10, 0⟩]) (BoxN.new w2 _ _) rfl (by decide)
          have hb3 : Below w2.heap.size w2 W3 := by rw [hW3]; exact Below.al (Below.refl _ _) _
          have HV3 := Lib.hid (HV1.out.keep hb3)
          have HW3 := Lib.hid h3
          have hB3 := Below.next hB hb3
          clear h3 hb3 hB
          go_wp2_with fail
          rw [← hW3]
          clear hW3
          refine (sameL_eq _ _ [⟨9, 10, 0⟩] (by simp) _ HV3.out HW3.out).mono ?_
          rintro e w4 ⟨rfl, hb⟩
          have hB := Below.next hB3 hb
          clear hb hB3
          as_aux_lemma =>
            go_wp2_with fail
            refine (drains_any 10 5 3 0 (by omega) i5 HD1.out _).mono ?_
            rintro e w5 ⟨rfl, hb⟩
            have hB := Below.next hB hb
            clear hb
            go_wp2_with fail
            refine (drains_any 11 5 4 0 (by omega) i5 HD2.out _).mono ?_
            rintro e w6 ⟨rfl, hb⟩
            have hB := Below.next hB hb
            clear hb
            go_wp2_with fail
            refine (drains_any 10 3 3 0 (by omega) i3 HD3.out _).mono ?_
            rintro e w7 ⟨rfl, hb⟩
            have hB := Below.next hB hb
            clear hb
            go_wp2_with fail
            refine (drains_any 11 3 0 8 (by omega) i3 HD4.out _).mono ?_
            rintro e w8 ⟨rfl, hb⟩
            have hB := Below.next hB hb
            clear hb
            go_wp2_with fail
            refine (drains_any 0 1 0 0 (by omega) i1 HD5.out _).mono ?_
            rintro e w9 ⟨rfl, hb⟩
            have hB := Below.next hB hb
            clear hb
            go_wp2_with fail
            refine (awake26_any _).mono ?_
            rintro e w10 ⟨rfl, hb⟩
            have hB := Below.next hB hb
            clear hb
            go_wp2_with fail
            go_ret
            exact ⟨rfl, hB⟩
end Go.Proofs.Ytnbjdgjopdeolaa
