

/- Links: LinkFaults holds of what is computed (walk). -/
import Derived.Test.YtimkeafpefkheaaDoorXA
import Derived.Test.YtimkeafpefkheaaDoorRn
namespace Go.Proofs.YtimkeafpefkheaaDoor
open Go.RowKit
set_option linter.unusedSimpArgs false
set_option linter.unusedVariables false
set_option maxRecDepth 100000

theorem apL_len (l : List Fr) (t : Tr) : (apL l t).length ≤ l.length + l.length + 1 := by
  unfold apL
  split
  · unfold lessV; simp; omega
  · split
    · unfold insV; simp; omega
    · split
      · unfold swapV; simp; omega
      · split <;> simp <;> omega
set_option maxHeartbeats 4000000 in
theorem faults_any (v : Value) (l : List Fr) (hz : Szs l) (t : Tr) (hto : TrOk t) (w : World) (hkd : KD w) (h : RdT w v l) :
    Calls Tryd.prog 4 #[v, t.v] w fun x w' => x = .returned (.bool true) ∧ Below w.heap.size w w' := by
  have HKD := Lib.hid hkd
  have HR := Lib.hid h
  have HZ := Lib.hid hz
  clear hkd h hz
  obtain ⟨tk, ti, tj, tb⟩ := t
  obtain ⟨ib0, ib1, ib2, ib3⟩ := hto
  dsimp only at ib0 ib1 ib2 ib3
  obtain ⟨W, hW⟩ : ∃ W : World, W = w.alloc (.cells #[.int .i64 tk, .int .i64 ti, .int .i64 tj, .int .i64 tb] 36) := ⟨_, rfl⟩
  have hB : Below w.heap.size w W := by rw [hW]; exact (by repeat (first | assumption | exact Below.refl _ _ | apply Below.al | apply below_drewN | apply Below.drew | refine Below.next ?_ (by assumption)))
  have b0 : BoxN W w.heap.size 36 #[.int .i64 tk, .int .i64 ti, .int .i64 tj, .int .i64 tb] := by rw [hW]; exact BoxN.new w _ _
  have t0 : W.cell? ⟨w.heap.size, 0, none⟩ = some (.int .i64 tk) := b0.cell 0
  have t1 : W.cell? ⟨w.heap.size, 1, none⟩ = some (.int .i64 ti) := b0.cell 1
  have t2 : W.cell? ⟨w.heap.size, 2, none⟩ = some (.int .i64 tj) := b0.cell 2
  have t3 : W.cell? ⟨w.heap.size, 3, none⟩ = some (.int .i64 tb) := b0.cell 3
  have HRW := Lib.hid (HR.out.keep hB)
  have HKW := Lib.hid (HKD.out.keep hB)
  clear b0 HR HKD
  go_enter Tryd.func4, Tryd.ntmps4
  go_upto_region 1 with fail
  rw [← hW]
  clear hW
  go_wp2_with fail
  refine (light_any _ l HZ.out _ HRW.out).mono ?_
  rintro x w1 ⟨b, rfl, hb, rfl⟩
  cases b
  · go_wp2_with fail
    refine (awake_any _ HKW.out).mono ?_
    rintro x w2 ⟨rfl, hb2⟩
    go_wp2_with fail
    go_ret
    exact ⟨rfl, Below.next hB hb2⟩
  · have hl := (hb rfl).1
    clear hb
    have hal := apL_len l ⟨tk, ti, tj, tb⟩
    obtain ⟨er, HE⟩ : ∃ er, Hid (apE l ⟨tk, ti, tj, tb⟩ = er) := ⟨_, rfl⟩
    obtain ⟨al, HA⟩ : ∃ al, Hid ((if apE l ⟨tk, ti, tj, tb⟩ = 0 then apL l ⟨tk, ti, tj, tb⟩ else []) = al) := ⟨_, rfl⟩
    have hal2 : al.length ≤ 1000000 := by
      rw [← HA.out]
      split
      · omega
      · simp
    clear hal
    obtain ⟨⟨uk, ui, uj, ub⟩, uis, ue, HU⟩ : ∃ u uis ue, Hid (undoV l ⟨tk, ti, tj, tb⟩ = (u, uis, ue)) := ⟨_, _, _, rfl⟩
    go_wp2_with fail
    refine (ownTexts_any _ l (by omega) _ HRW.out).mono ?_
    rintro x w2 ⟨a, c, rfl, hown, hb2⟩
    have HV := Lib.hid (RdT.of_owns hown)
    have HL := Lib.hid (HRW.out.keep hb2)
    have HK := Lib.hid (HKW.out.keep hb2)
    have t0 := cell_later hb2 t0
    have t1 := cell_later hb2 t1
    have t2 := cell_later hb2 t2
    have t3 := cell_later hb2 t3
    have hB := Below.next hB hb2
    clear hown hb2 HRW HKW
    go_wp2_with fail
    refine (apply_any _ l HZ.out ⟨tk, ti, tj, tb⟩ ib0 ib1 _ HK.out HV.out).mono ?_
    unfold ApR
    rw [HE.out] at HA ⊢
    rintro x w3 ⟨v3, rfl, hr3, hb3⟩
    rw [HA.out] at hr3
    have HR3 := Lib.hid hr3
    have HV := Lib.hid (HV.out.keep hb3)
    have HL := Lib.hid (HL.out.keep hb3)
    have HK := Lib.hid (HK.out.keep hb3)
    have t0 := cell_later hb3 t0
    have t1 := cell_later hb3 t1
    have t2 := cell_later hb3 t2
    have t3 := cell_later hb3 t3
    have hB := Below.next hB hb3
    clear hr3 hb3
    go_wp2_with fail
    refine (rapply_any _ l HZ.out ⟨tk, ti, tj, tb⟩ ib0 ib1 _ HL.out).mono ?_
    unfold ApR
    rw [HE.out]
    rintro x w4 ⟨v4, rfl, hr4, hb4⟩
    rw [HA.out] at hr4
    have HR4 := Lib.hid hr4
    have HR3 := Lib.hid (HR3.out.keep hb4)
    have HV := Lib.hid (HV.out.keep hb4)
    have HL := Lib.hid (HL.out.keep hb4)
    have HK := Lib.hid (HK.out.keep hb4)
    have t0 := cell_later hb4 t0
    have t1 := cell_later hb4 t1
    have t2 := cell_later hb4 t2
    have t3 := cell_later hb4 t3
    have hB := Below.next hB hb4
    clear hr4 hb4
    go_wp2_with fail
    refine (undo_any _ l HZ.out ⟨tk, ti, tj, tb⟩ ib0 ib1 _ HK.out HV.out).mono ?_
    rw [HU.out]
    rintro x w5 ⟨rfl, hb5⟩
    have HR4 := Lib.hid (HR4.out.keep hb5)
    have HR3 := Lib.hid (HR3.out.keep hb5)
    have HV := Lib.hid (HV.out.keep hb5)
    have HL := Lib.hid (HL.out.keep hb5)
    have HK := Lib.hid (HK.out.keep hb5)
    have t0 := cell_later hb5 t0
    have t1 := cell_later hb5 t1
    have t2 := cell_later hb5 t2
    have t3 := cell_later hb5 t3
    have hB := Below.next hB hb5
    clear hb5
    dsimp only
    have HR4 := Lib.hid (HR4.out.keep (Below.al (Below.refl _ w5) (.cells #[.int .i64 uk, .int .i64 ui, .int .i64 uj, .int .i64 ub] 36)))
    have HR3 := Lib.hid (HR3.out.keep (Below.al (Below.refl _ w5) (.cells #[.int .i64 uk, .int .i64 ui, .int .i64 uj, .int .i64 ub] 36)))
    have HV := Lib.hid (HV.out.keep (Below.al (Below.refl _ w5) (.cells #[.int .i64 uk, .int .i64 ui, .int .i64 uj, .int .i64 ub] 36)))
    have HL := Lib.hid (HL.out.keep (Below.al (Below.refl _ w5) (.cells #[.int .i64 uk, .int .i64 ui, .int .i64 uj, .int .i64 ub] 36)))
    have HK := Lib.hid (HK.out.keep (Below.al (Below.refl _ w5) (.cells #[.int .i64 uk, .int .i64 ui, .int .i64 uj, .int .i64 ub] 36)))
    have t0 := cell_al (.cells #[.int .i64 uk, .int .i64 ui, .int .i64 uj, .int .i64 ub] 36) t0
    have t1 := cell_al (.cells #[.int .i64 uk, .int .i64 ui, .int .i64 uj, .int .i64 ub] 36) t1
    have t2 := cell_al (.cells #[.int .i64 uk, .int .i64 ui, .int .i64 uj, .int .i64 ub] 36) t2
    have t3 := cell_al (.cells #[.int .i64 uk, .int .i64 ui, .int .i64 uj, .int .i64 ub] 36) t3
    have hB := Below.al hB (.cells #[.int .i64 uk, .int .i64 ui, .int .i64 uj, .int .i64 ub] 36)
    have b5 : BoxN (w5.alloc (.cells #[.int .i64 uk, .int .i64 ui, .int .i64 uj, .int .i64 ub] 36)) w5.heap.size 36 #[.int .i64 uk, .int .i64 ui, .int .i64 uj, .int .i64 ub] := BoxN.new _ _ _
    go_wp2_with fail
    refine (rundo_any _ l HZ.out ⟨tk, ti, tj, tb⟩ ib0 ib1 _ HL.out).mono ?_
    rw [HU.out]
    rintro x w6 ⟨rfl, hb6⟩
    have HR4 := Lib.hid (HR4.out.keep hb6)
    have HR3 := Lib.hid (HR3.out.keep hb6)
    have HV := Lib.hid (HV.out.keep hb6)
    have HL := Lib.hid (HL.out.keep hb6)
    have HK := Lib.hid (HK.out.keep hb6)
    have b5 := b5.below hb6
    have hB := Below.next hB hb6
    clear hb6 t0 t1 t2 t3
    dsimp only
    obtain ⟨W6, hW6⟩ : ∃ W6 : World, W6 = w6.alloc (.cells #[.int .i64 uk, .int .i64 ui, .int .i64 uj, .int .i64 ub] 36) := ⟨_, rfl⟩
    have hb6 : Below w6.heap.size w6 W6 := by rw [hW6]; exact Below.al (Below.refl _ _) _
    have b6 : BoxN W6 w6.heap.size 36 #[.int .i64 uk, .int .i64 ui, .int .i64 uj, .int .i64 ub] := by rw [hW6]; exact BoxN.new _ _ _
    have HR4 := Lib.hid (HR4.out.keep hb6)
    have HR3 := Lib.hid (HR3.out.keep hb6)
    have HV := Lib.hid (HV.out.keep hb6)
    have HL := Lib.hid (HL.out.keep hb6)
    have HK := Lib.hid (HK.out.keep hb6)
    have b5 := b5.below hb6
    have hB := Below.next hB hb6
    clear hb6
    go_upto_region 8 with fail
    rw [← hW6]
    clear hW6
    go_wp2_with fail
    refine (sameTexts_eq _ _ al hal2 _ HR3.out HR4.out).mono ?_
    rintro x w7 ⟨rfl, hb7⟩
    have HV := Lib.hid (HV.out.keep hb7)
    have HL := Lib.hid (HL.out.keep hb7)
    have HK := Lib.hid (HK.out.keep hb7)
    have b5 := b5.below hb7
    have b6 := b6.below hb7
    have c0 : w7.cell? ⟨w5.heap.size, 0, none⟩ = some (.int .i64 uk) := b5.cell 0
    have c1 : w7.cell? ⟨w5.heap.size, 1, none⟩ = some (.int .i64 ui) := b5.cell 1
    have c2 : w7.cell? ⟨w5.heap.size, 2, none⟩ = some (.int .i64 uj) := b5.cell 2
    have c3 : w7.cell? ⟨w5.heap.size, 3, none⟩ = some (.int .i64 ub) := b5.cell 3
    have d0 : w7.cell? ⟨w6.heap.size, 0, none⟩ = some (.int .i64 uk) := b6.cell 0
    have d1 : w7.cell? ⟨w6.heap.size, 1, none⟩ = some (.int .i64 ui) := b6.cell 1
    have d2 : w7.cell? ⟨w6.heap.size, 2, none⟩ = some (.int .i64 uj) := b6.cell 2
    have d3 : w7.cell? ⟨w6.heap.size, 3, none⟩ = some (.int .i64 ub) := b6.cell 3
    have hB := Below.next hB hb7
    clear hb7 b5 b6
    go_wp2_with fail
    refine (sameTexts_eq _ _ l (by omega) _ HV.out HL.out).mono ?_
    rintro x w8 ⟨rfl, hb8⟩
    have HK := Lib.hid (HK.out.keep hb8)
    have hB := Below.next hB hb8
    clear hb8
    go_wp2_with fail
    refine (awake_any _ HK.out).mono ?_
    rintro x w9 ⟨rfl, hb9⟩
    have hB := Below.next hB hb9
    go_wp2_with fail
    go_ret
    exact ⟨rfl, hB⟩
end Go.Proofs.YtimkeafpefkheaaDoor
