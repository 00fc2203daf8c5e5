

/- Links: a fault happens (the reference's text): cut. -/
import Derived.Test.YtimkeafpefkheaaDoorM
namespace Go.Proofs.YtimkeafpefkheaaDoor
open Go.RowKit
set_option linter.unusedSimpArgs false
set_option linter.unusedVariables false
set_option maxRecDepth 100000

set_option maxHeartbeats 4000000 in
theorem rap_5 (v : Value) (l : List Fr) (hz : Szs l) (hen : (chkL l).1 = 0) (i : Nat) (j b : Int) (hi : i < l.length) (w : World) (h : RdT w v l) :
    Calls Tryd.prog 21 #[v, (⟨5, (i : Int), j, b⟩ : Tr).v] w (RaR w l ⟨5, (i : Int), j, b⟩) := by
  unfold RaR
  rw [show apL l ⟨5, (i : Int), j, b⟩ = l.set i ((l.getD i e0).extract 0 j.toNat) by simp [apL], show fitT l ⟨5, (i : Int), j, b⟩ = (decide (1 ≤ j) && decide (j < ((l.getD i e0).size : Int)) && unV ⟨5, (i : Int), j, b⟩) by simp [fitT, unV]]
  obtain ⟨f, hf⟩ : ∃ f, unV ⟨5, (i : Int), j, b⟩ = f := ⟨_, rfl⟩
  rw [hf]
  have HF := Lib.hid hf
  clear hf
  obtain ⟨n, hen'⟩ : ∃ n, chkL l = (0, n) := ⟨(chkL l).2, by rw [← hen]⟩
  have HEN := Lib.hid hen'
  have HZ := Lib.hid hz
  have hcz := chkL_zero hen
  obtain ⟨a0, n0, rfl⟩ := h.form
  obtain ⟨N, hN⟩ : ∃ N, l.length = N := ⟨_, rfl⟩
  have HN := Lib.hid hN
  have HR2 : Hid (RdT w (.slice a0 N n0) l) := by unfold Hid; rw [← hN]; exact h
  have HSZ : Hid (∀ j, j < l.length → (l.getD j e0).size ≤ 1200) := fun j hj => (hcz.2 j hj).2
  have hl := hcz.1
  rw [hN] at hl hi ⊢
  clear h hN hcz hen hen' hz
  obtain ⟨W, hW⟩ : ∃ W : World, W = w.alloc (.cells #[.int .i64 5, .int .i64 (i : Int), .int .i64 j, .int .i64 b] 36) := ⟨_, rfl⟩
  have hB : Below w.heap.size w W := by rw [hW]; exact (by repeat (first | assumption | exact Below.refl _ _ | apply Below.al | apply below_drewN | apply Below.drew | refine Below.next ?_ (by assumption)))
  have b0 : BoxN W w.heap.size 36 #[.int .i64 5, .int .i64 (i : Int), .int .i64 j, .int .i64 b] := by rw [hW]; exact BoxN.new w _ _
  have t0 : W.cell? ⟨w.heap.size, 0, none⟩ = some (.int .i64 5) := b0.cell 0
  have t1 : W.cell? ⟨w.heap.size, 1, none⟩ = some (.int .i64 (i : Int)) := b0.cell 1
  have t2 : W.cell? ⟨w.heap.size, 2, none⟩ = some (.int .i64 j) := b0.cell 2
  have t3 : W.cell? ⟨w.heap.size, 3, none⟩ = some (.int .i64 b) := b0.cell 3
  have HRW := Lib.hid (HR2.out.keep hB)
  clear b0
  obtain ⟨bk, off, rfl, hcap, hc⟩ := RdT.at HRW.out HN.out i hi
  obtain ⟨s, hs⟩ : ∃ s, l.getD i e0 = s := ⟨_, rfl⟩
  rw [hs] at hc
  have HS := Lib.hid hs
  clear hs
  have d4 : decide ((i : Int) < 0) = false := nb (by omega)
  have d5 : decide ((N : Int) ≤ (i : Int)) = false := nb (by omega)
  have d5' : decide (N ≤ i) = false := nb (by omega)
  have i1 : (0 : Int) ≤ (i : Int) := by omega
  have i2 : (i : Int) < (N : Int) := by omega
  have hwk : IntKind.i64.wrap (i : Int) = (i : Int) := IntWalk.i64_in _ (by omega)
  rw [HS.out]
  by_cases c1 : 1 ≤ j
  · have q1 : decide (j < 1) = false := nb (by omega)
    rw [decide_eq_true c1, Bool.true_and]
    by_cases c2 : j < (s.size : Int)
    · have q2 : decide ((s.size : Int) ≤ j) = false := nb (by omega)
      rw [decide_eq_true c2, Bool.true_and]
      obtain ⟨jn, rfl⟩ : ∃ jn : Nat, j = jn := ⟨j.toNat, by omega⟩
      rw [Int.toNat_natCast]
      have q2' : decide (s.size ≤ jn) = false := nb (by omega)
      have j1 : (0 : Int) ≤ (jn : Int) := by omega
      have j2 : (jn : Int) ≤ (s.size : Int) := by omega
      clear c1 c2
      go_enter Tryd.func21, Tryd.ntmps21
      go_upto_region 1 with fail
      rw [← hW]
      clear hW
      go_wp2_with fail
      refine (rcheck_is _ l HZ.out 0 n HEN.out _ HRW.out).mono ?_
      rintro x w1 ⟨rfl, rfl⟩
      go_wp2_with fail
      refine (rown_any _ l (by rw [HN.out]; omega) _ HRW.out).mono ?_
      rintro x w2 ⟨a, c, rfl, hown, hb⟩
      rw [HN.out] at hown ⊢
      have tW0 := t0
      have tW1 := t1
      have tW2 := t2
      have tW3 := t3
      have t0 := cell_later hb t0
      have t1 := cell_later hb t1
      have t2 := cell_later hb t2
      have t3 := cell_later hb t3
      have hc := cell_later hb hc
      have HR3 := Lib.hid (HRW.out.keep hb)
      have hB2 := Below.next hB hb
      have HOWN := Lib.hid hown
      clear hown
      obtain ⟨g, rfl, hg0, hg1⟩ := own_addr HOWN.out (by omega)
      have c1 : ∃ s3, w2.cell? ⟨g, i, none⟩ = some (.string s3) := ⟨_, by rw [HOWN.out.cellAt i (by omega), tcs_get l i (by rw [HN.out]; exact hi)]⟩
      obtain ⟨s3, c1⟩ := c1
      have f1 : w2.frozen? ⟨g, i, none⟩ = false := HOWN.out.frozenAt i
      go_upto_region 30 with fail
      refine wp_region_calm (fun w' => Below w2.heap.size w2 w') 8 (by kernel_rfl) ((Below.refl _ w2).drew) ?_
      refine cm_run 0 157 (v := ?_) rfl rfl (by kernel_rfl) (by kernel_rfl) (by kernel_rfl) (by kernel_rfl) (by kernel_rfl) (fun _ _ _ h => h) (by rfl) ?_ ?_
      rotate_left
      · (intro wS hS; skip; go_simp; (try with_reducible rfl))
      simp only [List.setIfInBounds_toArray, List.set_cons_zero, List.set_cons_succ]
      refine cm_run 1 158 (v := ?_) rfl rfl (by kernel_rfl) (by kernel_rfl) (by kernel_rfl) (by kernel_rfl) (by kernel_rfl) (fun _ _ _ h => h) (by rfl) ?_ ?_
      rotate_left
      · (intro wS hS; skip; go_simp; (try with_reducible rfl))
      simp only [List.setIfInBounds_toArray, List.set_cons_zero, List.set_cons_succ]
      refine cm_run 2 159 (v := ?_) rfl rfl (by kernel_rfl) (by kernel_rfl) (by kernel_rfl) (by kernel_rfl) (by kernel_rfl) (fun _ _ _ h => h) (by rfl) ?_ ?_
      rotate_left
      · (intro wS hS; have g := cell_later hS t1; go_simp; (try with_reducible rfl))
      simp only [List.setIfInBounds_toArray, List.set_cons_zero, List.set_cons_succ]
      refine cm_run 3 160 (v := ?_) rfl rfl (by kernel_rfl) (by kernel_rfl) (by kernel_rfl) (by kernel_rfl) (by kernel_rfl) (fun _ _ _ h => h) (by rfl) ?_ ?_
      rotate_left
      · (intro wS hS; skip; go_simp; (try with_reducible rfl))
      simp only [List.setIfInBounds_toArray, List.set_cons_zero, List.set_cons_succ]
      refine cm_run 4 161 (v := ?_) rfl rfl (by kernel_rfl) (by kernel_rfl) (by kernel_rfl) (by kernel_rfl) (by kernel_rfl) (fun _ _ _ h => h) (by rfl) ?_ ?_
      rotate_left
      · (intro wS hS; skip; go_simp; (try with_reducible rfl))
      simp only [List.setIfInBounds_toArray, List.set_cons_zero, List.set_cons_succ]
      refine cm_run 5 162 (v := ?_) rfl rfl (by kernel_rfl) (by kernel_rfl) (by kernel_rfl) (by kernel_rfl) (by kernel_rfl) (fun _ _ _ h => h) (by rfl) ?_ ?_
      rotate_left
      · (intro wS hS; have g := cell_later hS t2; go_simp; (try with_reducible rfl))
      simp only [List.setIfInBounds_toArray, List.set_cons_zero, List.set_cons_succ]
      refine cm_run 6 163 (v := ?_) rfl rfl (by kernel_rfl) (by kernel_rfl) (by kernel_rfl) (by kernel_rfl) (by kernel_rfl) (fun _ _ _ h => h) (by rfl) ?_ ?_
      rotate_left
      · (intro wS hS; skip; go_simp; (try with_reducible rfl))
      simp only [List.setIfInBounds_toArray, List.set_cons_zero, List.set_cons_succ]
      refine cm_run 7 164 (v := ?_) rfl rfl (by kernel_rfl) (by kernel_rfl) (by kernel_rfl) (by kernel_rfl) (by kernel_rfl) (fun _ _ _ h => h) (by rfl) ?_ ?_
      rotate_left
      · (intro wS hS; skip; go_simp; (try with_reducible rfl))
      simp only [List.setIfInBounds_toArray, List.set_cons_zero, List.set_cons_succ]
      refine cm_tail 8 rfl (by kernel_rfl) (by kernel_rfl) (by kernel_rfl) (by rfl) ?_
      intro wS hS K hK
      have gx := cell_later hS c1; have fx := fz_later hS hg1 f1
      go_simp
      refine hK _ _ ?_
      clear hK K
      refine NoPanic.normal ?_
      have hOS := own_set HN.out (own_below HOWN.out hS) i (s.extract 0 jn)
      have hBS := (hb.trans (hS.mono hb.size)).setCell (p := ⟨g, i, none⟩) hg0 (.string (s.extract 0 jn))
      obtain ⟨WD, hWD⟩ : ∃ WD : World, WD = wS.setCell ⟨g, i, none⟩ (.string (s.extract 0 jn)) := ⟨_, rfl⟩
      rw [← hWD] at hOS hBS ⊢
      clear hWD gx fx hS c1 f1 t0 t1 t2 t3 hc
      have t0 := cell_later hBS tW0
      have t1 := cell_later hBS tW1
      have t2 := cell_later hBS tW2
      have t3 := cell_later hBS tW3
      have HRD : Hid (RdT WD (.slice (some ⟨g, 0, none⟩) N c) (l.set i (s.extract 0 jn))) := by unfold Hid RdT; rw [List.length_set, HN.out]; exact RdS.of_owns hOS (by decide)
      have HFR : Hid (Fresh w.heap.size (.slice (some ⟨g, 0, none⟩) N c)) := fun a n c e => by cases e; have h1 := hB.size; have h2 := hg0; show w.heap.size ≤ g; omega
      have hB3 := Below.next hB hBS
      clear hOS hBS
      go_wp2_with fail
      refine (unused_any ⟨5, (i : Int), (jn : Int), b⟩ _).mono ?_
      rw [HF.out]
      rintro x w4 ⟨rfl, hb4⟩
      have HRD2 := Lib.hid (HRD.out.keep hb4)
      have hB4 := Below.next hB3 hb4
      clear hb4
      cases f
      · go_wp2_with fail
        go_ret2
        exact ⟨_, rfl, RdT.nil _, Fresh.nil _ _ _, hB4⟩
      · go_wp2_with fail
        go_ret2
        exact ⟨_, rfl, HRD2.out, HFR.out, hB4⟩
    · have q2 : decide ((s.size : Int) ≤ j) = true := yb (by omega)
      rw [decide_eq_false c2, Bool.false_and]
      clear c1 c2
      go_enter Tryd.func21, Tryd.ntmps21
      go_upto_region 1 with fail
      rw [← hW]
      clear hW
      go_wp2_with fail
      refine (rcheck_is _ l HZ.out 0 n HEN.out _ HRW.out).mono ?_
      rintro x w1 ⟨rfl, rfl⟩
      go_wp2_with fail
      refine (rown_any _ l (by rw [HN.out]; omega) _ HRW.out).mono ?_
      rintro x w2 ⟨a, c, rfl, hown, hb⟩
      rw [HN.out] at hown ⊢
      have tW0 := t0
      have tW1 := t1
      have tW2 := t2
      have tW3 := t3
      have t0 := cell_later hb t0
      have t1 := cell_later hb t1
      have t2 := cell_later hb t2
      have t3 := cell_later hb t3
      have hc := cell_later hb hc
      have HR3 := Lib.hid (HRW.out.keep hb)
      have hB2 := Below.next hB hb
      have HOWN := Lib.hid hown
      clear hown
      go_wp2_with fail
      go_ret2
      exact ⟨_, rfl, RdT.nil _, Fresh.nil _ _ _, hB2⟩
  · have q1 : decide (j < 1) = true := yb (by omega)
    rw [decide_eq_false c1, Bool.false_and, Bool.false_and]
    clear c1
    go_enter Tryd.func21, Tryd.ntmps21
    go_upto_region 1 with fail
    rw [← hW]
    clear hW
    go_wp2_with fail
    refine (rcheck_is _ l HZ.out 0 n HEN.out _ HRW.out).mono ?_
    rintro x w1 ⟨rfl, rfl⟩
    go_wp2_with fail
    refine (rown_any _ l (by rw [HN.out]; omega) _ HRW.out).mono ?_
    rintro x w2 ⟨a, c, rfl, hown, hb⟩
    rw [HN.out] at hown ⊢
    have tW0 := t0
    have tW1 := t1
    have tW2 := t2
    have tW3 := t3
    have t0 := cell_later hb t0
    have t1 := cell_later hb t1
    have t2 := cell_later hb t2
    have t3 := cell_later hb t3
    have hc := cell_later hb hc
    have HR3 := Lib.hid (HRW.out.keep hb)
    have hB2 := Below.next hB hb
    have HOWN := Lib.hid hown
    clear hown
    go_wp2_with fail
    go_ret2
    exact ⟨_, rfl, RdT.nil _, Fresh.nil _ _ _, hB2⟩
end Go.Proofs.YtimkeafpefkheaaDoor
