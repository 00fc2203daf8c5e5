

/- Links: a fault happens (the reference's text): swap. -/
import Derived.Test.YtimkeafpefkheaaDoorOo
namespace Go.Proofs.YtimkeafpefkheaaDoor
open Go.RowKit
set_option linter.unusedSimpArgs false
set_option linter.unusedVariables false
set_option maxRecDepth 100000

set_option maxHeartbeats 4000000 in
theorem rap_3 (v : Value) (l : List Fr) (hz : Szs l) (hen : (chkL l).1 = 0) (i : Nat) (j b : Int) (hi : i < l.length) (w : World) (h : RdT w v l) :
    Calls Tryd.prog 21 #[v, (⟨3, (i : Int), j, b⟩ : Tr).v] w (RaR w l ⟨3, (i : Int), j, b⟩) := by
  unfold RaR
  rw [show apL l ⟨3, (i : Int), j, b⟩ = swapV l i j.toNat by simp [apL], show fitT l ⟨3, (i : Int), j, b⟩ = (decide (0 ≤ j) && decide (j < (l.length : Int)) && unV ⟨3, (i : Int), j, b⟩) by simp [fitT, unV]]
  obtain ⟨f, hf⟩ : ∃ f, unV ⟨3, (i : Int), j, b⟩ = f := ⟨_, rfl⟩
  rw [hf]
  have HF := Lib.hid hf
  clear hf
  obtain ⟨n, hen'⟩ : ∃ n, chkL l = (0, n) := ⟨(chkL l).2, by rw [← hen]⟩
  have HEN := Lib.hid hen'
  have HZ := Lib.hid hz
  have hcz := chkL_zero hen
  obtain ⟨a0, n0, rfl⟩ := h.form
  obtain ⟨N, hN⟩ : ∃ N, l.length = N := ⟨_, rfl⟩
  have HN := Lib.hid hN
  have HR2 : Hid (RdT w (.slice a0 N n0) l) := by unfold Hid; rw [← hN]; exact h
  have HSZ : Hid (∀ j, j < l.length → (l.getD j e0).size ≤ 1200) := fun j hj => (hcz.2 j hj).2
  have hl := hcz.1
  rw [hN] at hl hi ⊢
  clear h hN hcz hen hen' hz
  obtain ⟨W, hW⟩ : ∃ W : World, W = w.alloc (.cells #[.int .i64 3, .int .i64 (i : Int), .int .i64 j, .int .i64 b] 36) := ⟨_, rfl⟩
  have hB : Below w.heap.size w W := by rw [hW]; exact (by repeat (first | assumption | exact Below.refl _ _ | apply Below.al | apply below_drewN | apply Below.drew | refine Below.next ?_ (by assumption)))
  have b0 : BoxN W w.heap.size 36 #[.int .i64 3, .int .i64 (i : Int), .int .i64 j, .int .i64 b] := by rw [hW]; exact BoxN.new w _ _
  have t0 : W.cell? ⟨w.heap.size, 0, none⟩ = some (.int .i64 3) := b0.cell 0
  have t1 : W.cell? ⟨w.heap.size, 1, none⟩ = some (.int .i64 (i : Int)) := b0.cell 1
  have t2 : W.cell? ⟨w.heap.size, 2, none⟩ = some (.int .i64 j) := b0.cell 2
  have t3 : W.cell? ⟨w.heap.size, 3, none⟩ = some (.int .i64 b) := b0.cell 3
  have HRW := Lib.hid (HR2.out.keep hB)
  clear b0
  obtain ⟨bk, off, rfl, hcap, hc⟩ := RdT.at HRW.out HN.out i hi
  obtain ⟨s, hs⟩ : ∃ s, l.getD i e0 = s := ⟨_, rfl⟩
  rw [hs] at hc
  have HS := Lib.hid hs
  clear hs
  have d4 : decide ((i : Int) < 0) = false := nb (by omega)
  have d5 : decide ((N : Int) ≤ (i : Int)) = false := nb (by omega)
  have d5' : decide (N ≤ i) = false := nb (by omega)
  have i1 : (0 : Int) ≤ (i : Int) := by omega
  have i2 : (i : Int) < (N : Int) := by omega
  have hwk : IntKind.i64.wrap (i : Int) = (i : Int) := IntWalk.i64_in _ (by omega)
  by_cases c1 : 0 ≤ j
  · have q1 : decide (j < 0) = false := nb (by omega)
    rw [decide_eq_true c1, Bool.true_and]
    by_cases c2 : j < (N : Int)
    · have q2 : decide ((N : Int) ≤ j) = false := nb (by omega)
      rw [decide_eq_true c2, Bool.true_and]
      obtain ⟨jn, rfl⟩ : ∃ jn : Nat, j = jn := ⟨j.toNat, by omega⟩
      rw [Int.toNat_natCast]
      have q2' : decide (N ≤ jn) = false := nb (by omega)
      have hjN : jn < N := by omega
      have j1 : (0 : Int) ≤ (jn : Int) := by omega
      have j2 : (jn : Int) < (N : Int) := by omega
      have hwj : IntKind.i64.wrap (jn : Int) = (jn : Int) := IntWalk.i64_in _ (by omega)
      obtain ⟨bk2, off2, hbk2, _, hcj⟩ := RdT.at HRW.out HN.out jn hjN
      simp only [Option.some.injEq, Addr.mk.injEq, and_true] at hbk2
      obtain ⟨rfl, rfl⟩ := hbk2
      obtain ⟨s2, hs2⟩ : ∃ s, l.getD jn e0 = s := ⟨_, rfl⟩
      unfold swapV
      rw [HS.out]
      rw [hs2] at hcj ⊢
      have hci := hc
      clear c1 c2 hs2
      go_enter Tryd.func21, Tryd.ntmps21
      go_upto_region 1 with fail
      rw [← hW]
      clear hW
      go_wp2_with fail
      refine (rcheck_is _ l HZ.out 0 n HEN.out _ HRW.out).mono ?_
      rintro x w1 ⟨rfl, rfl⟩
      go_wp2_with fail
      refine (rown_any _ l (by rw [HN.out]; omega) _ HRW.out).mono ?_
      rintro x w2 ⟨a, c, rfl, hown, hb⟩
      rw [HN.out] at hown ⊢
      have tW0 := t0
      have tW1 := t1
      have tW2 := t2
      have tW3 := t3
      have t0 := cell_later hb t0
      have t1 := cell_later hb t1
      have t2 := cell_later hb t2
      have t3 := cell_later hb t3
      have hc := cell_later hb hc
      have HR3 := Lib.hid (HRW.out.keep hb)
      have hB2 := Below.next hB hb
      have HOWN := Lib.hid hown
      clear hown
      obtain ⟨g, rfl, hg0, hg1⟩ := own_addr HOWN.out (by omega)
      have HJN := Lib.hid hjN
      go_upto_region 20 with fail
      refine wp_region_noPanic ?_
      refine wp_region_held_drew (S := (fun w' => Below W.heap.size W w')) (by kernel_rfl) hb.drew (fun hHeld => ?_)
      obtain ⟨Wd, hWd⟩ : ∃ Wd : World, Wd = w2.drew := ⟨_, rfl⟩
      rw [← hWd] at hHeld ⊢
      have HO3 : Hid (Wd.ownsRow W.heap.size 9 1 (.slice (some ⟨g, 0, none⟩) N c) N (tcs l)) := by rw [hWd]; exact own_below HOWN.out (Below.refl _ w2).drew
      clear hWd
      refine reg_tk (v := ?_) 0 84 rfl rfl (by kernel_rfl) (by kernel_rfl) (by kernel_rfl) (fun _ _ _ h => h) (by rfl) ?_ (by assumption) ?_
      rotate_left
      · (intro w hSw; (try dsimp only at hSw); go_simp; (try with_reducible rfl))
      simp only [List.setIfInBounds_toArray, List.set_cons_zero, List.set_cons_succ]
      refine reg_tk (v := ?_) 1 85 rfl rfl (by kernel_rfl) (by kernel_rfl) (by kernel_rfl) (fun _ _ _ h => h) (by rfl) ?_ (by assumption) ?_
      rotate_left
      · (intro w hSw; (try dsimp only at hSw); go_simp; (try with_reducible rfl))
      simp only [List.setIfInBounds_toArray, List.set_cons_zero, List.set_cons_succ]
      refine reg_tk (v := .int .i64 (i : Int)) 2 86 rfl rfl (by kernel_rfl) (by kernel_rfl) (by kernel_rfl) (fun _ _ _ h => h) (by rfl) (fun w3 hS => by have g := cell_later hS tW1; go_simp) (by assumption) ?_
      simp only [List.setIfInBounds_toArray, List.set_cons_zero, List.set_cons_succ]
      refine reg_tk (v := ?_) 3 87 rfl rfl (by kernel_rfl) (by kernel_rfl) (by kernel_rfl) (fun _ _ _ h => h) (by rfl) ?_ (by assumption) ?_
      rotate_left
      · (intro w hSw; (try dsimp only at hSw); go_simp; (try with_reducible rfl))
      simp only [List.setIfInBounds_toArray, List.set_cons_zero, List.set_cons_succ]
      refine reg_tk (v := ?_) 4 88 rfl rfl (by kernel_rfl) (by kernel_rfl) (by kernel_rfl) (fun _ _ _ h => h) (by rfl) ?_ (by assumption) ?_
      rotate_left
      · (intro w hSw; (try dsimp only at hSw); go_simp; (try with_reducible rfl))
      simp only [List.setIfInBounds_toArray, List.set_cons_zero, List.set_cons_succ]
      refine reg_tk (v := .int .i64 (jn : Int)) 5 89 rfl rfl (by kernel_rfl) (by kernel_rfl) (by kernel_rfl) (fun _ _ _ h => h) (by rfl) (fun w3 hS => by have g := cell_later hS tW2; go_simp) (by assumption) ?_
      simp only [List.setIfInBounds_toArray, List.set_cons_zero, List.set_cons_succ]
      refine reg_tk (v := ?_) 6 90 rfl rfl (by kernel_rfl) (by kernel_rfl) (by kernel_rfl) (fun _ _ _ h => h) (by rfl) ?_ (by assumption) ?_
      rotate_left
      · (intro w hSw; (try dsimp only at hSw); go_simp; (try with_reducible rfl))
      simp only [List.setIfInBounds_toArray, List.set_cons_zero, List.set_cons_succ]
      refine reg_tk (v := ?_) 7 91 rfl rfl (by kernel_rfl) (by kernel_rfl) (by kernel_rfl) (fun _ _ _ h => h) (by rfl) ?_ (by assumption) ?_
      rotate_left
      · (intro w hSw; (try dsimp only at hSw); go_simp; (try with_reducible rfl))
      simp only [List.setIfInBounds_toArray, List.set_cons_zero, List.set_cons_succ]
      refine reg_tk (v := .int .i64 (jn : Int)) 8 92 rfl rfl (by kernel_rfl) (by kernel_rfl) (by kernel_rfl) (fun _ _ _ h => h) (by rfl) (fun w3 hS => by have g := cell_later hS tW2; go_simp) (by assumption) ?_
      simp only [List.setIfInBounds_toArray, List.set_cons_zero, List.set_cons_succ]
      refine reg_tk (v := ?_) 9 93 rfl rfl (by kernel_rfl) (by kernel_rfl) (by kernel_rfl) (fun _ _ _ h => h) (by rfl) ?_ (by assumption) ?_
      rotate_left
      · (intro w hSw; (try dsimp only at hSw); go_simp; (try with_reducible rfl))
      simp only [List.setIfInBounds_toArray, List.set_cons_zero, List.set_cons_succ]
      refine reg_tk (v := .string s2) 10 94 rfl rfl (by kernel_rfl) (by kernel_rfl) (by kernel_rfl) (fun _ _ _ h => h) (by rfl) (fun w3 hS => by have g := cell_later hS hcj; go_simp) (by assumption) ?_
      simp only [List.setIfInBounds_toArray, List.set_cons_zero, List.set_cons_succ]
      refine reg_tk (v := ?_) 11 95 rfl rfl (by kernel_rfl) (by kernel_rfl) (by kernel_rfl) (fun _ _ _ h => h) (by rfl) ?_ (by assumption) ?_
      rotate_left
      · (intro w hSw; (try dsimp only at hSw); go_simp; (try with_reducible rfl))
      simp only [List.setIfInBounds_toArray, List.set_cons_zero, List.set_cons_succ]
      refine reg_tk (v := ?_) 12 96 rfl rfl (by kernel_rfl) (by kernel_rfl) (by kernel_rfl) (fun _ _ _ h => h) (by rfl) ?_ (by assumption) ?_
      rotate_left
      · (intro w hSw; (try dsimp only at hSw); go_simp; (try with_reducible rfl))
      simp only [List.setIfInBounds_toArray, List.set_cons_zero, List.set_cons_succ]
      refine reg_tk (v := .int .i64 (i : Int)) 13 97 rfl rfl (by kernel_rfl) (by kernel_rfl) (by kernel_rfl) (fun _ _ _ h => h) (by rfl) (fun w3 hS => by have g := cell_later hS tW1; go_simp) (by assumption) ?_
      simp only [List.setIfInBounds_toArray, List.set_cons_zero, List.set_cons_succ]
      refine reg_tk (v := ?_) 14 98 rfl rfl (by kernel_rfl) (by kernel_rfl) (by kernel_rfl) (fun _ _ _ h => h) (by rfl) ?_ (by assumption) ?_
      rotate_left
      · (intro w hSw; (try dsimp only at hSw); go_simp; (try with_reducible rfl))
      simp only [List.setIfInBounds_toArray, List.set_cons_zero, List.set_cons_succ]
      refine reg_tk (v := .string s) 15 99 rfl rfl (by kernel_rfl) (by kernel_rfl) (by kernel_rfl) (fun _ _ _ h => h) (by rfl) (fun w3 hS => by have g := cell_later hS hci; go_simp) (by assumption) ?_
      simp only [List.setIfInBounds_toArray, List.set_cons_zero, List.set_cons_succ]
      refine reg_tk (v := ?_) 16 100 rfl rfl (by kernel_rfl) (by kernel_rfl) (by kernel_rfl) (fun _ _ _ h => h) (by rfl) ?_ (by assumption) ?_
      rotate_left
      · (intro w hSw; (try dsimp only at hSw); go_simp; (try with_reducible rfl))
      simp only [List.setIfInBounds_toArray, List.set_cons_zero, List.set_cons_succ]
      have c1 : ∃ s3, Wd.cell? ⟨g, i, none⟩ = some (.string s3) := ⟨_, by rw [HO3.out.cellAt i (by omega), tcs_get l i (by rw [HN.out]; exact hi)]⟩
      obtain ⟨s3, c1⟩ := c1
      have f1 : Wd.frozen? ⟨g, i, none⟩ = false := HO3.out.frozenAt i
      refine wpAnyH_ready (rs := [17]) (by kernel_rfl) (by simp) ?_
      refine AllReadyH.cons rfl (fun K hK => ?_) AllReadyH.nil
      go_simp
      obtain ⟨WA, hWA⟩ : ∃ WA : World, WA = Wd.setCell ⟨g, i, none⟩ (.string s2) := ⟨_, rfl⟩
      have hOA := own_set HN.out HO3.out i s2
      have hBA := hHeld.setCell (p := ⟨g, i, none⟩) hg0 (.string s2)
      rw [← hWA] at hOA hBA ⊢
      clear hWA c1 f1
      have HOA := Lib.hid hOA
      clear hOA
      have cA : ∃ s3, WA.cell? ⟨g, jn, none⟩ = some (.string s3) := ⟨_, by rw [HOA.out.cellAt jn (by have := HJN.out; omega), tcs_get _ jn (by rw [List.length_set, HN.out]; exact HJN.out)]⟩
      obtain ⟨s4, cA⟩ := cA
      have fA : WA.frozen? ⟨g, jn, none⟩ = false := HOA.out.frozenAt jn
      refine hK.out _ _ hBA (fun hHeld2 => ?_)
      clear hK K hHeld
      have hHeld := hHeld2
      clear hHeld2
      try simp only [Act.put, List.setIfInBounds_toArray, List.set_cons_zero, List.set_cons_succ]
      refine reg_tk (v := ?_) 18 101 rfl rfl (by kernel_rfl) (by kernel_rfl) (by kernel_rfl) (fun _ _ _ h => h) (by rfl) ?_ (by assumption) ?_
      rotate_left
      · (intro w hSw; (try dsimp only at hSw); go_simp; (try with_reducible rfl))
      simp only [List.setIfInBounds_toArray, List.set_cons_zero, List.set_cons_succ]
      refine wpAnyH_ready (rs := [19]) (by kernel_rfl) (by simp) ?_
      refine AllReadyH.cons rfl (fun K hK => ?_) AllReadyH.nil
      go_simp
      obtain ⟨WD, hWD⟩ : ∃ WD : World, WD = WA.setCell ⟨g, jn, none⟩ (.string s) := ⟨_, rfl⟩
      have hOC := own_set (by rw [List.length_set, HN.out]) HOA.out jn s
      have hBS := hBA.setCell (p := ⟨g, jn, none⟩) hg0 (.string s)
      rw [← hWD] at hOC hBS ⊢
      clear hWD cA fA
      have HRD : Hid (RdT WD (.slice (some ⟨g, 0, none⟩) N c) ((l.set i s2).set jn s)) := by unfold Hid RdT; rw [List.length_set, List.length_set, HN.out]; exact RdS.of_owns hOC (by decide)
      have HFR : Hid (Fresh w.heap.size (.slice (some ⟨g, 0, none⟩) N c)) := fun a n c e => by cases e; have h1 := hB.size; have h2 := hg0; show w.heap.size ≤ g; omega
      clear hOC
      refine hK.out _ _ hBS (fun hHeld2 => ?_)
      clear hK K hHeld
      have hHeld := hHeld2
      clear hHeld2
      try simp only [Act.put, List.setIfInBounds_toArray, List.set_cons_zero, List.set_cons_succ]
      refine wpAnyH_done (by kernel_rfl) ?_ _
      refine NoPanic.normal ?_
      clear hHeld t0 t1 t2 t3 hc hBA
      have t0 := cell_later hBS tW0
      have t1 := cell_later hBS tW1
      have t2 := cell_later hBS tW2
      have t3 := cell_later hBS tW3
      have hB3 := Below.next hB hBS
      clear hBS
      go_wp2_with fail
      refine (unused_any ⟨3, (i : Int), (jn : Int), b⟩ _).mono ?_
      rw [HF.out]
      rintro x w4 ⟨rfl, hb4⟩
      have HRD2 := Lib.hid (HRD.out.keep hb4)
      have hB4 := Below.next hB3 hb4
      clear hb4
      cases f
      · go_wp2_with fail
        go_ret2
        exact ⟨_, rfl, RdT.nil _, Fresh.nil _ _ _, hB4⟩
      · go_wp2_with fail
        go_ret2
        exact ⟨_, rfl, HRD2.out, HFR.out, hB4⟩
    · have q2 : decide ((N : Int) ≤ j) = true := yb (by omega)
      rw [decide_eq_false c2, Bool.false_and]
      clear c1 c2
      go_enter Tryd.func21, Tryd.ntmps21
      go_upto_region 1 with fail
      rw [← hW]
      clear hW
      go_wp2_with fail
      refine (rcheck_is _ l HZ.out 0 n HEN.out _ HRW.out).mono ?_
      rintro x w1 ⟨rfl, rfl⟩
      go_wp2_with fail
      refine (rown_any _ l (by rw [HN.out]; omega) _ HRW.out).mono ?_
      rintro x w2 ⟨a, c, rfl, hown, hb⟩
      rw [HN.out] at hown ⊢
      have tW0 := t0
      have tW1 := t1
      have tW2 := t2
      have tW3 := t3
      have t0 := cell_later hb t0
      have t1 := cell_later hb t1
      have t2 := cell_later hb t2
      have t3 := cell_later hb t3
      have hc := cell_later hb hc
      have HR3 := Lib.hid (HRW.out.keep hb)
      have hB2 := Below.next hB hb
      have HOWN := Lib.hid hown
      clear hown
      go_wp2_with fail
      go_ret2
      exact ⟨_, rfl, RdT.nil _, Fresh.nil _ _ _, hB2⟩
  · have q1 : decide (j < 0) = true := yb (by omega)
    rw [decide_eq_false c1, Bool.false_and, Bool.false_and]
    clear c1
    go_enter Tryd.func21, Tryd.ntmps21
    go_upto_region 1 with fail
    rw [← hW]
    clear hW
    go_wp2_with fail
    refine (rcheck_is _ l HZ.out 0 n HEN.out _ HRW.out).mono ?_
    rintro x w1 ⟨rfl, rfl⟩
    go_wp2_with fail
    refine (rown_any _ l (by rw [HN.out]; omega) _ HRW.out).mono ?_
    rintro x w2 ⟨a, c, rfl, hown, hb⟩
    rw [HN.out] at hown ⊢
    have tW0 := t0
    have tW1 := t1
    have tW2 := t2
    have tW3 := t3
    have t0 := cell_later hb t0
    have t1 := cell_later hb t1
    have t2 := cell_later hb t2
    have t3 := cell_later hb t3
    have hc := cell_later hb hc
    have HR3 := Lib.hid (HRW.out.keep hb)
    have hB2 := Below.next hB hb
    have HOWN := Lib.hid hown
    clear hown
    go_wp2_with fail
    go_ret2
    exact ⟨_, rfl, RdT.nil _, Fresh.nil _ _ _, hB2⟩
end Go.Proofs.YtimkeafpefkheaaDoor
