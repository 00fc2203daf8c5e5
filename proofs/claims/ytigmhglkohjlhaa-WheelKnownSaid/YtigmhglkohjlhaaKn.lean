


/- Timers: the chapter's examples have the results given there. -/
import Derived.Test.YtigmhglkohjlhaaLa
namespace Go.Proofs.Ytigmhglkohjlhaa
open Go.RowKit
set_option linter.unusedSimpArgs false
set_option linter.unusedVariables false
set_option maxRecDepth 100000

theorem kn_add : addW exF (atm 1 4) = ([atm 1 4, atm 3 2, atm 4 3, atm 5 1], 0) := by decide +kernel
theorem kn_can : canW exF ⟨0, 2, 1, 1, 0⟩ = ([atm 4 3, atm 5 1], 0) := by decide +kernel
theorem kn_nxt : nxtW exF = (atm 3 2, true, 0) := by decide +kernel
theorem kn_due : dueW exF 2 = ([], exF, 0) := by decide +kernel
theorem kn_m1 : mkL [atm 5 1, atm 3 1] = ([], 9) := by decide +kernel
theorem kn_m2 : mkL [atm 5 0] = ([], 7) := by decide +kernel
theorem kn_n0 : nxtW [] = (z0, false, 0) := by decide +kernel
theorem kn_chk : chkW [atm 5 1, atm 3 2] = (19, 1) := by decide +kernel
set_option maxHeartbeats 4000000 in
theorem lknown_any (w : World) : Calls Try.prog 6 #[] w fun e w' => e = .returned (.bool true) ∧ Below w.heap.size w w' := by
  have K1 := Lib.hid kn_add
  have K2 := Lib.hid kn_can
  have K3 := Lib.hid kn_nxt
  have K4 := Lib.hid kn_due
  have K5 := Lib.hid kn_m1
  have K6 := Lib.hid kn_m2
  have K7 := Lib.hid kn_n0
  have K8 := Lib.hid kn_chk
  have hB := Below.refl w.heap.size w
  go_enter Try.func6, Try.ntmps6
  go_wp2_with fail
  refine (first_any _).mono ?_
  rintro e w1 ⟨b6, rfl, h6, hb⟩
  have hB := Below.next hB hb
  have HF := Lib.hid h6
  skip
  clear hb h6
  go_wp2_with fail
  refine (at_any 1 4 _).mono ?_
  rintro e w2 ⟨rfl, hb⟩
  have hB := Below.next hB hb
  have HF := Lib.hid (RdL.keep hb HF.out)
  clear hb
  go_wp2_with fail
  refine (add_any _ exF (atm 1 4) _ HF.out).mono ?_
  rw [K1.out]
  rintro e w3 ⟨v1, rfl, h1, hb⟩
  have hB := Below.next hB hb
  obtain ⟨a1, c1, rfl⟩ := h1.form
  have HA := Lib.hid h1
  clear h1
  clear hb HF
  go_wp2_with fail
  refine (first_any _).mono ?_
  rintro e w4 ⟨b6, rfl, h6, hb⟩
  have hB := Below.next hB hb
  have HF := Lib.hid h6
  have HA := Lib.hid (RdL.keep hb HA.out)
  clear hb h6
  go_wp2_with fail
  refine (cancel_any _ exF ⟨0, 2, 1, 1, 0⟩ _ HF.out).mono ?_
  rw [K2.out]
  rintro e w5 ⟨v1, rfl, h1, hb⟩
  have hB := Below.next hB hb
  obtain ⟨a1, c1, rfl⟩ := h1.form
  have HC := Lib.hid h1
  clear h1
  have HA := Lib.hid (RdL.keep hb HA.out)
  clear hb HF
  go_wp2_with fail
  refine (at_any 1 4 _).mono ?_
  rintro e w6 ⟨rfl, hb⟩
  have hB := Below.next hB hb
  have HA := Lib.hid (RdL.keep hb HA.out); have HC := Lib.hid (RdL.keep hb HC.out)
  clear hb
  go_wp2_with fail
  refine (at_any 3 2 _).mono ?_
  rintro e w7 ⟨rfl, hb⟩
  have hB := Below.next hB hb
  have HA := Lib.hid (RdL.keep hb HA.out); have HC := Lib.hid (RdL.keep hb HC.out)
  clear hb
  go_wp2_with fail
  refine (at_any 4 3 _).mono ?_
  rintro e w8 ⟨rfl, hb⟩
  have hB := Below.next hB hb
  have HA := Lib.hid (RdL.keep hb HA.out); have HC := Lib.hid (RdL.keep hb HC.out)
  clear hb
  go_wp2_with fail
  refine (at_any 5 1 _).mono ?_
  rintro e w9 ⟨rfl, hb⟩
  have hB := Below.next hB hb
  have HA := Lib.hid (RdL.keep hb HA.out); have HC := Lib.hid (RdL.keep hb HC.out)
  clear hb
  have HL := Lib.hid (rd_lit w9 [atm 1 4, atm 3 2, atm 4 3, atm 5 1] (by decide))
  have hb := Below.al (Below.refl _ w9) (.cells (rcs tmR [atm 1 4, atm 3 2, atm 4 3, atm 5 1]).toArray 41)
  have hB := Below.next hB hb
  have HA := Lib.hid (RdL.keep hb HA.out); have HC := Lib.hid (RdL.keep hb HC.out)
  clear hb
  go_wp2_with fail
  refine (same_eq _ _ [atm 1 4, atm 3 2, atm 4 3, atm 5 1] _ HA.out HL.out).mono ?_
  rintro e wa ⟨rfl, hb⟩
  have hB := Below.next hB hb
  clear HA HL
  have HC := Lib.hid (RdL.keep hb HC.out)
  clear hb
  go_wp2_with fail
  refine (at_any 4 3 _).mono ?_
  rintro e wb ⟨rfl, hb⟩
  have hB := Below.next hB hb
  have HC := Lib.hid (RdL.keep hb HC.out)
  clear hb
  go_wp2_with fail
  refine (at_any 5 1 _).mono ?_
  rintro e wc ⟨rfl, hb⟩
  have hB := Below.next hB hb
  have HC := Lib.hid (RdL.keep hb HC.out)
  clear hb
  have HL := Lib.hid (rd_lit wc [atm 4 3, atm 5 1] (by decide))
  have hb := Below.al (Below.refl _ wc) (.cells (rcs tmR [atm 4 3, atm 5 1]).toArray 41)
  have hB := Below.next hB hb
  have HC := Lib.hid (RdL.keep hb HC.out)
  clear hb
  go_wp2_with fail
  refine (same_eq _ _ [atm 4 3, atm 5 1] _ HC.out HL.out).mono ?_
  rintro e wd ⟨rfl, hb⟩
  have hB := Below.next hB hb
  clear HC HL
  clear hb
  go_wp2_with fail
  refine (first_any _).mono ?_
  rintro e we ⟨b6, rfl, h6, hb⟩
  have hB := Below.next hB hb
  have HF := Lib.hid h6
  skip
  clear hb h6
  go_wp2_with fail
  refine (next_any _ exF _ HF.out).mono ?_
  rw [K3.out]
  rintro e wf ⟨rfl, hb⟩
  have hB := Below.next hB hb
  clear hb HF
  go_wp2_with fail
  have hZ : Hid (w.heap.size ≤ wf.heap.size) := hB.size
  obtain ⟨X, hX⟩ : ∃ X : World, X = wf.alloc (.cells #[.int .i64 3, .int .i64 2, .int .i64 1, .int .u64 1, .int .i64 0] 41) := ⟨_, rfl⟩
  have bA : BoxN X wf.heap.size 41 #[.int .i64 3, .int .i64 2, .int .i64 1, .int .u64 1, .int .i64 0] := by rw [hX]; exact BoxN.new _ _ _
  have hB : Below w.heap.size w X := by rw [hX]; exact Below.al hB _
  rw [show wf.alloc (.cells #[.int .i64 (atm 3 2).tk, .int .i64 (atm 3 2).kd, .int .i64 (atm 3 2).nd, .int .u64 (atm 3 2).sq, .int .i64 (atm 3 2).of] 41) = X from hX.symm]
  clear hX
  refine (first_any _).mono ?_
  rintro e wg ⟨b6, rfl, h6, hb⟩
  have hB := Below.next hB hb
  have HF := Lib.hid h6
  have bA := bA.below hb
  clear hb h6
  go_wp2_with fail
  refine (due_any _ exF 2 _ HF.out).mono ?_
  rw [K4.out]
  rintro e wh ⟨v1, v2, rfl, h1, h2, hb⟩
  have hB := Below.next hB hb
  obtain ⟨a1, c1, rfl⟩ := h1.form
  obtain ⟨a2, c2, rfl⟩ := h2.form
  have H7 := Lib.hid h1
  have G7 := Lib.hid h2
  clear h1 h2
  have bA := bA.below hb
  clear hb HF
  have x0 : wh.cell? ⟨wf.heap.size, 0, none⟩ = some (.int .i64 3) := (bA.cell 0).trans rfl
  have x1 : wh.cell? ⟨wf.heap.size, 1, none⟩ = some (.int .i64 2) := (bA.cell 1).trans rfl
  have x2 : wh.cell? ⟨wf.heap.size, 2, none⟩ = some (.int .i64 1) := (bA.cell 2).trans rfl
  have x3 : wh.cell? ⟨wf.heap.size, 3, none⟩ = some (.int .u64 1) := (bA.cell 3).trans rfl
  have x4 : wh.cell? ⟨wf.heap.size, 4, none⟩ = some (.int .i64 0) := (bA.cell 4).trans rfl
  clear bA hZ
  go_upto_region 7 with fail
  refine wp_region_noPanic ?_
  refine wp_region_held_drew (S := (fun w' => Below wh.heap.size wh w')) (by kernel_rfl) ((Below.refl _ wh).drew) (fun hHeld => ?_)
  refine reg_tk (v := (atm 3 2).v) 0 61 rfl rfl (by kernel_rfl) (by kernel_rfl) (by kernel_rfl) (fun _ _ _ h => h) (by rfl) (fun w3 hS => by (have y0 := cell_later hS x0; have y1 := cell_later hS x1; have y2 := cell_later hS x2; have y3 := cell_later hS x3; have y4 := cell_later hS x4); go_simp; exact ⟨rfl, rfl, rfl, rfl, rfl⟩) (by assumption) ?_
  simp only [List.setIfInBounds_toArray, List.set_cons_zero, List.set_cons_succ]
  refine wpAnyH_ready (rs := [1]) (by kernel_rfl) (by simp) ?_
  refine AllReadyH.cons rfl (fun K hK => ?_) AllReadyH.nil
  go_simp
  refine (at_any 3 2 _).mono ?_
  rintro e wi ⟨rfl, hb⟩
  have hB3 := Below.next hHeld hb
  clear hb
  refine hK.out _ _ hB3 (fun hHeld2 => ?_)
  clear hK K hHeld
  have hHeld := hHeld2
  clear hHeld2
  try simp only [Act.put, List.setIfInBounds_toArray, List.set_cons_zero, List.set_cons_succ]
  refine reg_tk (v := ?_) 2 63 rfl rfl (by kernel_rfl) (by kernel_rfl) (by kernel_rfl) (fun _ _ _ h => h) (by rfl) ?_ (by assumption) ?_
  rotate_left
  · (intro w hSw; (try dsimp only at hSw); go_simp; (try with_reducible rfl))
  simp only [List.setIfInBounds_toArray, List.set_cons_zero, List.set_cons_succ]
  refine reg_tk (v := ?_) 3 64 rfl rfl (by kernel_rfl) (by kernel_rfl) (by kernel_rfl) (fun _ _ _ h => h) (by rfl) ?_ (by assumption) ?_
  rotate_left
  · (intro w hSw; (try dsimp only at hSw); go_simp; (try with_reducible rfl))
  simp only [List.setIfInBounds_toArray, List.set_cons_zero, List.set_cons_succ]
  refine reg_tk (v := ?_) 4 65 rfl rfl (by kernel_rfl) (by kernel_rfl) (by kernel_rfl) (fun _ _ _ h => h) (by rfl) ?_ (by assumption) ?_
  rotate_left
  · (intro w hSw; (try dsimp only at hSw); go_simp; (try with_reducible rfl))
  simp only [List.setIfInBounds_toArray, List.set_cons_zero, List.set_cons_succ]
  refine reg_tk (v := ?_) 5 66 rfl rfl (by kernel_rfl) (by kernel_rfl) (by kernel_rfl) (fun _ _ _ h => h) (by rfl) ?_ (by assumption) ?_
  rotate_left
  · (intro w hSw; (try dsimp only at hSw); go_simp; (try with_reducible rfl))
  simp only [List.setIfInBounds_toArray, List.set_cons_zero, List.set_cons_succ]
  refine reg_tk (v := ?_) 6 67 rfl rfl (by kernel_rfl) (by kernel_rfl) (by kernel_rfl) (fun _ _ _ h => h) (by rfl) ?_ (by assumption) ?_
  rotate_left
  · (intro w hSw; (try dsimp only at hSw); go_simp; (try with_reducible rfl))
  simp only [List.setIfInBounds_toArray, List.set_cons_zero, List.set_cons_succ]
  refine reg_tk (v := ?_) 7 68 rfl rfl (by kernel_rfl) (by kernel_rfl) (by kernel_rfl) (fun _ _ _ h => h) (by rfl) ?_ (by assumption) ?_
  rotate_left
  · (intro w hSw; (try dsimp only at hSw); go_simp; (try with_reducible rfl))
  simp only [List.setIfInBounds_toArray, List.set_cons_zero, List.set_cons_succ]
  refine reg_tk (v := ?_) 8 69 rfl rfl (by kernel_rfl) (by kernel_rfl) (by kernel_rfl) (fun _ _ _ h => h) (by rfl) ?_ (by assumption) ?_
  rotate_left
  · (intro w hSw; (try dsimp only at hSw); go_simp; (try with_reducible rfl))
  simp only [List.setIfInBounds_toArray, List.set_cons_zero, List.set_cons_succ]
  refine reg_tk (v := ?_) 9 70 rfl rfl (by kernel_rfl) (by kernel_rfl) (by kernel_rfl) (fun _ _ _ h => h) (by rfl) ?_ (by assumption) ?_
  rotate_left
  · (intro w hSw; (try dsimp only at hSw); go_simp; (try with_reducible rfl))
  simp only [List.setIfInBounds_toArray, List.set_cons_zero, List.set_cons_succ]
  refine reg_tk (v := ?_) 10 71 rfl rfl (by kernel_rfl) (by kernel_rfl) (by kernel_rfl) (fun _ _ _ h => h) (by rfl) ?_ (by assumption) ?_
  rotate_left
  · (intro w hSw; (try dsimp only at hSw); go_simp; (try with_reducible rfl))
  simp only [List.setIfInBounds_toArray, List.set_cons_zero, List.set_cons_succ]
  refine reg_tk (v := ?_) 11 72 rfl rfl (by kernel_rfl) (by kernel_rfl) (by kernel_rfl) (fun _ _ _ h => h) (by rfl) ?_ (by assumption) ?_
  rotate_left
  · (intro w hSw; (try dsimp only at hSw); go_simp; (try with_reducible rfl))
  simp only [List.setIfInBounds_toArray, List.set_cons_zero, List.set_cons_succ]
  refine reg_tk (v := ?_) 12 73 rfl rfl (by kernel_rfl) (by kernel_rfl) (by kernel_rfl) (fun _ _ _ h => h) (by rfl) ?_ (by assumption) ?_
  rotate_left
  · (intro w hSw; (try dsimp only at hSw); go_simp; (try with_reducible rfl))
  simp only [List.setIfInBounds_toArray, List.set_cons_zero, List.set_cons_succ]
  refine reg_tk (v := ?_) 13 74 rfl rfl (by kernel_rfl) (by kernel_rfl) (by kernel_rfl) (fun _ _ _ h => h) (by rfl) ?_ (by assumption) ?_
  rotate_left
  · (intro w hSw; (try dsimp only at hSw); go_simp; (try with_reducible rfl))
  simp only [List.setIfInBounds_toArray, List.set_cons_zero, List.set_cons_succ]
  refine reg_tk (v := ?_) 14 75 rfl rfl (by kernel_rfl) (by kernel_rfl) (by kernel_rfl) (fun _ _ _ h => h) (by rfl) ?_ (by assumption) ?_
  rotate_left
  · (intro w hSw; (try dsimp only at hSw); go_simp; (try with_reducible rfl))
  simp only [List.setIfInBounds_toArray, List.set_cons_zero, List.set_cons_succ]
  refine reg_tk (v := ?_) 15 76 rfl rfl (by kernel_rfl) (by kernel_rfl) (by kernel_rfl) (fun _ _ _ h => h) (by rfl) ?_ (by assumption) ?_
  rotate_left
  · (intro w hSw; (try dsimp only at hSw); go_simp; (try with_reducible rfl))
  simp only [List.setIfInBounds_toArray, List.set_cons_zero, List.set_cons_succ]
  refine reg_tk (v := ?_) 16 77 rfl rfl (by kernel_rfl) (by kernel_rfl) (by kernel_rfl) (fun _ _ _ h => h) (by rfl) ?_ (by assumption) ?_
  rotate_left
  · (intro w hSw; (try dsimp only at hSw); go_simp; (try with_reducible rfl))
  simp only [List.setIfInBounds_toArray, List.set_cons_zero, List.set_cons_succ]
  refine reg_tk (v := ?_) 17 78 rfl rfl (by kernel_rfl) (by kernel_rfl) (by kernel_rfl) (fun _ _ _ h => h) (by rfl) ?_ (by assumption) ?_
  rotate_left
  · (intro w hSw; (try dsimp only at hSw); go_simp; (try with_reducible rfl))
  simp only [List.setIfInBounds_toArray, List.set_cons_zero, List.set_cons_succ]
  refine wpAnyH_ready (rs := [18]) (by kernel_rfl) (by simp) ?_
  refine AllReadyH.cons rfl (fun K hK => ?_) AllReadyH.nil
  go_simp
  refine (first_any _).mono ?_
  rintro e wj ⟨b7, rfl, h7, hb⟩
  have hB4 := Below.next hHeld hb
  have HF := Lib.hid h7
  clear hb h7
  refine hK.out _ _ hB4 (fun hHeld2 => ?_)
  clear hK K hHeld
  have hHeld := hHeld2
  clear hHeld2
  try simp only [Act.put, List.setIfInBounds_toArray, List.set_cons_zero, List.set_cons_succ]
  refine wpAnyH_ready (rs := [19]) (by kernel_rfl) (by simp) ?_
  refine AllReadyH.cons rfl (fun K hK => ?_) AllReadyH.nil
  go_simp
  refine (same_eq _ _ exF _ (RdL.keep hHeld G7.out) HF.out).mono ?_
  rintro e wk ⟨rfl, hb⟩
  have hB5 := Below.next hHeld hb
  clear hb
  refine hK.out _ _ hB5 (fun hHeld2 => ?_)
  clear hK K hHeld
  have hHeld := hHeld2
  clear hHeld2
  try simp only [Act.put, List.setIfInBounds_toArray, List.set_cons_zero, List.set_cons_succ]
  refine reg_tk (v := ?_) 20 81 rfl rfl (by kernel_rfl) (by kernel_rfl) (by kernel_rfl) (fun _ _ _ h => h) (by rfl) ?_ (by assumption) ?_
  rotate_left
  · (intro w hSw; (try dsimp only at hSw); go_simp; (try with_reducible rfl))
  simp only [List.setIfInBounds_toArray, List.set_cons_zero, List.set_cons_succ]
  refine reg_tk (v := ?_) 21 82 rfl rfl (by kernel_rfl) (by kernel_rfl) (by kernel_rfl) (fun _ _ _ h => h) (by rfl) ?_ (by assumption) ?_
  rotate_left
  · (intro w hSw; (try dsimp only at hSw); go_simp; (try with_reducible rfl))
  simp only [List.setIfInBounds_toArray, List.set_cons_zero, List.set_cons_succ]
  refine reg_tk (v := ?_) 22 83 rfl rfl (by kernel_rfl) (by kernel_rfl) (by kernel_rfl) (fun _ _ _ h => h) (by rfl) ?_ (by assumption) ?_
  rotate_left
  · (intro w hSw; (try dsimp only at hSw); go_simp; (try with_reducible rfl))
  simp only [List.setIfInBounds_toArray, List.set_cons_zero, List.set_cons_succ]
  refine reg_tk (v := ?_) 23 84 rfl rfl (by kernel_rfl) (by kernel_rfl) (by kernel_rfl) (fun _ _ _ h => h) (by rfl) ?_ (by assumption) ?_
  rotate_left
  · (intro w hSw; (try dsimp only at hSw); go_simp; (try with_reducible rfl))
  simp only [List.setIfInBounds_toArray, List.set_cons_zero, List.set_cons_succ]
  refine reg_tk (v := ?_) 24 85 rfl rfl (by kernel_rfl) (by kernel_rfl) (by kernel_rfl) (fun _ _ _ h => h) (by rfl) ?_ (by assumption) ?_
  rotate_left
  · (intro w hSw; (try dsimp only at hSw); go_simp; (try with_reducible rfl))
  simp only [List.setIfInBounds_toArray, List.set_cons_zero, List.set_cons_succ]
  refine reg_tk (v := ?_) 25 86 rfl rfl (by kernel_rfl) (by kernel_rfl) (by kernel_rfl) (fun _ _ _ h => h) (by rfl) ?_ (by assumption) ?_
  rotate_left
  · (intro w hSw; (try dsimp only at hSw); go_simp; (try with_reducible rfl))
  simp only [List.setIfInBounds_toArray, List.set_cons_zero, List.set_cons_succ]
  refine wpAnyH_done (by kernel_rfl) ?_ _
  refine NoPanic.normal ?_
  have hB := Below.next hB hHeld
  clear hHeld hB3 hB4 hB5 x0 x1 x2 x3 x4 HF H7 G7
  go_wp2_with fail
  refine (at_any 5 1 _).mono ?_
  rintro e wl ⟨rfl, hb⟩
  have hB := Below.next hB hb
  skip
  clear hb
  go_wp2_with fail
  refine (at_any 3 1 _).mono ?_
  rintro e wm ⟨rfl, hb⟩
  have hB := Below.next hB hb
  skip
  clear hb
  have HL := Lib.hid (rd_lit wm [atm 5 1, atm 3 1] (by decide))
  have hb := Below.al (Below.refl _ wm) (.cells (rcs tmR [atm 5 1, atm 3 1]).toArray 41)
  have hB := Below.next hB hb
  skip
  clear hb
  go_wp2_with fail
  refine (make_any _ [atm 5 1, atm 3 1] (by decide) _ HL.out).mono ?_
  rw [K5.out]
  rintro e wn ⟨v1, rfl, h1, hb⟩
  have hB := Below.next hB hb
  obtain ⟨a1, c1, rfl⟩ := h1.form
  have HQ := Lib.hid h1
  clear h1
  clear hb HL HQ
  go_wp2_with fail
  refine (at_any 5 0 _).mono ?_
  rintro e wo ⟨rfl, hb⟩
  have hB := Below.next hB hb
  skip
  clear hb
  have HL := Lib.hid (rd_lit wo [atm 5 0] (by decide))
  have hb := Below.al (Below.refl _ wo) (.cells (rcs tmR [atm 5 0]).toArray 41)
  have hB := Below.next hB hb
  skip
  clear hb
  go_wp2_with fail
  refine (make_any _ [atm 5 0] (by decide) _ HL.out).mono ?_
  rw [K6.out]
  rintro e wp ⟨v1, rfl, h1, hb⟩
  have hB := Below.next hB hb
  obtain ⟨a1, c1, rfl⟩ := h1.form
  have HQ := Lib.hid h1
  clear h1
  clear hb HL HQ
  go_wp2_with fail
  refine (next_any _ [] _ (RdM.nil _)).mono ?_
  rw [K7.out]
  rintro e wq ⟨rfl, hb⟩
  have hB := Below.next hB hb
  clear hb
  obtain ⟨Y, hY⟩ : ∃ Y : World, Y = wq.alloc (.cells #[.int .i64 0, .int .i64 0, .int .i64 0, .int .u64 0, .int .i64 0] 41) := ⟨_, rfl⟩
  have bA : BoxN Y wq.heap.size 41 #[.int .i64 0, .int .i64 0, .int .i64 0, .int .u64 0, .int .i64 0] := by rw [hY]; exact BoxN.new _ _ _
  have hB : Below w.heap.size w Y := by rw [hY]; exact Below.al hB _
  go_wp2_with fail
  rw [show wq.alloc (.cells #[.int .i64 z0.tk, .int .i64 z0.kd, .int .i64 z0.nd, .int .u64 z0.sq, .int .i64 z0.of] 41) = Y from hY.symm]
  clear hY
  refine (at_any 5 1 _).mono ?_
  rintro e wr ⟨rfl, hb⟩
  have hB := Below.next hB hb
  have bA := bA.below hb
  clear hb
  go_wp2_with fail
  refine (at_any 3 2 _).mono ?_
  rintro e ws ⟨rfl, hb⟩
  have hB := Below.next hB hb
  have bA := bA.below hb
  clear hb
  have HL := Lib.hid (rd_lit ws [atm 5 1, atm 3 2] (by decide))
  have hb := Below.al (Below.refl _ ws) (.cells (rcs tmR [atm 5 1, atm 3 2]).toArray 41)
  have hB := Below.next hB hb
  have bA := bA.below hb
  clear hb
  go_wp2_with fail
  refine (check_is _ [atm 5 1, atm 3 2] 19 1 K8.out _ HL.out).mono ?_
  rintro e wt ⟨rfl, hb⟩
  have hB := Below.next hB hb
  have bA := bA.below hb
  have x0 : wt.cell? ⟨wq.heap.size, 0, none⟩ = some (.int .i64 0) := (bA.cell 0).trans rfl
  have x1 : wt.cell? ⟨wq.heap.size, 1, none⟩ = some (.int .i64 0) := (bA.cell 1).trans rfl
  have x2 : wt.cell? ⟨wq.heap.size, 2, none⟩ = some (.int .i64 0) := (bA.cell 2).trans rfl
  have x3 : wt.cell? ⟨wq.heap.size, 3, none⟩ = some (.int .u64 0) := (bA.cell 3).trans rfl
  have x4 : wt.cell? ⟨wq.heap.size, 4, none⟩ = some (.int .i64 0) := (bA.cell 4).trans rfl
  clear hb bA HL
  go_wp2_with fail
  refine (awake_any _).mono ?_
  rintro e wu ⟨rfl, hb⟩
  have hB := Below.next hB hb
  clear hb
  go_wp2_with fail
  go_ret
  exact ⟨rfl, hB⟩
end Go.Proofs.Ytigmhglkohjlhaa
