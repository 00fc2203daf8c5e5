


/- Timers: the order of timers in both texts, which timers are valid in both texts. -/
import Derived.Test.YtigmhglkohjlhaaA
namespace Go.Proofs.Ytigmhglkohjlhaa
open Go.RowKit
set_option linter.unusedSimpArgs false
set_option linter.unusedVariables false
set_option maxRecDepth 100000

set_option maxHeartbeats 2000000 in
theorem compare_any (a b : Tm) (w : World) : Calls Try.prog 37 #[a.v, b.v] w fun e w' => e = .returned (.int .i64 (cmpT a b)) ∧ Below w.heap.size w w' := by
  obtain ⟨W, hW⟩ : ∃ W : World, W = (w.alloc (.cells #[.int .i64 a.tk, .int .i64 a.kd, .int .i64 a.nd, .int .u64 a.sq, .int .i64 a.of] 41)).alloc (.cells #[.int .i64 b.tk, .int .i64 b.kd, .int .i64 b.nd, .int .u64 b.sq, .int .i64 b.of] 41) := ⟨_, rfl⟩
  have hB : Below w.heap.size w W := by rw [hW]; exact (by repeat (first | assumption | exact Below.refl _ _ | apply Below.al | apply below_drewN | apply Below.drew | refine Below.next ?_ (by assumption)))
  have bA : BoxN W w.heap.size 41 #[.int .i64 a.tk, .int .i64 a.kd, .int .i64 a.nd, .int .u64 a.sq, .int .i64 a.of] := by rw [hW]; exact (BoxN.new w _ _).below (Below.al (Below.refl _ _) _)
  have bB : BoxN W (w.heap.size + 1) 41 #[.int .i64 b.tk, .int .i64 b.kd, .int .i64 b.nd, .int .u64 b.sq, .int .i64 b.of] := by
    rw [hW]
    have := BoxN.new (w.alloc (.cells #[.int .i64 a.tk, .int .i64 a.kd, .int .i64 a.nd, .int .u64 a.sq, .int .i64 a.of] 41)) 41 #[.int .i64 b.tk, .int .i64 b.kd, .int .i64 b.nd, .int .u64 b.sq, .int .i64 b.of]
    simpa using this
  have a0 : W.cell? ⟨w.heap.size, 0, none⟩ = some (.int .i64 a.tk) := bA.cell 0
  have a1 : W.cell? ⟨w.heap.size, 1, none⟩ = some (.int .i64 a.kd) := bA.cell 1
  have a2 : W.cell? ⟨w.heap.size, 2, none⟩ = some (.int .i64 a.nd) := bA.cell 2
  have a3 : W.cell? ⟨w.heap.size, 3, none⟩ = some (.int .u64 a.sq) := bA.cell 3
  have a4 : W.cell? ⟨w.heap.size, 4, none⟩ = some (.int .i64 a.of) := bA.cell 4
  have b0 : W.cell? ⟨w.heap.size + 1, 0, none⟩ = some (.int .i64 b.tk) := bB.cell 0
  have b1 : W.cell? ⟨w.heap.size + 1, 1, none⟩ = some (.int .i64 b.kd) := bB.cell 1
  have b2 : W.cell? ⟨w.heap.size + 1, 2, none⟩ = some (.int .i64 b.nd) := bB.cell 2
  have b3 : W.cell? ⟨w.heap.size + 1, 3, none⟩ = some (.int .u64 b.sq) := bB.cell 3
  have b4 : W.cell? ⟨w.heap.size + 1, 4, none⟩ = some (.int .i64 b.of) := bB.cell 4
  clear bA bB
  go_enter Try.func37, Try.ntmps37
  go_upto_region 1 with fail
  rw [← hW]
  clear hW
  refine wp_region_noPanic ?_
  refine wp_region_held_drew (S := (fun w' => Below W.heap.size W w')) (by kernel_rfl) ((Below.refl _ W).drew) (fun hHeld => ?_)
  refine reg_tk (v := ?_) 0 5 rfl rfl (by kernel_rfl) (by kernel_rfl) (by kernel_rfl) (fun _ _ _ h => h) (by rfl) ?_ (by assumption) ?_
  rotate_left
  · (intro w hSw; (try dsimp only at hSw); go_simp; (try with_reducible rfl))
  simp only [List.setIfInBounds_toArray, List.set_cons_zero, List.set_cons_succ]
  refine reg_tk (v := .int .i64 a.tk) 1 6 rfl rfl (by kernel_rfl) (by kernel_rfl) (by kernel_rfl) (fun _ _ _ h => h) (by rfl) (fun w3 hS => by have g := cell_later hS a0; go_simp) (by assumption) ?_
  simp only [List.setIfInBounds_toArray, List.set_cons_zero, List.set_cons_succ]
  refine reg_tk (v := ?_) 2 7 rfl rfl (by kernel_rfl) (by kernel_rfl) (by kernel_rfl) (fun _ _ _ h => h) (by rfl) ?_ (by assumption) ?_
  rotate_left
  · (intro w hSw; (try dsimp only at hSw); go_simp; (try with_reducible rfl))
  simp only [List.setIfInBounds_toArray, List.set_cons_zero, List.set_cons_succ]
  refine reg_tk (v := .int .i64 b.tk) 3 8 rfl rfl (by kernel_rfl) (by kernel_rfl) (by kernel_rfl) (fun _ _ _ h => h) (by rfl) (fun w3 hS => by have g := cell_later hS b0; go_simp) (by assumption) ?_
  simp only [List.setIfInBounds_toArray, List.set_cons_zero, List.set_cons_succ]
  refine reg_call 4 9 52 (v := .int .i64 (cmpI a.tk b.tk)) (args := #[.int .i64 a.tk, .int .i64 b.tk]) rfl rfl (by kernel_rfl) (by kernel_rfl) (by kernel_rfl) (fun _ _ _ h => h) (by rfl) (fun w3 hS => by go_simp) (fun w3 hS => (cmp_any _ _ _).mono (by rintro e w4 ⟨rfl, rfl⟩; exact ⟨rfl, rfl⟩)) (by assumption) ?_
  simp only [List.setIfInBounds_toArray, List.set_cons_zero, List.set_cons_succ]
  refine reg_tk (v := ?_) 5 10 rfl rfl (by kernel_rfl) (by kernel_rfl) (by kernel_rfl) (fun _ _ _ h => h) (by rfl) ?_ (by assumption) ?_
  rotate_left
  · (intro w hSw; (try dsimp only at hSw); go_simp; (try with_reducible rfl))
  simp only [List.setIfInBounds_toArray, List.set_cons_zero, List.set_cons_succ]
  refine reg_tk (v := .int .i64 a.kd) 6 11 rfl rfl (by kernel_rfl) (by kernel_rfl) (by kernel_rfl) (fun _ _ _ h => h) (by rfl) (fun w3 hS => by have g := cell_later hS a1; go_simp) (by assumption) ?_
  simp only [List.setIfInBounds_toArray, List.set_cons_zero, List.set_cons_succ]
  refine reg_tk (v := ?_) 7 12 rfl rfl (by kernel_rfl) (by kernel_rfl) (by kernel_rfl) (fun _ _ _ h => h) (by rfl) ?_ (by assumption) ?_
  rotate_left
  · (intro w hSw; (try dsimp only at hSw); go_simp; (try with_reducible rfl))
  simp only [List.setIfInBounds_toArray, List.set_cons_zero, List.set_cons_succ]
  refine reg_tk (v := .int .i64 b.kd) 8 13 rfl rfl (by kernel_rfl) (by kernel_rfl) (by kernel_rfl) (fun _ _ _ h => h) (by rfl) (fun w3 hS => by have g := cell_later hS b1; go_simp) (by assumption) ?_
  simp only [List.setIfInBounds_toArray, List.set_cons_zero, List.set_cons_succ]
  refine reg_call 9 14 52 (v := .int .i64 (cmpI a.kd b.kd)) (args := #[.int .i64 a.kd, .int .i64 b.kd]) rfl rfl (by kernel_rfl) (by kernel_rfl) (by kernel_rfl) (fun _ _ _ h => h) (by rfl) (fun w3 hS => by go_simp) (fun w3 hS => (cmp_any _ _ _).mono (by rintro e w4 ⟨rfl, rfl⟩; exact ⟨rfl, rfl⟩)) (by assumption) ?_
  simp only [List.setIfInBounds_toArray, List.set_cons_zero, List.set_cons_succ]
  refine reg_tk (v := ?_) 10 15 rfl rfl (by kernel_rfl) (by kernel_rfl) (by kernel_rfl) (fun _ _ _ h => h) (by rfl) ?_ (by assumption) ?_
  rotate_left
  · (intro w hSw; (try dsimp only at hSw); go_simp; (try with_reducible rfl))
  simp only [List.setIfInBounds_toArray, List.set_cons_zero, List.set_cons_succ]
  refine reg_tk (v := a.iv) 11 16 rfl rfl (by kernel_rfl) (by kernel_rfl) (by kernel_rfl) (fun _ _ _ h => h) (by rfl) (fun w3 hS => by (have g2 := cell_later hS a2; have g3 := cell_later hS a3; have g4 := cell_later hS a4); go_simp) (by assumption) ?_
  simp only [List.setIfInBounds_toArray, List.set_cons_zero, List.set_cons_succ]
  refine reg_tk (v := ?_) 12 17 rfl rfl (by kernel_rfl) (by kernel_rfl) (by kernel_rfl) (fun _ _ _ h => h) (by rfl) ?_ (by assumption) ?_
  rotate_left
  · (intro w hSw; (try dsimp only at hSw); go_simp; (try with_reducible rfl))
  simp only [List.setIfInBounds_toArray, List.set_cons_zero, List.set_cons_succ]
  refine reg_tk (v := b.iv) 13 18 rfl rfl (by kernel_rfl) (by kernel_rfl) (by kernel_rfl) (fun _ _ _ h => h) (by rfl) (fun w3 hS => by (have g2 := cell_later hS b2; have g3 := cell_later hS b3; have g4 := cell_later hS b4); go_simp) (by assumption) ?_
  simp only [List.setIfInBounds_toArray, List.set_cons_zero, List.set_cons_succ]
  refine wpAnyH_ready (rs := [14]) (by kernel_rfl) (by simp) ?_
  refine AllReadyH.cons rfl (fun K hK => ?_) AllReadyH.nil
  go_simp
  refine (bcompare_any a b _).mono ?_
  rintro e w3 ⟨rfl, hb3⟩
  have hB3 := Below.next hHeld hb3
  clear hb3
  refine hK.out _ _ hB3 (fun hHeld2 => ?_)
  clear hK K hHeld
  have hHeld := hHeld2
  clear hHeld2
  try simp only [Act.put, List.setIfInBounds_toArray, List.set_cons_zero, List.set_cons_succ]
  refine wpAnyH_ready (rs := [15]) (by kernel_rfl) (by simp) ?_
  refine AllReadyH.cons rfl (fun K hK => ?_) AllReadyH.nil
  go_simp
  obtain ⟨k0, k1, k2⟩ := or3_cells w3 3 (cmpI a.tk b.tk) (cmpI a.kd b.kd) (cmpD a b)
  refine hK.out _ _ (Below.al hHeld _) (fun hHeld2 => ?_)
  clear hK K hHeld
  have hHeld := hHeld2
  clear hHeld2
  try simp only [Act.put, List.setIfInBounds_toArray, List.set_cons_zero, List.set_cons_succ]
  refine wpAnyH_ready (rs := [16]) (by kernel_rfl) (by simp) ?_
  refine AllReadyH.cons rfl (fun K hK => ?_) AllReadyH.nil
  go_simp
  refine (or_any (cmpI a.tk b.tk) (cmpI a.kd b.kd) (cmpD a b) _ _ k0 k1 k2).mono ?_
  rintro e w4 ⟨rfl, rfl⟩
  refine hK.out _ _ hHeld (fun hHeld2 => ?_)
  clear hK K hHeld
  have hHeld := hHeld2
  clear hHeld2
  try simp only [Act.put, List.setIfInBounds_toArray, List.set_cons_zero, List.set_cons_succ]
  refine reg_tk (v := ?_) 17 4 rfl rfl (by kernel_rfl) (by kernel_rfl) (by kernel_rfl) (fun _ _ _ h => h) (by rfl) ?_ (by assumption) ?_
  rotate_left
  · (intro w hSw; (try dsimp only at hSw); go_simp; (try with_reducible rfl))
  simp only [List.setIfInBounds_toArray, List.set_cons_zero, List.set_cons_succ]
  refine wpAnyH_done (by kernel_rfl) ?_ _
  refine NoPanic.normal ?_
  go_wp2_with fail
  go_ret
  exact ⟨rfl, Below.next hB hHeld⟩
theorem order_any (x y : Int) (w : World) : Calls Try.prog 68 #[.int .i64 x, .int .i64 y] w fun e w' => e = .returned (.int .i64 (cmpI x y)) ∧ w = w' := by
  have hc : (x < y ∧ cmpI x y = -1) ∨ (¬ x < y ∧ y < x ∧ cmpI x y = 1) ∨ (¬ x < y ∧ ¬ y < x ∧ cmpI x y = 0) := by
    unfold cmpI
    by_cases h1 : x < y <;> by_cases h2 : y < x <;> simp [h1, h2]
  rcases hc with ⟨h1, h⟩ | ⟨h1, h2, h⟩ | ⟨h1, h2, h⟩
  · rw [h]
    have d1 := yb h1
    clear h1
    go_enter Try.func68, Try.ntmps68
    go_wp2
    go_ret
    exact ⟨rfl, rfl⟩
  · rw [h]
    have d1 := nb h1; have d2 := yb h2
    clear h1 h2
    go_enter Try.func68, Try.ntmps68
    go_wp2
    go_ret
    exact ⟨rfl, rfl⟩
  · rw [h]
    have d1 := nb h1; have d2 := nb h2
    clear h1 h2
    go_enter Try.func68, Try.ntmps68
    go_wp2
    go_ret
    exact ⟨rfl, rfl⟩
theorem rcompare_any (a b : Tm) (w : World) : Calls Try.prog 60 #[a.iv, b.iv] w fun e w' => e = .returned (.int .i64 (cmpD a b)) ∧ Below w.heap.size w w' := by
  by_cases h1 : a.nd = b.nd
  · have d1 : (a.nd != b.nd) = false := by simp [h1]
    have e1 : cmpI a.nd b.nd = 0 := by unfold cmpI; rw [if_neg (by omega), if_neg (by omega)]
    by_cases h2 : a.sq < b.sq
    · have hd : cmpD a b = -1 := by unfold cmpD or3 cmpI; simp [h1, h2]
      rw [hd]
      have d2 := yb h2
      clear h1 h2 hd e1
      go_enter Try.func60, Try.ntmps60
      go_wp2_with fail
      skip
      go_ret
      exact ⟨rfl, (by repeat (first | assumption | exact Below.refl _ _ | apply Below.al | apply below_drewN | apply Below.drew | refine Below.next ?_ (by assumption)))⟩
    · have d2 := nb h2
      by_cases h3 : b.sq < a.sq
      · have hd : cmpD a b = 1 := by unfold cmpD or3 cmpI; simp [h1, h2, h3]
        rw [hd]
        have d3 := yb h3
        clear h1 h2 h3 hd e1
        go_enter Try.func60, Try.ntmps60
        go_wp2_with fail
        skip
        go_ret
        exact ⟨rfl, (by repeat (first | assumption | exact Below.refl _ _ | apply Below.al | apply below_drewN | apply Below.drew | refine Below.next ?_ (by assumption)))⟩
      · have hd : cmpD a b = cmpI a.of b.of := by
          have e2 : cmpI a.sq b.sq = 0 := by unfold cmpI; rw [if_neg h2, if_neg h3]
          unfold cmpD or3
          rw [e1, e2]
          simp
        rw [hd]
        have d3 := nb h3
        clear h1 h2 h3 hd e1
        go_enter Try.func60, Try.ntmps60
        go_wp2_with fail
        refine (order_any a.of b.of _).mono ?_
        rintro e w1 ⟨rfl, rfl⟩
        go_wp2_with fail
        go_ret
        exact ⟨rfl, (by repeat (first | assumption | exact Below.refl _ _ | apply Below.al | apply below_drewN | apply Below.drew | refine Below.next ?_ (by assumption)))⟩
  · have d1 : (a.nd != b.nd) = true := by simp [h1]
    have hd : cmpD a b = cmpI a.nd b.nd := by
      have : cmpI a.nd b.nd ≠ 0 := by
        rcases cmpI_cases a.nd b.nd with ⟨_, e⟩ | ⟨_, e⟩ | ⟨e, _⟩
        · rw [e]; decide
        · rw [e]; decide
        · exact absurd e h1
      unfold cmpD or3
      rw [if_pos this]
    rw [hd]
    clear h1 hd
    go_enter Try.func60, Try.ntmps60
    go_wp2_with fail
    refine (order_any a.nd b.nd _).mono ?_
    rintro e w1 ⟨rfl, rfl⟩
    go_wp2_with fail
    go_ret
    exact ⟨rfl, (by repeat (first | assumption | exact Below.refl _ _ | apply Below.al | apply below_drewN | apply Below.drew | refine Below.next ?_ (by assumption)))⟩
theorem before_any (a b : Tm) (w : World) : Calls Try.prog 43 #[a.v, b.v] w fun e w' => e = .returned (.bool (decide (ltT a b))) ∧ Below w.heap.size w w' := by
  by_cases h1 : a.tk = b.tk
  · have d1 : (a.tk != b.tk) = false := by simp [h1]
    by_cases h2 : a.kd = b.kd
    · have d2 : (a.kd != b.kd) = false := by simp [h2]
      have hd : decide (ltT a b) = decide (cmpD a b < 0) := by
        apply decide_eq_decide.2
        rw [← cmpT_lt]
        have e1 : cmpI a.tk b.tk = 0 := by unfold cmpI; rw [if_neg (by omega), if_neg (by omega)]
        have e2 : cmpI a.kd b.kd = 0 := by unfold cmpI; rw [if_neg (by omega), if_neg (by omega)]
        unfold cmpT or3
        rw [e1, e2]
        simp
      rw [hd]
      clear h1 h2 hd
      go_enter Try.func43, Try.ntmps43
      go_wp2_with fail
      refine (rcompare_any a b _).mono ?_
      rintro e w1 ⟨rfl, hb1⟩
      have hB : Below w.heap.size w w1 := Below.next (by repeat (first | assumption | exact Below.refl _ _ | apply Below.al | apply below_drewN | apply Below.drew | refine Below.next ?_ (by assumption))) hb1
      go_wp2_with fail
      go_ret
      exact ⟨rfl, hB⟩
    · have d2 : (a.kd != b.kd) = true := by simp [h2]
      have hd : decide (ltT a b) = decide (a.kd < b.kd) := by
        apply decide_eq_decide.2
        unfold ltT
        omega
      rw [hd]
      clear h1 h2 hd
      go_enter Try.func43, Try.ntmps43
      go_wp2
      go_ret
      exact ⟨rfl, (by repeat (first | assumption | exact Below.refl _ _ | apply Below.al | apply below_drewN | apply Below.drew | refine Below.next ?_ (by assumption)))⟩
  · have d1 : (a.tk != b.tk) = true := by simp [h1]
    have hd : decide (ltT a b) = decide (a.tk < b.tk) := by
      apply decide_eq_decide.2
      unfold ltT
      omega
    rw [hd]
    clear h1 hd
    go_enter Try.func43, Try.ntmps43
    go_wp2
    go_ret
    exact ⟨rfl, (by repeat (first | assumption | exact Below.refl _ _ | apply Below.al | apply below_drewN | apply Below.drew | refine Below.next ?_ (by assumption)))⟩
end Go.Proofs.Ytigmhglkohjlhaa
