

/- Links: whether the fields of a fault are possible (the first functions of the table). -/
import Derived.Test.YtimkeafpefkheaaDoorE
namespace Go.Proofs.YtimkeafpefkheaaDoor
open Go.RowKit
set_option linter.unusedSimpArgs false
set_option linter.unusedVariables false
set_option maxRecDepth 100000

theorem fits1_any (v : Value) (t : Tr) (w : World) : Calls Tryd.prog 59 #[v, t.v] w fun x w' => x = .returned (.bool (decide (t.j = 0) && decide (t.b = 0))) ∧ Below w.heap.size w w' := by
  by_cases h1 : t.j = 0
  · have d1 : (t.j == 0) = true := by simp [h1]
    by_cases h2 : t.b = 0
    · have d2 : (t.b == 0) = true := by simp [h2]
      rw [decide_eq_true h1, decide_eq_true h2]
      clear h1 h2
      go_enter Tryd.func59, Tryd.ntmps59
      go_wp2_with fail
      go_ret
      exact ⟨rfl, (by repeat (first | assumption | exact Below.refl _ _ | apply Below.al | apply below_drewN | apply Below.drew | refine Below.next ?_ (by assumption)))⟩
    · have d2 : (t.b == 0) = false := by simpa using h2
      rw [decide_eq_true h1, decide_eq_false h2]
      clear h1 h2
      go_enter Tryd.func59, Tryd.ntmps59
      go_wp2_with fail
      go_ret
      exact ⟨rfl, (by repeat (first | assumption | exact Below.refl _ _ | apply Below.al | apply below_drewN | apply Below.drew | refine Below.next ?_ (by assumption)))⟩
  · have d1 : (t.j == 0) = false := by simpa using h1
    rw [decide_eq_false h1, Bool.false_and]
    clear h1
    go_enter Tryd.func59, Tryd.ntmps59
    go_wp2_with fail
    go_ret
    exact ⟨rfl, (by repeat (first | assumption | exact Below.refl _ _ | apply Below.al | apply below_drewN | apply Below.drew | refine Below.next ?_ (by assumption)))⟩
theorem fits2_any (v : Value) (t : Tr) (w : World) : Calls Tryd.prog 61 #[v, t.v] w fun x w' => x = .returned (.bool (decide (t.j = 0) && decide (t.b = 0))) ∧ Below w.heap.size w w' := by
  by_cases h1 : t.j = 0
  · have d1 : (t.j == 0) = true := by simp [h1]
    by_cases h2 : t.b = 0
    · have d2 : (t.b == 0) = true := by simp [h2]
      rw [decide_eq_true h1, decide_eq_true h2]
      clear h1 h2
      go_enter Tryd.func61, Tryd.ntmps61
      go_wp2_with fail
      go_ret
      exact ⟨rfl, (by repeat (first | assumption | exact Below.refl _ _ | apply Below.al | apply below_drewN | apply Below.drew | refine Below.next ?_ (by assumption)))⟩
    · have d2 : (t.b == 0) = false := by simpa using h2
      rw [decide_eq_true h1, decide_eq_false h2]
      clear h1 h2
      go_enter Tryd.func61, Tryd.ntmps61
      go_wp2_with fail
      go_ret
      exact ⟨rfl, (by repeat (first | assumption | exact Below.refl _ _ | apply Below.al | apply below_drewN | apply Below.drew | refine Below.next ?_ (by assumption)))⟩
  · have d1 : (t.j == 0) = false := by simpa using h1
    rw [decide_eq_false h1, Bool.false_and]
    clear h1
    go_enter Tryd.func61, Tryd.ntmps61
    go_wp2_with fail
    go_ret
    exact ⟨rfl, (by repeat (first | assumption | exact Below.refl _ _ | apply Below.al | apply below_drewN | apply Below.drew | refine Below.next ?_ (by assumption)))⟩
theorem byJ_any (t : Tr) (w : World) : Calls Tryd.prog 65 #[t.v] w fun x w' => x = .returned (.bool (decide (t.b = 0))) ∧ Below w.heap.size w w' := by
  by_cases h2 : t.b = 0
  · have d2 : (t.b == 0) = true := by simp [h2]
    rw [decide_eq_true h2]
    clear h2
    go_enter Tryd.func65, Tryd.ntmps65
    go_wp2_with fail
    go_ret
    exact ⟨rfl, (by repeat (first | assumption | exact Below.refl _ _ | apply Below.al | apply below_drewN | apply Below.drew | refine Below.next ?_ (by assumption)))⟩
  · have d2 : (t.b == 0) = false := by simpa using h2
    rw [decide_eq_false h2]
    clear h2
    go_enter Tryd.func65, Tryd.ntmps65
    go_wp2_with fail
    go_ret
    exact ⟨rfl, (by repeat (first | assumption | exact Below.refl _ _ | apply Below.al | apply below_drewN | apply Below.drew | refine Below.next ?_ (by assumption)))⟩
theorem fits3_any (a0 : Option Addr) (N n0 : Nat) (t : Tr) (w : World) : Calls Tryd.prog 64 #[.slice a0 N n0, t.v] w fun x w' => x = .returned (.bool (decide (0 ≤ t.j) && decide (t.j < (N : Int)) && decide (t.b = 0))) ∧ Below w.heap.size w w' := by
  by_cases h1 : 0 ≤ t.j
  · have d1 : decide (0 ≤ t.j) = true := yb h1
    by_cases h2 : t.j < (N : Int)
    · have d2 : decide (t.j < (N : Int)) = true := yb h2
      rw [d1, d2, Bool.true_and, Bool.true_and]
      clear h1 h2
      obtain ⟨bb, hb⟩ : ∃ b, Hid (decide (t.b = 0) = b) := ⟨_, rfl⟩
      rw [hb.out]
      go_enter Tryd.func64, Tryd.ntmps64
      go_wp2_with fail
      refine (byJ_any t _).mono ?_
      rw [hb.out]
      rintro x w1 ⟨rfl, hbb⟩
      have hB : Below w.heap.size w w1 := (by repeat (first | assumption | exact Below.refl _ _ | apply Below.al | apply below_drewN | apply Below.drew | refine Below.next ?_ (by assumption)))
      clear hbb
      cases bb
      all_goals
        go_wp2_with fail
        go_ret
        exact ⟨rfl, hB⟩
    · have d2 : decide (t.j < (N : Int)) = false := nb h2
      rw [d1, d2, Bool.true_and, Bool.false_and]
      clear h1 h2
      go_enter Tryd.func64, Tryd.ntmps64
      go_wp2_with fail
      go_ret
      exact ⟨rfl, (by repeat (first | assumption | exact Below.refl _ _ | apply Below.al | apply below_drewN | apply Below.drew | refine Below.next ?_ (by assumption)))⟩
  · have d1 : decide (0 ≤ t.j) = false := nb h1
    rw [d1, Bool.false_and, Bool.false_and]
    clear h1
    go_enter Tryd.func64, Tryd.ntmps64
    go_wp2_with fail
    go_ret
    exact ⟨rfl, (by repeat (first | assumption | exact Below.refl _ _ | apply Below.al | apply below_drewN | apply Below.drew | refine Below.next ?_ (by assumption)))⟩
set_option maxHeartbeats 1000000 in
theorem fits4_any (v : Value) (l : List Fr) (t : Tr) (k : Nat) (hk : k < l.length) (hsz : (l.getD k e0).size ≤ 9223372036854775807) (w : World) (h : RdT w v l) : Calls Tryd.prog 67 #[v, .agg #[.int .i64 t.k, .int .i64 (k : Int), .int .i64 t.j, .int .i64 t.b]] w fun x w' =>
    x = .returned (.bool (decide (0 ≤ t.j) && decide (t.j < ((l.getD k e0).size : Int)) && decide (1 ≤ t.b) && decide (t.b ≤ 255))) ∧ Below w.heap.size w w' := by
  obtain ⟨a0, n0, rfl⟩ := h.form
  obtain ⟨N, hN⟩ : ∃ N, l.length = N := ⟨_, rfl⟩
  rw [hN] at h hk ⊢
  obtain ⟨b, off, rfl, hcap, hc⟩ := RdT.at h hN k hk
  obtain ⟨s, hs⟩ : ∃ s, l.getD k e0 = s := ⟨_, rfl⟩
  rw [hs] at hc hsz ⊢
  have hmx := h.2.1
  unfold maxLen at hmx
  have i1 : (0 : Int) ≤ (k : Int) := by omega
  have i2 : (k : Int) < (N : Int) := by omega
  have hwk : IntKind.i64.wrap (k : Int) = (k : Int) := IntWalk.i64_in _ (by omega)
  clear h hN hs
  obtain ⟨W, hW⟩ : ∃ W : World, W = w.alloc (.cells #[.int .i64 t.k, .int .i64 (k : Int), .int .i64 t.j, .int .i64 t.b] 36) := ⟨_, rfl⟩
  have hB : Below w.heap.size w W := by rw [hW]; exact (by repeat (first | assumption | exact Below.refl _ _ | apply Below.al | apply below_drewN | apply Below.drew | refine Below.next ?_ (by assumption)))
  have b0 : BoxN W w.heap.size 36 #[.int .i64 t.k, .int .i64 (k : Int), .int .i64 t.j, .int .i64 t.b] := by rw [hW]; exact BoxN.new w _ _
  have hc1 := cell_later hB hc
  have t1 : W.cell? ⟨w.heap.size, 1, none⟩ = some (.int .i64 (k : Int)) := b0.cell 1
  have t2 : W.cell? ⟨w.heap.size, 2, none⟩ = some (.int .i64 t.j) := b0.cell 2
  have t3 : W.cell? ⟨w.heap.size, 3, none⟩ = some (.int .i64 t.b) := b0.cell 3
  clear hc b0
  by_cases h1 : 0 ≤ t.j
  · have d1 : decide (0 ≤ t.j) = true := yb h1
    by_cases h2 : t.j < (s.size : Int)
    · have d2 : decide (t.j < (s.size : Int)) = true := yb h2
      by_cases h3 : 1 ≤ t.b
      · have d3 : decide (1 ≤ t.b) = true := yb h3
        by_cases h4 : t.b ≤ 255
        · have d4 : decide (t.b ≤ 255) = true := yb h4
          rw [d1, d2, d3, d4]
          clear h1 h2 h3 h4
          go_enter Tryd.func67, Tryd.ntmps67
          go_upto_region 1 with fail
          rw [← hW]
          clear hW
          go_quiet (fail)
          go_wp2_with fail
          go_ret
          exact ⟨rfl, below_drewN hB _⟩
        · have d4 : decide (t.b ≤ 255) = false := nb h4
          rw [d1, d2, d3, d4]
          clear h1 h2 h3 h4
          go_enter Tryd.func67, Tryd.ntmps67
          go_upto_region 1 with fail
          rw [← hW]
          clear hW
          go_quiet (fail)
          go_wp2_with fail
          go_ret
          exact ⟨rfl, below_drewN hB _⟩
      · have d3 : decide (1 ≤ t.b) = false := nb h3
        rw [d1, d2, d3]
        clear h1 h2 h3
        go_enter Tryd.func67, Tryd.ntmps67
        go_upto_region 1 with fail
        rw [← hW]
        clear hW
        go_quiet (fail)
        go_wp2_with fail
        go_ret
        exact ⟨rfl, below_drewN hB _⟩
    · have d2 : decide (t.j < (s.size : Int)) = false := nb h2
      rw [d1, d2]
      clear h1 h2
      go_enter Tryd.func67, Tryd.ntmps67
      go_upto_region 1 with fail
      rw [← hW]
      clear hW
      go_quiet (fail)
      go_wp2_with fail
      go_ret
      exact ⟨rfl, below_drewN hB _⟩
  · have d1 : decide (0 ≤ t.j) = false := nb h1
    rw [d1]
    clear h1
    go_enter Tryd.func67, Tryd.ntmps67
    go_upto_region 1 with fail
    rw [← hW]
    clear hW
    go_quiet (fail)
    go_wp2_with fail
    go_ret
    exact ⟨rfl, below_drewN hB _⟩
set_option maxHeartbeats 1000000 in
theorem fits5_any (v : Value) (l : List Fr) (t : Tr) (k : Nat) (hk : k < l.length) (hsz : (l.getD k e0).size ≤ 9223372036854775807) (w : World) (h : RdT w v l) : Calls Tryd.prog 69 #[v, .agg #[.int .i64 t.k, .int .i64 (k : Int), .int .i64 t.j, .int .i64 t.b]] w fun x w' =>
    x = .returned (.bool (decide (1 ≤ t.j) && decide (t.j < ((l.getD k e0).size : Int)) && decide (t.b = 0))) ∧ Below w.heap.size w w' := by
  obtain ⟨a0, n0, rfl⟩ := h.form
  obtain ⟨N, hN⟩ : ∃ N, l.length = N := ⟨_, rfl⟩
  rw [hN] at h hk ⊢
  obtain ⟨b, off, rfl, hcap, hc⟩ := RdT.at h hN k hk
  obtain ⟨s, hs⟩ : ∃ s, l.getD k e0 = s := ⟨_, rfl⟩
  rw [hs] at hc hsz ⊢
  have hmx := h.2.1
  unfold maxLen at hmx
  have i1 : (0 : Int) ≤ (k : Int) := by omega
  have i2 : (k : Int) < (N : Int) := by omega
  have hwk : IntKind.i64.wrap (k : Int) = (k : Int) := IntWalk.i64_in _ (by omega)
  clear h hN hs
  obtain ⟨W, hW⟩ : ∃ W : World, W = w.alloc (.cells #[.int .i64 t.k, .int .i64 (k : Int), .int .i64 t.j, .int .i64 t.b] 36) := ⟨_, rfl⟩
  have hB : Below w.heap.size w W := by rw [hW]; exact (by repeat (first | assumption | exact Below.refl _ _ | apply Below.al | apply below_drewN | apply Below.drew | refine Below.next ?_ (by assumption)))
  have b0 : BoxN W w.heap.size 36 #[.int .i64 t.k, .int .i64 (k : Int), .int .i64 t.j, .int .i64 t.b] := by rw [hW]; exact BoxN.new w _ _
  have hc1 := cell_later hB hc
  have t1 : W.cell? ⟨w.heap.size, 1, none⟩ = some (.int .i64 (k : Int)) := b0.cell 1
  have t2 : W.cell? ⟨w.heap.size, 2, none⟩ = some (.int .i64 t.j) := b0.cell 2
  have t3 : W.cell? ⟨w.heap.size, 3, none⟩ = some (.int .i64 t.b) := b0.cell 3
  clear hc b0
  have t0 : W.cell? ⟨w.heap.size, 0, none⟩ = some (.int .i64 t.k) := by rw [hW]; exact (BoxN.new w _ _).cell 0
  by_cases h1 : 1 ≤ t.j
  · have d1 : decide (1 ≤ t.j) = true := yb h1
    by_cases h2 : t.j < (s.size : Int)
    · have d2 : decide (t.j < (s.size : Int)) = true := yb h2
      rw [d1, d2, Bool.true_and, Bool.true_and]
      clear h1 h2
      obtain ⟨bb, hb⟩ : ∃ b, Hid (decide (t.b = 0) = b) := ⟨_, rfl⟩
      rw [hb.out]
      go_enter Tryd.func69, Tryd.ntmps69
      go_upto_region 1 with fail
      rw [← hW]
      clear hW
      refine wp_region_calm (fun w' => Below W.heap.size W w') 99 (by kernel_rfl) ((Below.refl _ W).drew) ?_
      refine cm_run 0 5 (v := ?_) rfl rfl (by kernel_rfl) (by kernel_rfl) (by kernel_rfl) (by kernel_rfl) (by kernel_rfl) (fun _ _ _ h => h) (by rfl) ?_ ?_
      rotate_left
      · (intro wS hS; skip; go_simp; (try with_reducible rfl))
      simp only [List.setIfInBounds_toArray, List.set_cons_zero, List.set_cons_succ]
      refine cm_run 1 6 (v := ?_) rfl rfl (by kernel_rfl) (by kernel_rfl) (by kernel_rfl) (by kernel_rfl) (by kernel_rfl) (fun _ _ _ h => h) (by rfl) ?_ ?_
      rotate_left
      · (intro wS hS; have g := cell_later hS t2; go_simp; (try with_reducible rfl))
      simp only [List.setIfInBounds_toArray, List.set_cons_zero, List.set_cons_succ]
      refine cm_run 2 7 (v := ?_) rfl rfl (by kernel_rfl) (by kernel_rfl) (by kernel_rfl) (by kernel_rfl) (by kernel_rfl) (fun _ _ _ h => h) (by rfl) ?_ ?_
      rotate_left
      · (intro wS hS; skip; go_simp; (try with_reducible rfl))
      simp only [List.setIfInBounds_toArray, List.set_cons_zero, List.set_cons_succ]
      refine cm_run 3 8 (v := ?_) rfl rfl (by kernel_rfl) (by kernel_rfl) (by kernel_rfl) (by kernel_rfl) (by kernel_rfl) (fun _ _ _ h => h) (by rfl) ?_ ?_
      rotate_left
      · (intro wS hS; skip; go_simp; (try with_reducible rfl))
      simp only [List.setIfInBounds_toArray, List.set_cons_zero, List.set_cons_succ]
      refine cm_run 4 9 (v := ?_) rfl rfl (by kernel_rfl) (by kernel_rfl) (by kernel_rfl) (by kernel_rfl) (by kernel_rfl) (fun _ _ _ h => h) (by rfl) ?_ ?_
      rotate_left
      · (intro wS hS; skip; go_simp; (try with_reducible rfl))
      simp only [List.setIfInBounds_toArray, List.set_cons_zero, List.set_cons_succ]
      refine cm_run 5 10 (v := ?_) rfl rfl (by kernel_rfl) (by kernel_rfl) (by kernel_rfl) (by kernel_rfl) (by kernel_rfl) (fun _ _ _ h => h) (by rfl) ?_ ?_
      rotate_left
      · (intro wS hS; have g := cell_later hS t2; go_simp; (try with_reducible rfl))
      simp only [List.setIfInBounds_toArray, List.set_cons_zero, List.set_cons_succ]
      refine cm_run 6 11 (v := ?_) rfl rfl (by kernel_rfl) (by kernel_rfl) (by kernel_rfl) (by kernel_rfl) (by kernel_rfl) (fun _ _ _ h => h) (by rfl) ?_ ?_
      rotate_left
      · (intro wS hS; skip; go_simp; (try with_reducible rfl))
      simp only [List.setIfInBounds_toArray, List.set_cons_zero, List.set_cons_succ]
      refine cm_run 7 12 (v := ?_) rfl rfl (by kernel_rfl) (by kernel_rfl) (by kernel_rfl) (by kernel_rfl) (by kernel_rfl) (fun _ _ _ h => h) (by rfl) ?_ ?_
      rotate_left
      · (intro wS hS; skip; go_simp; (try with_reducible rfl))
      simp only [List.setIfInBounds_toArray, List.set_cons_zero, List.set_cons_succ]
      refine cm_run 8 13 (v := ?_) rfl rfl (by kernel_rfl) (by kernel_rfl) (by kernel_rfl) (by kernel_rfl) (by kernel_rfl) (fun _ _ _ h => h) (by rfl) ?_ ?_
      rotate_left
      · (intro wS hS; have g := cell_later hS t1; go_simp; (try with_reducible rfl))
      simp only [List.setIfInBounds_toArray, List.set_cons_zero, List.set_cons_succ]
      refine cm_run 9 14 (v := ?_) rfl rfl (by kernel_rfl) (by kernel_rfl) (by kernel_rfl) (by kernel_rfl) (by kernel_rfl) (fun _ _ _ h => h) (by rfl) ?_ ?_
      rotate_left
      · (intro wS hS; skip; go_simp; (try with_reducible rfl))
      simp only [List.setIfInBounds_toArray, List.set_cons_zero, List.set_cons_succ]
      refine cm_run 10 15 (v := ?_) rfl rfl (by kernel_rfl) (by kernel_rfl) (by kernel_rfl) (by kernel_rfl) (by kernel_rfl) (fun _ _ _ h => h) (by rfl) ?_ ?_
      rotate_left
      · (intro wS hS; have g := cell_later hS hc1; go_simp; (try with_reducible rfl))
      simp only [List.setIfInBounds_toArray, List.set_cons_zero, List.set_cons_succ]
      refine cm_run 11 16 (v := ?_) rfl rfl (by kernel_rfl) (by kernel_rfl) (by kernel_rfl) (by kernel_rfl) (by kernel_rfl) (fun _ _ _ h => h) (by rfl) ?_ ?_
      rotate_left
      · (intro wS hS; skip; go_simp; (try with_reducible rfl))
      simp only [List.setIfInBounds_toArray, List.set_cons_zero, List.set_cons_succ]
      refine cm_run 12 17 (v := ?_) rfl rfl (by kernel_rfl) (by kernel_rfl) (by kernel_rfl) (by kernel_rfl) (by kernel_rfl) (fun _ _ _ h => h) (by rfl) ?_ ?_
      rotate_left
      · (intro wS hS; skip; go_simp; (try with_reducible rfl))
      simp only [List.setIfInBounds_toArray, List.set_cons_zero, List.set_cons_succ]
      refine cm_run 13 18 (v := ?_) rfl rfl (by kernel_rfl) (by kernel_rfl) (by kernel_rfl) (by kernel_rfl) (by kernel_rfl) (fun _ _ _ h => h) (by rfl) ?_ ?_
      rotate_left
      · (intro wS hS; skip; go_simp; (try with_reducible rfl))
      simp only [List.setIfInBounds_toArray, List.set_cons_zero, List.set_cons_succ]
      refine cm_run 14 19 (v := ?_) rfl rfl (by kernel_rfl) (by kernel_rfl) (by kernel_rfl) (by kernel_rfl) (by kernel_rfl) (fun _ _ _ h => h) (by rfl) ?_ ?_
      rotate_left
      · (intro wS hS; skip; go_simp; (try with_reducible rfl))
      simp only [List.setIfInBounds_toArray, List.set_cons_zero, List.set_cons_succ]
      refine cm_run 15 20 (v := ?_) rfl rfl (by kernel_rfl) (by kernel_rfl) (by kernel_rfl) (by kernel_rfl) (by kernel_rfl) (fun _ _ _ h => h) (by rfl) ?_ ?_
      rotate_left
      · (intro wS hS; (have g0 := cell_later hS t0; have g1 := cell_later hS t1; have g2 := cell_later hS t2; have g3 := cell_later hS t3); go_simp; (try with_reducible rfl))
      simp only [List.setIfInBounds_toArray, List.set_cons_zero, List.set_cons_succ]
      refine cm_call 16 21 65 (v := .bool bb) (args := ?_) rfl rfl (by kernel_rfl) (by kernel_rfl) (by kernel_rfl) (by kernel_rfl) (by kernel_rfl) (fun _ _ _ h => h) (by rfl) ?_ ?_ ?_
      rotate_left 1
      · (intro wS hS; go_simp; (try with_reducible rfl))
      · (intro wS hS; refine (byJ_any ⟨t.k, (k : Int), t.j, t.b⟩ _).mono ?_; (rw [hb.out]; rintro e w2 ⟨rfl, hb⟩; exact ⟨rfl, Below.next hS hb⟩))
      simp only [List.setIfInBounds_toArray, List.set_cons_zero, List.set_cons_succ]
      refine cm_run 17 22 (v := ?_) rfl rfl (by kernel_rfl) (by kernel_rfl) (by kernel_rfl) (by kernel_rfl) (by kernel_rfl) (fun _ _ _ h => h) (by rfl) ?_ ?_
      rotate_left
      · (intro wS hS; skip; go_simp; (try with_reducible rfl))
      simp only [List.setIfInBounds_toArray, List.set_cons_zero, List.set_cons_succ]
      refine cm_run 18 4 (v := ?_) rfl rfl (by kernel_rfl) (by kernel_rfl) (by kernel_rfl) (by kernel_rfl) (by kernel_rfl) (fun _ _ _ h => h) (by rfl) ?_ ?_
      rotate_left
      · (intro wS hS; skip; go_simp; (try with_reducible rfl))
      simp only [List.setIfInBounds_toArray, List.set_cons_zero, List.set_cons_succ]
      refine cm_done (by kernel_rfl) ?_
      intro wS hS
      refine NoPanic.normal ?_
      go_wp2_with fail
      go_ret
      exact ⟨rfl, Below.next hB hS⟩
    · have d2 : decide (t.j < (s.size : Int)) = false := nb h2
      rw [d1, d2, Bool.true_and, Bool.false_and]
      clear h1 h2
      go_enter Tryd.func69, Tryd.ntmps69
      go_upto_region 1 with fail
      rw [← hW]
      clear hW
      refine wp_region_calm (fun w' => Below W.heap.size W w') 99 (by kernel_rfl) ((Below.refl _ W).drew) ?_
      refine cm_run 0 5 (v := ?_) rfl rfl (by kernel_rfl) (by kernel_rfl) (by kernel_rfl) (by kernel_rfl) (by kernel_rfl) (fun _ _ _ h => h) (by rfl) ?_ ?_
      rotate_left
      · (intro wS hS; skip; go_simp; (try with_reducible rfl))
      simp only [List.setIfInBounds_toArray, List.set_cons_zero, List.set_cons_succ]
      refine cm_run 1 6 (v := ?_) rfl rfl (by kernel_rfl) (by kernel_rfl) (by kernel_rfl) (by kernel_rfl) (by kernel_rfl) (fun _ _ _ h => h) (by rfl) ?_ ?_
      rotate_left
      · (intro wS hS; have g := cell_later hS t2; go_simp; (try with_reducible rfl))
      simp only [List.setIfInBounds_toArray, List.set_cons_zero, List.set_cons_succ]
      refine cm_run 2 7 (v := ?_) rfl rfl (by kernel_rfl) (by kernel_rfl) (by kernel_rfl) (by kernel_rfl) (by kernel_rfl) (fun _ _ _ h => h) (by rfl) ?_ ?_
      rotate_left
      · (intro wS hS; skip; go_simp; (try with_reducible rfl))
      simp only [List.setIfInBounds_toArray, List.set_cons_zero, List.set_cons_succ]
      refine cm_run 3 8 (v := ?_) rfl rfl (by kernel_rfl) (by kernel_rfl) (by kernel_rfl) (by kernel_rfl) (by kernel_rfl) (fun _ _ _ h => h) (by rfl) ?_ ?_
      rotate_left
      · (intro wS hS; skip; go_simp; (try with_reducible rfl))
      simp only [List.setIfInBounds_toArray, List.set_cons_zero, List.set_cons_succ]
      refine cm_run 4 9 (v := ?_) rfl rfl (by kernel_rfl) (by kernel_rfl) (by kernel_rfl) (by kernel_rfl) (by kernel_rfl) (fun _ _ _ h => h) (by rfl) ?_ ?_
      rotate_left
      · (intro wS hS; skip; go_simp; (try with_reducible rfl))
      simp only [List.setIfInBounds_toArray, List.set_cons_zero, List.set_cons_succ]
      refine cm_run 5 10 (v := ?_) rfl rfl (by kernel_rfl) (by kernel_rfl) (by kernel_rfl) (by kernel_rfl) (by kernel_rfl) (fun _ _ _ h => h) (by rfl) ?_ ?_
      rotate_left
      · (intro wS hS; have g := cell_later hS t2; go_simp; (try with_reducible rfl))
      simp only [List.setIfInBounds_toArray, List.set_cons_zero, List.set_cons_succ]
      refine cm_run 6 11 (v := ?_) rfl rfl (by kernel_rfl) (by kernel_rfl) (by kernel_rfl) (by kernel_rfl) (by kernel_rfl) (fun _ _ _ h => h) (by rfl) ?_ ?_
      rotate_left
      · (intro wS hS; skip; go_simp; (try with_reducible rfl))
      simp only [List.setIfInBounds_toArray, List.set_cons_zero, List.set_cons_succ]
      refine cm_run 7 12 (v := ?_) rfl rfl (by kernel_rfl) (by kernel_rfl) (by kernel_rfl) (by kernel_rfl) (by kernel_rfl) (fun _ _ _ h => h) (by rfl) ?_ ?_
      rotate_left
      · (intro wS hS; skip; go_simp; (try with_reducible rfl))
      simp only [List.setIfInBounds_toArray, List.set_cons_zero, List.set_cons_succ]
      refine cm_run 8 13 (v := ?_) rfl rfl (by kernel_rfl) (by kernel_rfl) (by kernel_rfl) (by kernel_rfl) (by kernel_rfl) (fun _ _ _ h => h) (by rfl) ?_ ?_
      rotate_left
      · (intro wS hS; have g := cell_later hS t1; go_simp; (try with_reducible rfl))
      simp only [List.setIfInBounds_toArray, List.set_cons_zero, List.set_cons_succ]
      refine cm_run 9 14 (v := ?_) rfl rfl (by kernel_rfl) (by kernel_rfl) (by kernel_rfl) (by kernel_rfl) (by kernel_rfl) (fun _ _ _ h => h) (by rfl) ?_ ?_
      rotate_left
      · (intro wS hS; skip; go_simp; (try with_reducible rfl))
      simp only [List.setIfInBounds_toArray, List.set_cons_zero, List.set_cons_succ]
      refine cm_run 10 15 (v := ?_) rfl rfl (by kernel_rfl) (by kernel_rfl) (by kernel_rfl) (by kernel_rfl) (by kernel_rfl) (fun _ _ _ h => h) (by rfl) ?_ ?_
      rotate_left
      · (intro wS hS; have g := cell_later hS hc1; go_simp; (try with_reducible rfl))
      simp only [List.setIfInBounds_toArray, List.set_cons_zero, List.set_cons_succ]
      refine cm_run 11 16 (v := ?_) rfl rfl (by kernel_rfl) (by kernel_rfl) (by kernel_rfl) (by kernel_rfl) (by kernel_rfl) (fun _ _ _ h => h) (by rfl) ?_ ?_
      rotate_left
      · (intro wS hS; skip; go_simp; (try with_reducible rfl))
      simp only [List.setIfInBounds_toArray, List.set_cons_zero, List.set_cons_succ]
      refine cm_run 12 17 (v := ?_) rfl rfl (by kernel_rfl) (by kernel_rfl) (by kernel_rfl) (by kernel_rfl) (by kernel_rfl) (fun _ _ _ h => h) (by rfl) ?_ ?_
      rotate_left
      · (intro wS hS; skip; go_simp; (try with_reducible rfl))
      simp only [List.setIfInBounds_toArray, List.set_cons_zero, List.set_cons_succ]
      refine cm_run 13 18 (v := ?_) rfl rfl (by kernel_rfl) (by kernel_rfl) (by kernel_rfl) (by kernel_rfl) (by kernel_rfl) (fun _ _ _ h => h) (by rfl) ?_ ?_
      rotate_left
      · (intro wS hS; skip; go_simp; (try with_reducible rfl))
      simp only [List.setIfInBounds_toArray, List.set_cons_zero, List.set_cons_succ]
      refine cm_run 14 19 (v := ?_) rfl rfl (by kernel_rfl) (by kernel_rfl) (by kernel_rfl) (by kernel_rfl) (by kernel_rfl) (fun _ _ _ h => h) (by rfl) ?_ ?_
      rotate_left
      · (intro wS hS; skip; go_simp; (try with_reducible rfl))
      simp only [List.setIfInBounds_toArray, List.set_cons_zero, List.set_cons_succ]
      refine cm_shut 15 20 rfl rfl (by kernel_rfl) (by kernel_rfl) (by kernel_rfl) (by kernel_rfl) (by kernel_rfl) (fun _ _ _ h => h) (by rfl) ?_
      simp only [List.setIfInBounds_toArray, List.set_cons_zero, List.set_cons_succ]
      refine cm_shut 16 21 rfl rfl (by kernel_rfl) (by kernel_rfl) (by kernel_rfl) (by kernel_rfl) (by kernel_rfl) (fun _ _ _ h => h) (by rfl) ?_
      simp only [List.setIfInBounds_toArray, List.set_cons_zero, List.set_cons_succ]
      refine cm_run 17 22 (v := ?_) rfl rfl (by kernel_rfl) (by kernel_rfl) (by kernel_rfl) (by kernel_rfl) (by kernel_rfl) (fun _ _ _ h => h) (by rfl) ?_ ?_
      rotate_left
      · (intro wS hS; skip; go_simp; (try with_reducible rfl))
      simp only [List.setIfInBounds_toArray, List.set_cons_zero, List.set_cons_succ]
      refine cm_run 18 4 (v := ?_) rfl rfl (by kernel_rfl) (by kernel_rfl) (by kernel_rfl) (by kernel_rfl) (by kernel_rfl) (fun _ _ _ h => h) (by rfl) ?_ ?_
      rotate_left
      · (intro wS hS; skip; go_simp; (try with_reducible rfl))
      simp only [List.setIfInBounds_toArray, List.set_cons_zero, List.set_cons_succ]
      refine cm_done (by kernel_rfl) ?_
      intro wS hS
      refine NoPanic.normal ?_
      go_wp2_with fail
      go_ret
      exact ⟨rfl, Below.next hB hS⟩
  · have d1 : decide (1 ≤ t.j) = false := nb h1
    rw [d1, Bool.false_and, Bool.false_and]
    clear h1
    go_enter Tryd.func69, Tryd.ntmps69
    go_upto_region 1 with fail
    rw [← hW]
    clear hW
    refine wp_region_calm (fun w' => Below W.heap.size W w') 99 (by kernel_rfl) ((Below.refl _ W).drew) ?_
    refine cm_run 0 5 (v := ?_) rfl rfl (by kernel_rfl) (by kernel_rfl) (by kernel_rfl) (by kernel_rfl) (by kernel_rfl) (fun _ _ _ h => h) (by rfl) ?_ ?_
    rotate_left
    · (intro wS hS; skip; go_simp; (try with_reducible rfl))
    simp only [List.setIfInBounds_toArray, List.set_cons_zero, List.set_cons_succ]
    refine cm_run 1 6 (v := ?_) rfl rfl (by kernel_rfl) (by kernel_rfl) (by kernel_rfl) (by kernel_rfl) (by kernel_rfl) (fun _ _ _ h => h) (by rfl) ?_ ?_
    rotate_left
    · (intro wS hS; have g := cell_later hS t2; go_simp; (try with_reducible rfl))
    simp only [List.setIfInBounds_toArray, List.set_cons_zero, List.set_cons_succ]
    refine cm_run 2 7 (v := ?_) rfl rfl (by kernel_rfl) (by kernel_rfl) (by kernel_rfl) (by kernel_rfl) (by kernel_rfl) (fun _ _ _ h => h) (by rfl) ?_ ?_
    rotate_left
    · (intro wS hS; skip; go_simp; (try with_reducible rfl))
    simp only [List.setIfInBounds_toArray, List.set_cons_zero, List.set_cons_succ]
    refine cm_run 3 8 (v := ?_) rfl rfl (by kernel_rfl) (by kernel_rfl) (by kernel_rfl) (by kernel_rfl) (by kernel_rfl) (fun _ _ _ h => h) (by rfl) ?_ ?_
    rotate_left
    · (intro wS hS; skip; go_simp; (try with_reducible rfl))
    simp only [List.setIfInBounds_toArray, List.set_cons_zero, List.set_cons_succ]
    refine cm_shut 4 9 rfl rfl (by kernel_rfl) (by kernel_rfl) (by kernel_rfl) (by kernel_rfl) (by kernel_rfl) (fun _ _ _ h => h) (by rfl) ?_
    simp only [List.setIfInBounds_toArray, List.set_cons_zero, List.set_cons_succ]
    refine cm_shut 5 10 rfl rfl (by kernel_rfl) (by kernel_rfl) (by kernel_rfl) (by kernel_rfl) (by kernel_rfl) (fun _ _ _ h => h) (by rfl) ?_
    simp only [List.setIfInBounds_toArray, List.set_cons_zero, List.set_cons_succ]
    refine cm_shut 6 11 rfl rfl (by kernel_rfl) (by kernel_rfl) (by kernel_rfl) (by kernel_rfl) (by kernel_rfl) (fun _ _ _ h => h) (by rfl) ?_
    simp only [List.setIfInBounds_toArray, List.set_cons_zero, List.set_cons_succ]
    refine cm_shut 7 12 rfl rfl (by kernel_rfl) (by kernel_rfl) (by kernel_rfl) (by kernel_rfl) (by kernel_rfl) (fun _ _ _ h => h) (by rfl) ?_
    simp only [List.setIfInBounds_toArray, List.set_cons_zero, List.set_cons_succ]
    refine cm_shut 8 13 rfl rfl (by kernel_rfl) (by kernel_rfl) (by kernel_rfl) (by kernel_rfl) (by kernel_rfl) (fun _ _ _ h => h) (by rfl) ?_
    simp only [List.setIfInBounds_toArray, List.set_cons_zero, List.set_cons_succ]
    refine cm_shut 9 14 rfl rfl (by kernel_rfl) (by kernel_rfl) (by kernel_rfl) (by kernel_rfl) (by kernel_rfl) (fun _ _ _ h => h) (by rfl) ?_
    simp only [List.setIfInBounds_toArray, List.set_cons_zero, List.set_cons_succ]
    refine cm_shut 10 15 rfl rfl (by kernel_rfl) (by kernel_rfl) (by kernel_rfl) (by kernel_rfl) (by kernel_rfl) (fun _ _ _ h => h) (by rfl) ?_
    simp only [List.setIfInBounds_toArray, List.set_cons_zero, List.set_cons_succ]
    refine cm_shut 11 16 rfl rfl (by kernel_rfl) (by kernel_rfl) (by kernel_rfl) (by kernel_rfl) (by kernel_rfl) (fun _ _ _ h => h) (by rfl) ?_
    simp only [List.setIfInBounds_toArray, List.set_cons_zero, List.set_cons_succ]
    refine cm_shut 12 17 rfl rfl (by kernel_rfl) (by kernel_rfl) (by kernel_rfl) (by kernel_rfl) (by kernel_rfl) (fun _ _ _ h => h) (by rfl) ?_
    simp only [List.setIfInBounds_toArray, List.set_cons_zero, List.set_cons_succ]
    refine cm_run 13 18 (v := ?_) rfl rfl (by kernel_rfl) (by kernel_rfl) (by kernel_rfl) (by kernel_rfl) (by kernel_rfl) (fun _ _ _ h => h) (by rfl) ?_ ?_
    rotate_left
    · (intro wS hS; skip; go_simp; (try with_reducible rfl))
    simp only [List.setIfInBounds_toArray, List.set_cons_zero, List.set_cons_succ]
    refine cm_run 14 19 (v := ?_) rfl rfl (by kernel_rfl) (by kernel_rfl) (by kernel_rfl) (by kernel_rfl) (by kernel_rfl) (fun _ _ _ h => h) (by rfl) ?_ ?_
    rotate_left
    · (intro wS hS; skip; go_simp; (try with_reducible rfl))
    simp only [List.setIfInBounds_toArray, List.set_cons_zero, List.set_cons_succ]
    refine cm_shut 15 20 rfl rfl (by kernel_rfl) (by kernel_rfl) (by kernel_rfl) (by kernel_rfl) (by kernel_rfl) (fun _ _ _ h => h) (by rfl) ?_
    simp only [List.setIfInBounds_toArray, List.set_cons_zero, List.set_cons_succ]
    refine cm_shut 16 21 rfl rfl (by kernel_rfl) (by kernel_rfl) (by kernel_rfl) (by kernel_rfl) (by kernel_rfl) (fun _ _ _ h => h) (by rfl) ?_
    simp only [List.setIfInBounds_toArray, List.set_cons_zero, List.set_cons_succ]
    refine cm_run 17 22 (v := ?_) rfl rfl (by kernel_rfl) (by kernel_rfl) (by kernel_rfl) (by kernel_rfl) (by kernel_rfl) (fun _ _ _ h => h) (by rfl) ?_ ?_
    rotate_left
    · (intro wS hS; skip; go_simp; (try with_reducible rfl))
    simp only [List.setIfInBounds_toArray, List.set_cons_zero, List.set_cons_succ]
    refine cm_run 18 4 (v := ?_) rfl rfl (by kernel_rfl) (by kernel_rfl) (by kernel_rfl) (by kernel_rfl) (by kernel_rfl) (fun _ _ _ h => h) (by rfl) ?_ ?_
    rotate_left
    · (intro wS hS; skip; go_simp; (try with_reducible rfl))
    simp only [List.setIfInBounds_toArray, List.set_cons_zero, List.set_cons_succ]
    refine cm_done (by kernel_rfl) ?_
    intro wS hS
    refine NoPanic.normal ?_
    go_wp2_with fail
    go_ret
    exact ⟨rfl, Below.next hB hS⟩
end Go.Proofs.YtimkeafpefkheaaDoor
