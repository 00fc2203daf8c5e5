


/- Timers: which timers are valid, in both texts. -/
import Derived.Test.YtigmhglkohjlhaaB
namespace Go.Proofs.Ytigmhglkohjlhaa
open Go.RowKit
set_option linter.unusedSimpArgs false
set_option linter.unusedVariables false
set_option maxRecDepth 100000

set_option maxHeartbeats 1000000 in
theorem within_any (x y : Int) (b : Nat) (w : World) (h0 : w.cell? ⟨b, 0, none⟩ = some (.int .i64 x)) (h1 : w.cell? ⟨b, 1, none⟩ = some (.int .i64 1)) (h2 : w.cell? ⟨b, 2, none⟩ = some (.int .i64 16)) (h3 : w.cell? ⟨b, 3, none⟩ = some (.int .i64 y)) (h4 : w.cell? ⟨b, 4, none⟩ = some (.int .i64 0)) (h5 : w.cell? ⟨b, 5, none⟩ = some (.int .i64 19999)) (r : Bool) (hr : decide (1 ≤ x ∧ x ≤ 16 ∧ 0 ≤ y ∧ y ≤ 19999) = r) :
    Calls Try.prog 65 #[.slice (some ⟨b, 0, none⟩) 2 2] w fun e w' => e = .returned (.bool r) ∧ Below w.heap.size w w' := by
  have e3 := cell_al (.cells #[.int .i64 x, .int .i64 1, .int .i64 16] 88) h3
  have e4 := cell_al (.cells #[.int .i64 x, .int .i64 1, .int .i64 16] 88) h4
  have e5 := cell_al (.cells #[.int .i64 x, .int .i64 1, .int .i64 16] 88) h5
  by_cases c1 : x < 1
  · obtain rfl : r = false := by rw [← hr]; exact nb (by omega)
    have d1 := yb c1
    clear hr c1
    go_enter Try.func65, Try.ntmps65
    go_wp2
    refine wp_loop_rounds 3 ?_; rw [rounds_succ]
    go_wp2
    go_ret
    exact ⟨rfl, (by repeat (first | assumption | exact Below.refl _ _ | apply Below.al | apply below_drewN | apply Below.drew | refine Below.next ?_ (by assumption)))⟩
  · have d1 := nb c1
    by_cases c2 : 16 < x
    · obtain rfl : r = false := by rw [← hr]; exact nb (by omega)
      have d2 := yb c2
      clear hr c1 c2
      go_enter Try.func65, Try.ntmps65
      go_wp2
      refine wp_loop_rounds 3 ?_; rw [rounds_succ]
      go_wp2
      go_ret
      exact ⟨rfl, (by repeat (first | assumption | exact Below.refl _ _ | apply Below.al | apply below_drewN | apply Below.drew | refine Below.next ?_ (by assumption)))⟩
    · have d2 := nb c2
      by_cases c3 : y < 0
      · obtain rfl : r = false := by rw [← hr]; exact nb (by omega)
        have d3 := yb c3
        clear hr c1 c2 c3
        go_enter Try.func65, Try.ntmps65
        go_wp2
        refine wp_loop_rounds 3 ?_; rw [rounds_succ]
        go_wp2
        rw [rounds_succ]
        go_wp2
        go_ret
        exact ⟨rfl, (by repeat (first | assumption | exact Below.refl _ _ | apply Below.al | apply below_drewN | apply Below.drew | refine Below.next ?_ (by assumption)))⟩
      · have d3 := nb c3
        by_cases c4 : 19999 < y
        · obtain rfl : r = false := by rw [← hr]; exact nb (by omega)
          have d4 := yb c4
          clear hr c1 c2 c3 c4
          go_enter Try.func65, Try.ntmps65
          go_wp2
          refine wp_loop_rounds 3 ?_; rw [rounds_succ]
          go_wp2
          rw [rounds_succ]
          go_wp2
          go_ret
          exact ⟨rfl, (by repeat (first | assumption | exact Below.refl _ _ | apply Below.al | apply below_drewN | apply Below.drew | refine Below.next ?_ (by assumption)))⟩
        · obtain rfl : r = true := by rw [← hr]; exact yb (by omega)
          have d4 := nb c4
          clear hr c1 c2 c3 c4
          go_enter Try.func65, Try.ntmps65
          go_wp2
          refine wp_loop_rounds 3 ?_; rw [rounds_succ]
          go_wp2
          rw [rounds_succ]
          go_wp2
          rw [rounds_succ]
          go_wp2
          go_ret
          exact ⟨rfl, (by repeat (first | assumption | exact Below.refl _ _ | apply Below.al | apply below_drewN | apply Below.drew | refine Below.next ?_ (by assumption)))⟩
set_option maxHeartbeats 1000000 in
theorem checkID_any (t : Tm) (w : World) (er : Int) (he : idE t = er) : Calls Try.prog 48 #[t.iv] w fun e w' => e = .returned (.int .i64 er) ∧ Below w.heap.size w w' := by
  have hW6 : ∀ (u : World), (u.alloc (.cells #[.int .i64 t.nd, .int .i64 1, .int .i64 16, .int .i64 t.of, .int .i64 0, .int .i64 19999] 88)).cell? ⟨u.heap.size, 0, none⟩ = some (.int .i64 t.nd) ∧ (u.alloc (.cells #[.int .i64 t.nd, .int .i64 1, .int .i64 16, .int .i64 t.of, .int .i64 0, .int .i64 19999] 88)).cell? ⟨u.heap.size, 1, none⟩ = some (.int .i64 1) ∧ (u.alloc (.cells #[.int .i64 t.nd, .int .i64 1, .int .i64 16, .int .i64 t.of, .int .i64 0, .int .i64 19999] 88)).cell? ⟨u.heap.size, 2, none⟩ = some (.int .i64 16) ∧ (u.alloc (.cells #[.int .i64 t.nd, .int .i64 1, .int .i64 16, .int .i64 t.of, .int .i64 0, .int .i64 19999] 88)).cell? ⟨u.heap.size, 3, none⟩ = some (.int .i64 t.of) ∧ (u.alloc (.cells #[.int .i64 t.nd, .int .i64 1, .int .i64 16, .int .i64 t.of, .int .i64 0, .int .i64 19999] 88)).cell? ⟨u.heap.size, 4, none⟩ = some (.int .i64 0) ∧ (u.alloc (.cells #[.int .i64 t.nd, .int .i64 1, .int .i64 16, .int .i64 t.of, .int .i64 0, .int .i64 19999] 88)).cell? ⟨u.heap.size, 5, none⟩ = some (.int .i64 19999) := fun u => by
    have := BoxN.new u 88 #[.int .i64 t.nd, .int .i64 1, .int .i64 16, .int .i64 t.of, .int .i64 0, .int .i64 19999]
    exact ⟨this.cell 0, this.cell 1, this.cell 2, this.cell 3, this.cell 4, this.cell 5⟩
  obtain ⟨r, hr⟩ : ∃ r, decide (1 ≤ t.nd ∧ t.nd ≤ 16 ∧ 0 ≤ t.of ∧ t.of ≤ 19999) = r := ⟨_, rfl⟩
  have HR := Lib.hid hr
  have hW := Lib.hid hW6
  obtain ⟨W, hWW⟩ : ∃ W : World, W = w.alloc (.cells #[.int .i64 t.nd, .int .u64 t.sq, .int .i64 t.of] 39) := ⟨_, rfl⟩
  have hB : Below w.heap.size w W := by rw [hWW]; exact (by repeat (first | assumption | exact Below.refl _ _ | apply Below.al | apply below_drewN | apply Below.drew | refine Below.next ?_ (by assumption)))
  have bI : BoxN W w.heap.size 39 #[.int .i64 t.nd, .int .u64 t.sq, .int .i64 t.of] := by rw [hWW]; exact BoxN.new _ _ _
  have i0 : W.cell? ⟨w.heap.size, 0, none⟩ = some (.int .i64 t.nd) := bI.cell 0
  have i1 : W.cell? ⟨w.heap.size, 1, none⟩ = some (.int .u64 t.sq) := bI.cell 1
  have i2 : W.cell? ⟨w.heap.size, 2, none⟩ = some (.int .i64 t.of) := bI.cell 2
  clear bI hW6
  have key : ∀ c : Bool, decide (1099511627776 < t.sq) = c → er = (if r = true ∧ c = false then 0 else 2) := fun c hc => by
    rw [← he]
    unfold idE
    cases r
    · have hr := of_decide_eq_false hr
      rw [if_pos (show t.nd < 1 ∨ 16 < t.nd ∨ 1099511627776 < t.sq ∨ t.of < 0 ∨ 19999 < t.of by omega)]
      simp
    · have hr := of_decide_eq_true hr
      cases c
      · have hc := of_decide_eq_false hc
        rw [if_neg (show ¬ (t.nd < 1 ∨ 16 < t.nd ∨ 1099511627776 < t.sq ∨ t.of < 0 ∨ 19999 < t.of) by omega)]
        simp
      · have hc := of_decide_eq_true hc
        rw [if_pos (show t.nd < 1 ∨ 16 < t.nd ∨ 1099511627776 < t.sq ∨ t.of < 0 ∨ 19999 < t.of by omega)]
        simp
  obtain ⟨c, hc⟩ : ∃ c, decide (1099511627776 < t.sq) = c := ⟨_, rfl⟩
  have hk := key c hc
  clear key hr he
  cases r
  · obtain rfl : er = 2 := by rw [hk]; rfl
    clear hk hc
    go_enter Try.func48, Try.ntmps48
    go_upto_region 1 with fail
    rw [← hWW]
    clear hWW
    go_wp2_with fail
    refine (within_any t.nd t.of _ _ (hW.out _).1 (hW.out _).2.1 (hW.out _).2.2.1 (hW.out _).2.2.2.1 (hW.out _).2.2.2.2.1 (hW.out _).2.2.2.2.2 false HR.out).mono ?_
    rintro e w1 ⟨rfl, hb1⟩
    have hB1 := Below.next (Below.al hB _) hb1
    clear hb1 hW
    go_wp2_with fail
    go_ret
    exact ⟨rfl, hB1⟩
  · cases c
    · obtain rfl : er = 0 := by rw [hk]; rfl
      clear hk
      go_enter Try.func48, Try.ntmps48
      go_upto_region 1 with fail
      rw [← hWW]
      clear hWW
      go_wp2_with fail
      refine (within_any t.nd t.of _ _ (hW.out _).1 (hW.out _).2.1 (hW.out _).2.2.1 (hW.out _).2.2.2.1 (hW.out _).2.2.2.2.1 (hW.out _).2.2.2.2.2 true HR.out).mono ?_
      rintro e w1 ⟨rfl, hb1⟩
      have i1 := cell_later hb1 (cell_al _ i1)
      have hB1 := Below.next (Below.al hB _) hb1
      clear hb1 hW i0 i2
      go_wp2_with fail
      go_ret
      exact ⟨rfl, hB1⟩
    · obtain rfl : er = 2 := by rw [hk]; rfl
      clear hk
      go_enter Try.func48, Try.ntmps48
      go_upto_region 1 with fail
      rw [← hWW]
      clear hWW
      go_wp2_with fail
      refine (within_any t.nd t.of _ _ (hW.out _).1 (hW.out _).2.1 (hW.out _).2.2.1 (hW.out _).2.2.2.1 (hW.out _).2.2.2.2.1 (hW.out _).2.2.2.2.2 true HR.out).mono ?_
      rintro e w1 ⟨rfl, hb1⟩
      have i1 := cell_later hb1 (cell_al _ i1)
      have hB1 := Below.next (Below.al hB _) hb1
      clear hb1 hW i0 i2
      go_wp2_with fail
      go_ret
      exact ⟨rfl, hB1⟩
set_option maxHeartbeats 1000000 in
theorem rcheckID_any (t : Tm) (w : World) (er : Int) (he : idE t = er) : Calls Try.prog 59 #[t.iv] w fun e w' => e = .returned (.int .i64 er) ∧ Below w.heap.size w w' := by
  unfold idE at he
  by_cases c1 : t.nd < 1
  · rw [if_pos (by omega)] at he
    obtain rfl := he
    have d1 := yb c1
    clear c1
    go_enter Try.func59, Try.ntmps59
    go_wp2
    go_ret
    exact ⟨rfl, (by repeat (first | assumption | exact Below.refl _ _ | apply Below.al | apply below_drewN | apply Below.drew | refine Below.next ?_ (by assumption)))⟩
  have d1 := nb c1
  by_cases c2 : 16 < t.nd
  · rw [if_pos (by omega)] at he
    obtain rfl := he
    have d2 := yb c2
    clear c1 c2
    go_enter Try.func59, Try.ntmps59
    go_wp2
    go_ret
    exact ⟨rfl, (by repeat (first | assumption | exact Below.refl _ _ | apply Below.al | apply below_drewN | apply Below.drew | refine Below.next ?_ (by assumption)))⟩
  have d2 := nb c2
  by_cases c3 : 1099511627776 < t.sq
  · rw [if_pos (by omega)] at he
    obtain rfl := he
    have d3 := yb c3
    clear c1 c2 c3
    go_enter Try.func59, Try.ntmps59
    go_wp2
    go_ret
    exact ⟨rfl, (by repeat (first | assumption | exact Below.refl _ _ | apply Below.al | apply below_drewN | apply Below.drew | refine Below.next ?_ (by assumption)))⟩
  have d3 := nb c3
  by_cases c4 : t.of < 0
  · rw [if_pos (by omega)] at he
    obtain rfl := he
    have d4 := yb c4
    clear c1 c2 c3 c4
    go_enter Try.func59, Try.ntmps59
    go_wp2
    go_ret
    exact ⟨rfl, (by repeat (first | assumption | exact Below.refl _ _ | apply Below.al | apply below_drewN | apply Below.drew | refine Below.next ?_ (by assumption)))⟩
  have d4 := nb c4
  by_cases c5 : 20000 ≤ t.of
  · rw [if_pos (by omega)] at he
    obtain rfl := he
    have d5 := yb c5
    clear c1 c2 c3 c4 c5
    go_enter Try.func59, Try.ntmps59
    go_wp2
    go_ret
    exact ⟨rfl, (by repeat (first | assumption | exact Below.refl _ _ | apply Below.al | apply below_drewN | apply Below.drew | refine Below.next ?_ (by assumption)))⟩
  have d5 := nb c5
  rw [if_neg (by omega)] at he
  obtain rfl := he
  clear c1 c2 c3 c4 c5
  go_enter Try.func59, Try.ntmps59
  go_wp2
  go_ret
  exact ⟨rfl, (by repeat (first | assumption | exact Below.refl _ _ | apply Below.al | apply below_drewN | apply Below.drew | refine Below.next ?_ (by assumption)))⟩
theorem valid_any (t : Tm) (w : World) (er : Int) (he : valE t = er) : Calls Try.prog 35 #[t.v] w fun e w' => e = .returned (.int .i64 er) ∧ Below w.heap.size w w' := by
  unfold valE at he
  by_cases c1 : t.tk < 0
  · rw [if_pos (by omega)] at he
    obtain rfl := he
    have d1 := yb c1
    clear c1
    go_enter Try.func35, Try.ntmps35
    go_wp2
    go_ret
    exact ⟨rfl, (by repeat (first | assumption | exact Below.refl _ _ | apply Below.al | apply below_drewN | apply Below.drew | refine Below.next ?_ (by assumption)))⟩
  have d1 := nb c1
  by_cases c2 : 1099511627776 < t.tk
  · rw [if_pos (by omega)] at he
    obtain rfl := he
    have d2 := yb c2
    clear c1 c2
    go_enter Try.func35, Try.ntmps35
    go_wp2
    go_ret
    exact ⟨rfl, (by repeat (first | assumption | exact Below.refl _ _ | apply Below.al | apply below_drewN | apply Below.drew | refine Below.next ?_ (by assumption)))⟩
  have d2 := nb c2
  rw [if_neg (by omega)] at he
  by_cases c3 : t.kd < 1
  · rw [if_pos (by omega)] at he
    obtain rfl := he
    have d3 := yb c3
    clear c1 c2 c3
    go_enter Try.func35, Try.ntmps35
    go_wp2
    go_ret
    exact ⟨rfl, (by repeat (first | assumption | exact Below.refl _ _ | apply Below.al | apply below_drewN | apply Below.drew | refine Below.next ?_ (by assumption)))⟩
  have d3 := nb c3
  by_cases c4 : 9 < t.kd
  · rw [if_pos (by omega)] at he
    obtain rfl := he
    have d4 := yb c4
    clear c1 c2 c3 c4
    go_enter Try.func35, Try.ntmps35
    go_wp2
    go_ret
    exact ⟨rfl, (by repeat (first | assumption | exact Below.refl _ _ | apply Below.al | apply below_drewN | apply Below.drew | refine Below.next ?_ (by assumption)))⟩
  have d4 := nb c4
  rw [if_neg (by omega)] at he
  clear c1 c2 c3 c4
  have HE := Lib.hid he
  clear he
  go_enter Try.func35, Try.ntmps35
  go_wp2_with fail
  refine (checkID_any t _ er HE.out).mono ?_
  rintro e w1 ⟨rfl, hb1⟩
  have hB : Below w.heap.size w w1 := Below.next (by repeat (first | assumption | exact Below.refl _ _ | apply Below.al | apply below_drewN | apply Below.drew | refine Below.next ?_ (by assumption))) hb1
  go_wp2_with fail
  go_ret
  exact ⟨rfl, hB⟩
theorem one_any (t : Tm) (w : World) (er : Int) (he : valE t = er) : Calls Try.prog 41 #[t.v] w fun e w' => e = .returned (.int .i64 er) ∧ Below w.heap.size w w' := by
  unfold valE at he
  by_cases c1 : t.tk < 0
  · rw [if_pos (by omega)] at he
    obtain rfl := he
    have d1 := yb c1
    clear c1
    go_enter Try.func41, Try.ntmps41
    go_wp2
    go_ret
    exact ⟨rfl, (by repeat (first | assumption | exact Below.refl _ _ | apply Below.al | apply below_drewN | apply Below.drew | refine Below.next ?_ (by assumption)))⟩
  have d1 := nb c1
  by_cases c2 : 1099511627776 < t.tk
  · rw [if_pos (by omega)] at he
    obtain rfl := he
    have d2 := yb c2
    clear c1 c2
    go_enter Try.func41, Try.ntmps41
    go_wp2
    go_ret
    exact ⟨rfl, (by repeat (first | assumption | exact Below.refl _ _ | apply Below.al | apply below_drewN | apply Below.drew | refine Below.next ?_ (by assumption)))⟩
  have d2 := nb c2
  rw [if_neg (by omega)] at he
  by_cases c3 : t.kd < 1
  · rw [if_pos (by omega)] at he
    obtain rfl := he
    have d3 := yb c3
    clear c1 c2 c3
    go_enter Try.func41, Try.ntmps41
    go_wp2
    go_ret
    exact ⟨rfl, (by repeat (first | assumption | exact Below.refl _ _ | apply Below.al | apply below_drewN | apply Below.drew | refine Below.next ?_ (by assumption)))⟩
  have d3 := nb c3
  by_cases c4 : 9 < t.kd
  · rw [if_pos (by omega)] at he
    obtain rfl := he
    have d4 := yb c4
    clear c1 c2 c3 c4
    go_enter Try.func41, Try.ntmps41
    go_wp2
    go_ret
    exact ⟨rfl, (by repeat (first | assumption | exact Below.refl _ _ | apply Below.al | apply below_drewN | apply Below.drew | refine Below.next ?_ (by assumption)))⟩
  have d4 := nb c4
  rw [if_neg (by omega)] at he
  clear c1 c2 c3 c4
  have HE := Lib.hid he
  clear he
  go_enter Try.func41, Try.ntmps41
  go_wp2_with fail
  refine (rcheckID_any t _ er HE.out).mono ?_
  rintro e w1 ⟨rfl, hb1⟩
  have hB : Below w.heap.size w w1 := Below.next (by repeat (first | assumption | exact Below.refl _ _ | apply Below.al | apply below_drewN | apply Below.drew | refine Below.next ?_ (by assumption))) hb1
  go_wp2_with fail
  go_ret
  exact ⟨rfl, hB⟩
end Go.Proofs.Ytigmhglkohjlhaa
