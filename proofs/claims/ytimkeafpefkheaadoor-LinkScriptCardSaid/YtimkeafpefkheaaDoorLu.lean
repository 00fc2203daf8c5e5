

/- Links: whether the unused fields are zero (the reference). -/
import Derived.Test.YtimkeafpefkheaaDoorK
namespace Go.Proofs.YtimkeafpefkheaaDoor
open Go.RowKit
set_option linter.unusedSimpArgs false
set_option linter.unusedVariables false
set_option maxRecDepth 100000

def unV (t : Tr) : Bool := if t.k = 1 ∨ t.k = 2 then decide (t.j = 0) && decide (t.b = 0) else if t.k = 3 ∨ t.k = 5 then decide (t.b = 0) else true
set_option maxHeartbeats 1000000 in
theorem unused_any (t : Tr) (w : World) : Calls Tryd.prog 38 #[t.v] w fun x w' => x = .returned (.bool (unV t)) ∧ Below w.heap.size w w' := by
  unfold unV
  by_cases h1 : t.k = 1
  · rw [if_pos (.inl h1)]
    have d1 : (t.k == 1) = true := by simp [h1]
    clear h1
    by_cases c1 : t.j = 0
    · have q1 : (t.j == 0) = true := by simp [c1]
      rw [decide_eq_true c1, Bool.true_and]
      by_cases c2 : t.b = 0
      · have q2 : (t.b == 0) = true := by simp [c2]
        rw [decide_eq_true c2]
        clear c1 c2
        go_enter Tryd.func38, Tryd.ntmps38
        go_wp2_with fail
        go_ret
        exact ⟨rfl, (by repeat (first | assumption | exact Below.refl _ _ | apply Below.al | apply below_drewN | apply Below.drew | refine Below.next ?_ (by assumption)))⟩
      · have q2 : (t.b == 0) = false := by simpa using c2
        rw [decide_eq_false c2]
        clear c1 c2
        go_enter Tryd.func38, Tryd.ntmps38
        go_wp2_with fail
        go_ret
        exact ⟨rfl, (by repeat (first | assumption | exact Below.refl _ _ | apply Below.al | apply below_drewN | apply Below.drew | refine Below.next ?_ (by assumption)))⟩
    · have q1 : (t.j == 0) = false := by simpa using c1
      rw [decide_eq_false c1, Bool.false_and]
      clear c1
      go_enter Tryd.func38, Tryd.ntmps38
      go_wp2_with fail
      go_ret
      exact ⟨rfl, (by repeat (first | assumption | exact Below.refl _ _ | apply Below.al | apply below_drewN | apply Below.drew | refine Below.next ?_ (by assumption)))⟩
  · have d1 : (t.k == 1) = false := by simpa using h1
    by_cases h2 : t.k = 2
    · rw [if_pos (.inr h2)]
      have d2 : (t.k == 2) = true := by simp [h2]
      clear h1 h2
      by_cases c1 : t.j = 0
      · have q1 : (t.j == 0) = true := by simp [c1]
        rw [decide_eq_true c1, Bool.true_and]
        by_cases c2 : t.b = 0
        · have q2 : (t.b == 0) = true := by simp [c2]
          rw [decide_eq_true c2]
          clear c1 c2
          go_enter Tryd.func38, Tryd.ntmps38
          go_wp2_with fail
          go_ret
          exact ⟨rfl, (by repeat (first | assumption | exact Below.refl _ _ | apply Below.al | apply below_drewN | apply Below.drew | refine Below.next ?_ (by assumption)))⟩
        · have q2 : (t.b == 0) = false := by simpa using c2
          rw [decide_eq_false c2]
          clear c1 c2
          go_enter Tryd.func38, Tryd.ntmps38
          go_wp2_with fail
          go_ret
          exact ⟨rfl, (by repeat (first | assumption | exact Below.refl _ _ | apply Below.al | apply below_drewN | apply Below.drew | refine Below.next ?_ (by assumption)))⟩
      · have q1 : (t.j == 0) = false := by simpa using c1
        rw [decide_eq_false c1, Bool.false_and]
        clear c1
        go_enter Tryd.func38, Tryd.ntmps38
        go_wp2_with fail
        go_ret
        exact ⟨rfl, (by repeat (first | assumption | exact Below.refl _ _ | apply Below.al | apply below_drewN | apply Below.drew | refine Below.next ?_ (by assumption)))⟩
    · have d2 : (t.k == 2) = false := by simpa using h2
      rw [if_neg (by rintro (h | h); exact h1 h; exact h2 h)]
      by_cases h3 : t.k = 3
      · rw [if_pos (.inl h3)]
        have d3 : (t.k == 3) = true := by simp [h3]
        clear h1 h2 h3
        by_cases c2 : t.b = 0
        · have q2 : (t.b == 0) = true := by simp [c2]
          rw [decide_eq_true c2]
          clear c2
          go_enter Tryd.func38, Tryd.ntmps38
          go_wp2_with fail
          go_ret
          exact ⟨rfl, (by repeat (first | assumption | exact Below.refl _ _ | apply Below.al | apply below_drewN | apply Below.drew | refine Below.next ?_ (by assumption)))⟩
        · have q2 : (t.b == 0) = false := by simpa using c2
          rw [decide_eq_false c2]
          clear c2
          go_enter Tryd.func38, Tryd.ntmps38
          go_wp2_with fail
          go_ret
          exact ⟨rfl, (by repeat (first | assumption | exact Below.refl _ _ | apply Below.al | apply below_drewN | apply Below.drew | refine Below.next ?_ (by assumption)))⟩
      · have d3 : (t.k == 3) = false := by simpa using h3
        by_cases h5 : t.k = 5
        · rw [if_pos (.inr h5)]
          have d5 : (t.k == 5) = true := by simp [h5]
          clear h1 h2 h3 h5
          by_cases c2 : t.b = 0
          · have q2 : (t.b == 0) = true := by simp [c2]
            rw [decide_eq_true c2]
            clear c2
            go_enter Tryd.func38, Tryd.ntmps38
            go_wp2_with fail
            go_ret
            exact ⟨rfl, (by repeat (first | assumption | exact Below.refl _ _ | apply Below.al | apply below_drewN | apply Below.drew | refine Below.next ?_ (by assumption)))⟩
          · have q2 : (t.b == 0) = false := by simpa using c2
            rw [decide_eq_false c2]
            clear c2
            go_enter Tryd.func38, Tryd.ntmps38
            go_wp2_with fail
            go_ret
            exact ⟨rfl, (by repeat (first | assumption | exact Below.refl _ _ | apply Below.al | apply below_drewN | apply Below.drew | refine Below.next ?_ (by assumption)))⟩
        · have d5 : (t.k == 5) = false := by simpa using h5
          rw [if_neg (by rintro (h | h); exact h3 h; exact h5 h)]
          clear h1 h2 h3 h5
          go_enter Tryd.func38, Tryd.ntmps38
          go_wp2_with fail
          go_ret
          exact ⟨rfl, (by repeat (first | assumption | exact Below.refl _ _ | apply Below.al | apply below_drewN | apply Below.drew | refine Below.next ?_ (by assumption)))⟩
end Go.Proofs.YtimkeafpefkheaaDoor
