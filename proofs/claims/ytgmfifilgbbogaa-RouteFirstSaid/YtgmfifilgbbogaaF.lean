


/- Volume: the order of contacts (cmp.Compare, cmp.Or, plan.compare), plan.of, and the reference's before and pair. -/
import Derived.Test.YtgmfifilgbbogaaE
import Derived.Test.YtgmfifilgbbogaaR
import Derived.StillTailTactics
namespace Go.Proofs.Ytgmfifilgbbogaa
open Go.RowKit Go.Maps
set_option linter.unusedSimpArgs false
set_option linter.unusedVariables false
set_option maxRecDepth 100000

def cmpI (x y : Int) : Int := if x < y then -1 else if y < x then 1 else 0
theorem nan_any (x : Int) (w : World) : Calls Try.prog 61 #[.int .i64 x] w fun e w' => e = .returned (.bool false) ∧ w = w' := by
  have h : (x != x) = false := by simp
  go_enter Try.func61, Try.ntmps61
  go_wp2
  go_ret
  exact ⟨rfl, rfl⟩
theorem cmp_any (x y : Int) (w : World) : Calls Try.prog 46 #[.int .i64 x, .int .i64 y] w fun e w' => e = .returned (.int .i64 (cmpI x y)) ∧ w = w' := by
  have hc : (x < y ∧ cmpI x y = -1) ∨ (¬ x < y ∧ y < x ∧ cmpI x y = 1) ∨ (¬ x < y ∧ ¬ y < x ∧ cmpI x y = 0) := by
    unfold cmpI
    by_cases h1 : x < y <;> by_cases h2 : y < x <;> simp [h1, h2]
  rcases hc with ⟨h1, h⟩ | ⟨h1, h2, h⟩ | ⟨h1, h2, h⟩
  · rw [h]
    have d1 := yb h1
    go_enter Try.func46, Try.ntmps46
    go_wp2_with (go_at_call 61; refine (nan_any _ _).mono ?_; rintro e w1 ⟨rfl, rfl⟩)
    go_ret
    exact ⟨rfl, rfl⟩
  · rw [h]
    have d1 := nb h1; have d2 := yb h2
    go_enter Try.func46, Try.ntmps46
    go_wp2_with (go_at_call 61; refine (nan_any _ _).mono ?_; rintro e w1 ⟨rfl, rfl⟩)
    go_ret
    exact ⟨rfl, rfl⟩
  · rw [h]
    have d1 := nb h1; have d2 := nb h2
    go_enter Try.func46, Try.ntmps46
    go_wp2_with (go_at_call 61; refine (nan_any _ _).mono ?_; rintro e w1 ⟨rfl, rfl⟩)
    go_ret
    exact ⟨rfl, rfl⟩
/-- the first number that is not 0 -/
def or3 (x y z : Int) : Int := if x ≠ 0 then x else if y ≠ 0 then y else z
theorem or_any (x y z : Int) (b : Nat) (w : World) (h0 : w.cell? ⟨b, 0, none⟩ = some (.int .i64 x)) (h1 : w.cell? ⟨b, 1, none⟩ = some (.int .i64 y)) (h2 : w.cell? ⟨b, 2, none⟩ = some (.int .i64 z)) :
    Calls Try.prog 45 #[.slice (some ⟨b, 0, none⟩) 3 3] w fun e w' => e = .returned (.int .i64 (or3 x y z)) ∧ w = w' := by
  have hc : ((x != 0) = true ∧ or3 x y z = x) ∨ ((x != 0) = false ∧ (y != 0) = true ∧ or3 x y z = y) ∨ ((x != 0) = false ∧ (y != 0) = false ∧ (z != 0) = true ∧ or3 x y z = z) ∨ ((x != 0) = false ∧ (y != 0) = false ∧ (z != 0) = false ∧ or3 x y z = 0) := by
    unfold or3
    by_cases a1 : x = 0 <;> by_cases a2 : y = 0 <;> by_cases a3 : z = 0 <;> simp [a1, a2, a3]
  rcases hc with ⟨d1, h⟩ | ⟨d1, d2, h⟩ | ⟨d1, d2, d3, h⟩ | ⟨d1, d2, d3, h⟩ <;> rw [h]
  all_goals
    go_enter Try.func45, Try.ntmps45
    go_wp2
    refine wp_loop_rounds 4 ?_; rw [rounds_succ]
    go_wp2
    all_goals try rw [rounds_succ]
    all_goals go_wp2
    all_goals try rw [rounds_succ]
    all_goals go_wp2
    all_goals try rw [rounds_succ]
    all_goals go_wp2
    all_goals (go_ret; exact ⟨rfl, rfl⟩)
def bef (a b : Ct) : Prop := a.st < b.st ∨ (a.st = b.st ∧ (a.fr < b.fr ∨ (a.fr = b.fr ∧ a.dt < b.dt)))
instance (a b : Ct) : Decidable (bef a b) := by unfold bef; infer_instance
def cmpC (a b : Ct) : Int := or3 (cmpI a.st b.st) (cmpI a.fr b.fr) (cmpI a.dt b.dt)
theorem cmpC_bef (a b : Ct) : (0 ≤ cmpC a b) ↔ ¬ bef a b := by
  unfold cmpC or3 cmpI bef
  by_cases h1 : a.st < b.st <;> by_cases h2 : b.st < a.st <;> by_cases h3 : a.fr < b.fr <;> by_cases h4 : b.fr < a.fr <;> by_cases h5 : a.dt < b.dt <;> by_cases h6 : b.dt < a.dt <;> simp [h1, h2, h3, h4, h5, h6] <;> omega

theorem BC.al {w : World} {b : Nat} {c : Ct} (o : Obj) (h : BC w b c) : BC (w.alloc o) b c := ⟨cell_al o h.1, cell_al o h.2.1, cell_al o h.2.2.1, cell_al o h.2.2.2.1, cell_al o h.2.2.2.2.1, cell_al o h.2.2.2.2.2⟩
set_option maxHeartbeats 1000000 in
theorem compare_any (a b : Ct) (w : World) : Calls Try.prog 65 #[a.v, b.v] w fun e w' => e = .returned (.int .i64 (cmpC a b)) ∧ Below w.heap.size w w' := by
  go_enter Try.func65, Try.ntmps65
  go_wp2
  obtain ⟨W, hW⟩ : ∃ W : World, W = ((w.alloc (.cells #[.int .i64 a.fr, .int .i64 a.dt, .int .i64 a.st, .int .i64 a.en, .int .i64 a.rt, .int .i64 a.dl] 52)).alloc (.cells #[.int .i64 b.fr, .int .i64 b.dt, .int .i64 b.st, .int .i64 b.en, .int .i64 b.rt, .int .i64 b.dl] 52)) := ⟨_, rfl⟩
  have hB : Below w.heap.size w W := by rw [hW]; exact (by repeat (first | assumption | exact Below.refl _ _ | apply Below.al | apply below_drewN | apply Below.drew | refine Below.next ?_ (by assumption)))
  have hA : BC W w.heap.size a := by rw [hW]; simp [BC, go_sem]
  have hC : BC W (w.heap.size + 1) b := by rw [hW]; simp [BC, go_sem]
  rw [← hW]
  clear hW
  have lA : w.heap.size + 1 < W.heap.size := cell_lt hC.1
  go_region_held3 (fun w' => w'.cell? ⟨w.heap.size, 0, none⟩ = some (.int .i64 a.fr) ∧ w'.cell? ⟨w.heap.size, 1, none⟩ = some (.int .i64 a.dt) ∧ w'.cell? ⟨w.heap.size, 2, none⟩ = some (.int .i64 a.st) ∧ w'.cell? ⟨w.heap.size + 1, 0, none⟩ = some (.int .i64 b.fr) ∧ w'.cell? ⟨w.heap.size + 1, 1, none⟩ = some (.int .i64 b.dt) ∧ w'.cell? ⟨w.heap.size + 1, 2, none⟩ = some (.int .i64 b.st))
    (first | with_reducible exact ⟨hA.1, hA.2.1, hA.2.2.1, hC.1, hC.2.1, hC.2.2.1⟩ | with_reducible exact ⟨cell_drew hA.1, cell_drew hA.2.1, cell_drew hA.2.2.1, cell_drew hC.1, cell_drew hC.2.1, cell_drew hC.2.2.1⟩ | with_reducible exact ⟨cell_drew (cell_al _ hA.1), cell_drew (cell_al _ hA.2.1), cell_drew (cell_al _ hA.2.2.1), cell_drew (cell_al _ hC.1), cell_drew (cell_al _ hC.2.1), cell_drew (cell_al _ hC.2.2.1)⟩)
    (first
      | (go_at_call 46; refine (cmp_any _ _ _).mono ?_; rintro e w1 ⟨rfl, rfl⟩)
      | (go_at_call 45; refine (or_any (cmpI a.st b.st) (cmpI a.fr b.fr) (cmpI a.dt b.dt) _ _ (by simp [go_sem]) (by simp [go_sem]) (by simp [go_sem])).mono ?_; rintro e w1 ⟨rfl, rfl⟩))
  go_wp2
  go_ret
  exact ⟨rfl, (by repeat (first | assumption | exact Below.refl _ _ | apply Below.al | apply below_drewN | apply Below.drew | refine Below.next ?_ (by assumption)))⟩
theorem of_any (a : Ct) (w : World) : Calls Try.prog 66 #[a.v] w fun e w' => e = .returned (.agg #[.int .i64 a.fr, .int .i64 a.dt]) ∧ Below w.heap.size w w' := by
  go_enter Try.func66, Try.ntmps66
  go_wp2
  refine bodyPost_ret (v := .agg #[.int .i64 a.fr, .int .i64 a.dt]) ?_ rfl ⟨rfl, (by repeat (first | assumption | exact Below.refl _ _ | apply Below.al | apply below_drewN | apply Below.drew | refine Below.next ?_ (by assumption)))⟩
  simp [results, Try.results66, go_sem]
theorem before_any (a b : Ct) (w : World) : Calls Try.prog 73 #[a.v, b.v] w fun e w' => e = .returned (.bool (decide (bef a b))) ∧ Below w.heap.size w w' := by
  by_cases h1 : a.st = b.st
  · have d1 : (a.st != b.st) = false := by simp [h1]
    by_cases h2 : a.fr = b.fr
    · have d2 : (a.fr != b.fr) = false := by simp [h2]
      have hd : Hid (decide (bef a b) = decide (a.dt < b.dt)) := by unfold Hid bef; simp [h1, h2]
      rw [hd.out]
      clear h1 h2
      go_enter Try.func73, Try.ntmps73
      go_wp2
      go_ret
      exact ⟨rfl, (by repeat (first | assumption | exact Below.refl _ _ | apply Below.al | apply below_drewN | apply Below.drew | refine Below.next ?_ (by assumption)))⟩
    · have d2 : (a.fr != b.fr) = true := by simp [h2]
      have hd : Hid (decide (bef a b) = decide (a.fr < b.fr)) := by unfold Hid bef; simp [h1, h2]
      rw [hd.out]
      clear h1 h2
      go_enter Try.func73, Try.ntmps73
      go_wp2
      go_ret
      exact ⟨rfl, (by repeat (first | assumption | exact Below.refl _ _ | apply Below.al | apply below_drewN | apply Below.drew | refine Below.next ?_ (by assumption)))⟩
  · have d1 : (a.st != b.st) = true := by simp [h1]
    have hd : Hid (decide (bef a b) = decide (a.st < b.st)) := by unfold Hid bef; simp [h1]
    rw [hd.out]
    clear h1
    go_enter Try.func73, Try.ntmps73
    go_wp2
    go_ret
    exact ⟨rfl, (by repeat (first | assumption | exact Below.refl _ _ | apply Below.al | apply below_drewN | apply Below.drew | refine Below.next ?_ (by assumption)))⟩
theorem pair_any (a b : Ct) (w : World) : Calls Try.prog 74 #[a.v, b.v] w fun e w' => e = .returned (.bool (decide (a.fr = b.fr ∧ a.dt = b.dt))) ∧ Below w.heap.size w w' := by
  by_cases h1 : a.fr = b.fr
  · have d1 : (a.fr == b.fr) = true := by simp [h1]
    have hd : Hid (decide (a.fr = b.fr ∧ a.dt = b.dt) = (a.dt == b.dt)) := by unfold Hid; simp [h1]; rfl
    rw [hd.out]
    clear h1
    go_enter Try.func74, Try.ntmps74
    go_wp2
    go_ret
    exact ⟨rfl, (by repeat (first | assumption | exact Below.refl _ _ | apply Below.al | apply below_drewN | apply Below.drew | refine Below.next ?_ (by assumption)))⟩
  · have d1 : (a.fr == b.fr) = false := by simp [h1]
    have hd : Hid (decide (a.fr = b.fr ∧ a.dt = b.dt) = false) := by unfold Hid; simp [h1]
    rw [hd.out]
    clear h1
    go_enter Try.func74, Try.ntmps74
    go_wp2
    go_ret
    exact ⟨rfl, (by repeat (first | assumption | exact Below.refl _ _ | apply Below.al | apply below_drewN | apply Below.drew | refine Below.next ?_ (by assumption)))⟩
end Go.Proofs.Ytgmfifilgbbogaa
