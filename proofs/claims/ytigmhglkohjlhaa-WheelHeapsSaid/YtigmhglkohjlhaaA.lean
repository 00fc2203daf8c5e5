


/- Timers: the order of timers and IDs, and which timers are valid, in both texts. -/
import Derived.Test.YtigmhglkohjlhaaCk
import Derived.Test.YtigmhglkohjlhaaRQ
import Derived.Test.YtigmhglkohjlhaaProg
import Derived.StillTailTactics
namespace Go.Proofs.Ytigmhglkohjlhaa
open Go.RowKit
set_option linter.unusedSimpArgs false
set_option linter.unusedVariables false
set_option maxRecDepth 100000

def cmpI (x y : Int) : Int := if x < y then -1 else if y < x then 1 else 0
theorem nan_any (x : Int) (w : World) : Calls Try.prog 66 #[.int .i64 x] w fun e w' => e = .returned (.bool false) ∧ w = w' := by
  have h : (x != x) = false := by simp
  go_enter Try.func66, Try.ntmps66
  go_wp2
  go_ret
  exact ⟨rfl, rfl⟩
theorem cmp_any (x y : Int) (w : World) : Calls Try.prog 52 #[.int .i64 x, .int .i64 y] w fun e w' => e = .returned (.int .i64 (cmpI x y)) ∧ w = w' := by
  have hc : (x < y ∧ cmpI x y = -1) ∨ (¬ x < y ∧ y < x ∧ cmpI x y = 1) ∨ (¬ x < y ∧ ¬ y < x ∧ cmpI x y = 0) := by
    unfold cmpI
    by_cases h1 : x < y <;> by_cases h2 : y < x <;> simp [h1, h2]
  rcases hc with ⟨h1, h⟩ | ⟨h1, h2, h⟩ | ⟨h1, h2, h⟩
  · rw [h]
    have d1 := yb h1
    go_enter Try.func52, Try.ntmps52
    go_wp2_with (go_at_call 66; refine (nan_any _ _).mono ?_; rintro e w1 ⟨rfl, rfl⟩)
    go_ret
    exact ⟨rfl, rfl⟩
  · rw [h]
    have d1 := nb h1; have d2 := yb h2
    go_enter Try.func52, Try.ntmps52
    go_wp2_with (go_at_call 66; refine (nan_any _ _).mono ?_; rintro e w1 ⟨rfl, rfl⟩)
    go_ret
    exact ⟨rfl, rfl⟩
  · rw [h]
    have d1 := nb h1; have d2 := nb h2
    go_enter Try.func52, Try.ntmps52
    go_wp2_with (go_at_call 66; refine (nan_any _ _).mono ?_; rintro e w1 ⟨rfl, rfl⟩)
    go_ret
    exact ⟨rfl, rfl⟩
/-- the first number that is not 0 -/
def or3 (x y z : Int) : Int := if x ≠ 0 then x else if y ≠ 0 then y else z
theorem or_any (x y z : Int) (b : Nat) (w : World) (h0 : w.cell? ⟨b, 0, none⟩ = some (.int .i64 x)) (h1 : w.cell? ⟨b, 1, none⟩ = some (.int .i64 y)) (h2 : w.cell? ⟨b, 2, none⟩ = some (.int .i64 z)) :
    Calls Try.prog 51 #[.slice (some ⟨b, 0, none⟩) 3 3] w fun e w' => e = .returned (.int .i64 (or3 x y z)) ∧ w = w' := by
  have hc : ((x != 0) = true ∧ or3 x y z = x) ∨ ((x != 0) = false ∧ (y != 0) = true ∧ or3 x y z = y) ∨ ((x != 0) = false ∧ (y != 0) = false ∧ (z != 0) = true ∧ or3 x y z = z) ∨ ((x != 0) = false ∧ (y != 0) = false ∧ (z != 0) = false ∧ or3 x y z = 0) := by
    unfold or3
    by_cases a1 : x = 0 <;> by_cases a2 : y = 0 <;> by_cases a3 : z = 0 <;> simp [a1, a2, a3]
  rcases hc with ⟨d1, h⟩ | ⟨d1, d2, h⟩ | ⟨d1, d2, d3, h⟩ | ⟨d1, d2, d3, h⟩ <;> rw [h]
  all_goals
    go_enter Try.func51, Try.ntmps51
    go_wp2
    refine wp_loop_rounds 4 ?_; rw [rounds_succ]
    go_wp2
    all_goals try rw [rounds_succ]
    all_goals go_wp2
    all_goals try rw [rounds_succ]
    all_goals go_wp2
    all_goals try rw [rounds_succ]
    all_goals go_wp2
    all_goals (go_ret; exact ⟨rfl, rfl⟩)
theorem nanu_any (x : Int) (w : World) : Calls Try.prog 72 #[.int .u64 x] w fun e w' => e = .returned (.bool false) ∧ w = w' := by
  have h : (x != x) = false := by simp
  go_enter Try.func72, Try.ntmps72
  go_wp2
  go_ret
  exact ⟨rfl, rfl⟩
theorem cmpu_any (x y : Int) (w : World) : Calls Try.prog 67 #[.int .u64 x, .int .u64 y] w fun e w' => e = .returned (.int .i64 (cmpI x y)) ∧ w = w' := by
  have hc : (x < y ∧ cmpI x y = -1) ∨ (¬ x < y ∧ y < x ∧ cmpI x y = 1) ∨ (¬ x < y ∧ ¬ y < x ∧ cmpI x y = 0) := by
    unfold cmpI
    by_cases h1 : x < y <;> by_cases h2 : y < x <;> simp [h1, h2]
  rcases hc with ⟨h1, h⟩ | ⟨h1, h2, h⟩ | ⟨h1, h2, h⟩
  · rw [h]
    have d1 := yb h1
    go_enter Try.func67, Try.ntmps67
    go_wp2_with (go_at_call 72; refine (nanu_any _ _).mono ?_; rintro e w1 ⟨rfl, rfl⟩)
    go_ret
    exact ⟨rfl, rfl⟩
  · rw [h]
    have d1 := nb h1; have d2 := yb h2
    go_enter Try.func67, Try.ntmps67
    go_wp2_with (go_at_call 72; refine (nanu_any _ _).mono ?_; rintro e w1 ⟨rfl, rfl⟩)
    go_ret
    exact ⟨rfl, rfl⟩
  · rw [h]
    have d1 := nb h1; have d2 := nb h2
    go_enter Try.func67, Try.ntmps67
    go_wp2_with (go_at_call 72; refine (nanu_any _ _).mono ?_; rintro e w1 ⟨rfl, rfl⟩)
    go_ret
    exact ⟨rfl, rfl⟩

abbrev Tm.v (t : Tm) : Value := .agg #[.int .i64 t.tk, .int .i64 t.kd, .int .i64 t.nd, .int .u64 t.sq, .int .i64 t.of]
abbrev Tm.iv (t : Tm) : Value := .agg #[.int .i64 t.nd, .int .u64 t.sq, .int .i64 t.of]
def cmpD (a b : Tm) : Int := or3 (cmpI a.nd b.nd) (cmpI a.sq b.sq) (cmpI a.of b.of)
def cmpT (a b : Tm) : Int := or3 (cmpI a.tk b.tk) (cmpI a.kd b.kd) (cmpD a b)
theorem cmpI_cases (x y : Int) : (x < y ∧ cmpI x y = -1) ∨ (y < x ∧ cmpI x y = 1) ∨ (x = y ∧ cmpI x y = 0) := by
  unfold cmpI
  by_cases h1 : x < y
  · left; exact ⟨h1, by rw [if_pos h1]⟩
  · by_cases h2 : y < x
    · right; left; exact ⟨h2, by rw [if_neg h1, if_pos h2]⟩
    · right; right; exact ⟨by omega, by rw [if_neg h1, if_neg h2]⟩
theorem lex_neg (x y r : Int) : (if cmpI x y ≠ 0 then cmpI x y else r) < 0 ↔ x < y ∨ x = y ∧ r < 0 := by
  rcases cmpI_cases x y with ⟨h, e⟩ | ⟨h, e⟩ | ⟨h, e⟩
  · rw [e, if_pos (by decide)]
    exact ⟨fun _ => .inl h, fun _ => by decide⟩
  · rw [e, if_pos (by decide)]
    exact ⟨fun h1 => absurd h1 (by decide), fun h1 => by omega⟩
  · rw [e, if_neg (by decide)]
    exact ⟨fun h1 => .inr ⟨h, h1⟩, fun h1 => by omega⟩
theorem cmpI_neg (x y : Int) : cmpI x y < 0 ↔ x < y := by
  rcases cmpI_cases x y with ⟨h, e⟩ | ⟨h, e⟩ | ⟨h, e⟩ <;> rw [e]
  · exact ⟨fun _ => h, fun _ => by decide⟩
  · exact ⟨fun h1 => absurd h1 (by decide), fun h1 => by omega⟩
  · exact ⟨fun h1 => absurd h1 (by decide), fun h1 => by omega⟩
theorem cmpT_lt (a b : Tm) : cmpT a b < 0 ↔ ltT a b := by
  unfold cmpT cmpD or3 ltT
  rw [lex_neg, lex_neg, lex_neg, lex_neg, cmpI_neg]
theorem or3_cells (w : World) (T : TypeId) (x y z : Int) : (w.alloc (.cells #[.int .i64 x, .int .i64 y, .int .i64 z] T)).cell? ⟨w.heap.size, 0, none⟩ = some (.int .i64 x) ∧ (w.alloc (.cells #[.int .i64 x, .int .i64 y, .int .i64 z] T)).cell? ⟨w.heap.size, 1, none⟩ = some (.int .i64 y) ∧ (w.alloc (.cells #[.int .i64 x, .int .i64 y, .int .i64 z] T)).cell? ⟨w.heap.size, 2, none⟩ = some (.int .i64 z) := by
  have := BoxN.new w T #[.int .i64 x, .int .i64 y, .int .i64 z]
  exact ⟨this.cell 0, this.cell 1, this.cell 2⟩
set_option maxHeartbeats 2000000 in
theorem bcompare_any (a b : Tm) (w : World) : Calls Try.prog 53 #[a.iv, b.iv] w fun e w' => e = .returned (.int .i64 (cmpD a b)) ∧ Below w.heap.size w w' := by
  obtain ⟨W, hW⟩ : ∃ W : World, W = (w.alloc (.cells #[.int .i64 a.nd, .int .u64 a.sq, .int .i64 a.of] 39)).alloc (.cells #[.int .i64 b.nd, .int .u64 b.sq, .int .i64 b.of] 39) := ⟨_, rfl⟩
  have hB : Below w.heap.size w W := by rw [hW]; exact (by repeat (first | assumption | exact Below.refl _ _ | apply Below.al | apply below_drewN | apply Below.drew | refine Below.next ?_ (by assumption)))
  have bA : BoxN W w.heap.size 39 #[.int .i64 a.nd, .int .u64 a.sq, .int .i64 a.of] := by rw [hW]; exact (BoxN.new w _ _).below (Below.al (Below.refl _ _) _)
  have bB : BoxN W (w.heap.size + 1) 39 #[.int .i64 b.nd, .int .u64 b.sq, .int .i64 b.of] := by
    rw [hW]
    have := BoxN.new (w.alloc (.cells #[.int .i64 a.nd, .int .u64 a.sq, .int .i64 a.of] 39)) 39 #[.int .i64 b.nd, .int .u64 b.sq, .int .i64 b.of]
    simpa using this
  have a0 : W.cell? ⟨w.heap.size, 0, none⟩ = some (.int .i64 a.nd) := bA.cell 0
  have a1 : W.cell? ⟨w.heap.size, 1, none⟩ = some (.int .u64 a.sq) := bA.cell 1
  have a2 : W.cell? ⟨w.heap.size, 2, none⟩ = some (.int .i64 a.of) := bA.cell 2
  have b0 : W.cell? ⟨w.heap.size + 1, 0, none⟩ = some (.int .i64 b.nd) := bB.cell 0
  have b1 : W.cell? ⟨w.heap.size + 1, 1, none⟩ = some (.int .u64 b.sq) := bB.cell 1
  have b2 : W.cell? ⟨w.heap.size + 1, 2, none⟩ = some (.int .i64 b.of) := bB.cell 2
  clear bA bB
  go_enter Try.func53, Try.ntmps53
  go_upto_region 1 with fail
  rw [← hW]
  clear hW
  refine wp_region_noPanic ?_
  refine wp_region_held_drew (S := (fun w' => Below W.heap.size W w')) (by kernel_rfl) ((Below.refl _ W).drew) (fun hHeld => ?_)
  refine reg_tk (v := ?_) 0 5 rfl rfl (by kernel_rfl) (by kernel_rfl) (by kernel_rfl) (fun _ _ _ h => h) (by rfl) ?_ (by assumption) ?_
  rotate_left
  · (intro w hSw; (try dsimp only at hSw); go_simp; (try with_reducible rfl))
  simp only [List.setIfInBounds_toArray, List.set_cons_zero, List.set_cons_succ]
  refine reg_tk (v := .int .i64 a.nd) 1 6 rfl rfl (by kernel_rfl) (by kernel_rfl) (by kernel_rfl) (fun _ _ _ h => h) (by rfl) (fun w3 hS => by have g := cell_later hS a0; go_simp) (by assumption) ?_
  simp only [List.setIfInBounds_toArray, List.set_cons_zero, List.set_cons_succ]
  refine reg_tk (v := ?_) 2 7 rfl rfl (by kernel_rfl) (by kernel_rfl) (by kernel_rfl) (fun _ _ _ h => h) (by rfl) ?_ (by assumption) ?_
  rotate_left
  · (intro w hSw; (try dsimp only at hSw); go_simp; (try with_reducible rfl))
  simp only [List.setIfInBounds_toArray, List.set_cons_zero, List.set_cons_succ]
  refine reg_tk (v := .int .i64 b.nd) 3 8 rfl rfl (by kernel_rfl) (by kernel_rfl) (by kernel_rfl) (fun _ _ _ h => h) (by rfl) (fun w3 hS => by have g := cell_later hS b0; go_simp) (by assumption) ?_
  simp only [List.setIfInBounds_toArray, List.set_cons_zero, List.set_cons_succ]
  refine reg_call 4 9 52 (v := .int .i64 (cmpI a.nd b.nd)) (args := #[.int .i64 a.nd, .int .i64 b.nd]) rfl rfl (by kernel_rfl) (by kernel_rfl) (by kernel_rfl) (fun _ _ _ h => h) (by rfl) (fun w3 hS => by go_simp) (fun w3 hS => (cmp_any _ _ _).mono (by rintro e w4 ⟨rfl, rfl⟩; exact ⟨rfl, rfl⟩)) (by assumption) ?_
  simp only [List.setIfInBounds_toArray, List.set_cons_zero, List.set_cons_succ]
  refine reg_tk (v := ?_) 5 10 rfl rfl (by kernel_rfl) (by kernel_rfl) (by kernel_rfl) (fun _ _ _ h => h) (by rfl) ?_ (by assumption) ?_
  rotate_left
  · (intro w hSw; (try dsimp only at hSw); go_simp; (try with_reducible rfl))
  simp only [List.setIfInBounds_toArray, List.set_cons_zero, List.set_cons_succ]
  refine reg_tk (v := .int .u64 a.sq) 6 11 rfl rfl (by kernel_rfl) (by kernel_rfl) (by kernel_rfl) (fun _ _ _ h => h) (by rfl) (fun w3 hS => by have g := cell_later hS a1; go_simp) (by assumption) ?_
  simp only [List.setIfInBounds_toArray, List.set_cons_zero, List.set_cons_succ]
  refine reg_tk (v := ?_) 7 12 rfl rfl (by kernel_rfl) (by kernel_rfl) (by kernel_rfl) (fun _ _ _ h => h) (by rfl) ?_ (by assumption) ?_
  rotate_left
  · (intro w hSw; (try dsimp only at hSw); go_simp; (try with_reducible rfl))
  simp only [List.setIfInBounds_toArray, List.set_cons_zero, List.set_cons_succ]
  refine reg_tk (v := .int .u64 b.sq) 8 13 rfl rfl (by kernel_rfl) (by kernel_rfl) (by kernel_rfl) (fun _ _ _ h => h) (by rfl) (fun w3 hS => by have g := cell_later hS b1; go_simp) (by assumption) ?_
  simp only [List.setIfInBounds_toArray, List.set_cons_zero, List.set_cons_succ]
  refine reg_call 9 14 67 (v := .int .i64 (cmpI a.sq b.sq)) (args := #[.int .u64 a.sq, .int .u64 b.sq]) rfl rfl (by kernel_rfl) (by kernel_rfl) (by kernel_rfl) (fun _ _ _ h => h) (by rfl) (fun w3 hS => by go_simp) (fun w3 hS => (cmpu_any _ _ _).mono (by rintro e w4 ⟨rfl, rfl⟩; exact ⟨rfl, rfl⟩)) (by assumption) ?_
  simp only [List.setIfInBounds_toArray, List.set_cons_zero, List.set_cons_succ]
  refine reg_tk (v := ?_) 10 15 rfl rfl (by kernel_rfl) (by kernel_rfl) (by kernel_rfl) (fun _ _ _ h => h) (by rfl) ?_ (by assumption) ?_
  rotate_left
  · (intro w hSw; (try dsimp only at hSw); go_simp; (try with_reducible rfl))
  simp only [List.setIfInBounds_toArray, List.set_cons_zero, List.set_cons_succ]
  refine reg_tk (v := .int .i64 a.of) 11 16 rfl rfl (by kernel_rfl) (by kernel_rfl) (by kernel_rfl) (fun _ _ _ h => h) (by rfl) (fun w3 hS => by have g := cell_later hS a2; go_simp) (by assumption) ?_
  simp only [List.setIfInBounds_toArray, List.set_cons_zero, List.set_cons_succ]
  refine reg_tk (v := ?_) 12 17 rfl rfl (by kernel_rfl) (by kernel_rfl) (by kernel_rfl) (fun _ _ _ h => h) (by rfl) ?_ (by assumption) ?_
  rotate_left
  · (intro w hSw; (try dsimp only at hSw); go_simp; (try with_reducible rfl))
  simp only [List.setIfInBounds_toArray, List.set_cons_zero, List.set_cons_succ]
  refine reg_tk (v := .int .i64 b.of) 13 18 rfl rfl (by kernel_rfl) (by kernel_rfl) (by kernel_rfl) (fun _ _ _ h => h) (by rfl) (fun w3 hS => by have g := cell_later hS b2; go_simp) (by assumption) ?_
  simp only [List.setIfInBounds_toArray, List.set_cons_zero, List.set_cons_succ]
  refine reg_call 14 19 52 (v := .int .i64 (cmpI a.of b.of)) (args := #[.int .i64 a.of, .int .i64 b.of]) rfl rfl (by kernel_rfl) (by kernel_rfl) (by kernel_rfl) (fun _ _ _ h => h) (by rfl) (fun w3 hS => by go_simp) (fun w3 hS => (cmp_any _ _ _).mono (by rintro e w4 ⟨rfl, rfl⟩; exact ⟨rfl, rfl⟩)) (by assumption) ?_
  simp only [List.setIfInBounds_toArray, List.set_cons_zero, List.set_cons_succ]
  refine wpAnyH_ready (rs := [15]) (by kernel_rfl) (by simp) ?_
  refine AllReadyH.cons rfl (fun K hK => ?_) AllReadyH.nil
  go_simp
  obtain ⟨k0, k1, k2⟩ := or3_cells W.drew 3 (cmpI a.nd b.nd) (cmpI a.sq b.sq) (cmpI a.of b.of)
  refine hK.out _ _ (Below.al hHeld _) (fun hHeld2 => ?_)
  clear hK K hHeld
  have hHeld := hHeld2
  clear hHeld2
  try simp only [Act.put, List.setIfInBounds_toArray, List.set_cons_zero, List.set_cons_succ]
  refine wpAnyH_ready (rs := [16]) (by kernel_rfl) (by simp) ?_
  refine AllReadyH.cons rfl (fun K hK => ?_) AllReadyH.nil
  go_simp
  refine (or_any (cmpI a.nd b.nd) (cmpI a.sq b.sq) (cmpI a.of b.of) _ _ k0 k1 k2).mono ?_
  rintro e w3 ⟨rfl, rfl⟩
  refine hK.out _ _ hHeld (fun hHeld2 => ?_)
  clear hK K hHeld
  have hHeld := hHeld2
  clear hHeld2
  try simp only [Act.put, List.setIfInBounds_toArray, List.set_cons_zero, List.set_cons_succ]
  refine reg_tk (v := ?_) 17 4 rfl rfl (by kernel_rfl) (by kernel_rfl) (by kernel_rfl) (fun _ _ _ h => h) (by rfl) ?_ (by assumption) ?_
  rotate_left
  · (intro w hSw; (try dsimp only at hSw); go_simp; (try with_reducible rfl))
  simp only [List.setIfInBounds_toArray, List.set_cons_zero, List.set_cons_succ]
  refine wpAnyH_done (by kernel_rfl) ?_ _
  refine NoPanic.normal ?_
  go_wp2_with fail
  go_ret
  exact ⟨rfl, Below.next hB hHeld⟩
end Go.Proofs.Ytigmhglkohjlhaa
