

/- Links: the laws' helpers. -/
import Derived.Test.YtimkeafpefkheaaDoorU
namespace Go.Proofs.YtimkeafpefkheaaDoor
open Go.RowKit
set_option linter.unusedSimpArgs false
set_option linter.unusedVariables false
set_option maxRecDepth 100000

/-- the three frames of the examples -/
def threeL : List Fr := [⟨#[97]⟩, ⟨#[98, 99]⟩, ⟨#[100, 101, 102]⟩]
theorem three_any (w : World) : Calls Tryd.prog 25 #[] w fun x w' => ∃ v, x = .returned v ∧ RdT w' v threeL ∧ Below w.heap.size w w' := by
  go_enter Tryd.func25, Tryd.ntmps25
  go_wp2_with fail
  go_ret
  refine ⟨_, rfl, ?_, (by repeat (first | assumption | exact Below.refl _ _ | apply Below.al | apply below_drewN | apply Below.drew | refine Below.next ?_ (by assumption)))⟩
  refine ⟨rfl, by decide, .inr ⟨w.heap.size, 0, 3, rfl, by decide, fun j u hj => ?_⟩⟩
  rw [(BoxN.new w _ _).cell]
  match j, hj with
  | 0, hj => simpa [tcs, threeL] using hj
  | 1, hj => simpa [tcs, threeL] using hj
  | 2, hj => simpa [tcs, threeL] using hj
  | j + 3, hj => simp [tcs, threeL] at hj
theorem threeSz : Szs threeL := by
  intro s hs
  simp [threeL] at hs
  rcases hs with rfl | rfl | rfl <;> decide
set_option maxHeartbeats 1000000 in
theorem fails_any (t : Tr) (hk : Ib t.k) (hi : Ib t.i) (w : World) (hkd : KD w) : Calls Tryd.prog 26 #[t.v] w fun x w' => x = .returned (.int .i64 (apE threeL t)) ∧ Below w.heap.size w w' := by
  obtain ⟨W, hW⟩ : ∃ W : World, W = w.alloc (.cells #[.int .i64 t.k, .int .i64 t.i, .int .i64 t.j, .int .i64 t.b] 36) := ⟨_, rfl⟩
  have hB : Below w.heap.size w W := by rw [hW]; exact (by repeat (first | assumption | exact Below.refl _ _ | apply Below.al | apply below_drewN | apply Below.drew | refine Below.next ?_ (by assumption)))
  have b0 : BoxN W w.heap.size 36 #[.int .i64 t.k, .int .i64 t.i, .int .i64 t.j, .int .i64 t.b] := by rw [hW]; exact BoxN.new w _ _
  have t0 : W.cell? ⟨w.heap.size, 0, none⟩ = some (.int .i64 t.k) := b0.cell 0
  have t1 : W.cell? ⟨w.heap.size, 1, none⟩ = some (.int .i64 t.i) := b0.cell 1
  have t2 : W.cell? ⟨w.heap.size, 2, none⟩ = some (.int .i64 t.j) := b0.cell 2
  have t3 : W.cell? ⟨w.heap.size, 3, none⟩ = some (.int .i64 t.b) := b0.cell 3
  have HKD := Lib.hid (hkd.keep hB)
  clear b0 hkd
  go_enter Tryd.func26, Tryd.ntmps26
  go_upto_region 1 with fail
  rw [← hW]
  clear hW
  refine wp_region_noPanic ?_
  refine wp_region_held_drew (S := (fun w' => Below W.heap.size W w')) (by kernel_rfl) (Below.refl _ W).drew (fun hHeld => ?_)
  refine reg_tk (v := t.v) 1 7 rfl rfl (by kernel_rfl) (by kernel_rfl) (by kernel_rfl) (fun _ _ _ h => h) (by rfl) (fun w3 hS => by (have g0 := cell_later hS t0; have g1 := cell_later hS t1; have g2 := cell_later hS t2; have g3 := cell_later hS t3); go_simp) (by assumption) ?_
  simp only [List.setIfInBounds_toArray, List.set_cons_zero, List.set_cons_succ]
  refine wpAnyH_ready (rs := [0]) (by kernel_rfl) (by simp) ?_
  refine AllReadyH.cons rfl (fun K hK => ?_) AllReadyH.nil
  go_simp
  refine (three_any _).mono ?_
  rintro x w1 ⟨v1, rfl, hrd, hb1⟩
  have hB1 := Below.next hHeld hb1
  have HRD := Lib.hid hrd
  clear hrd hb1
  refine hK.out _ _ hB1 (fun hHeld2 => ?_)
  clear hK K hHeld
  have hHeld := hHeld2
  clear hHeld2
  try simp only [Act.put, List.setIfInBounds_toArray, List.set_cons_zero, List.set_cons_succ]
  refine wpAnyH_ready (rs := [2]) (by kernel_rfl) (by simp) ?_
  refine AllReadyH.cons rfl (fun K hK => ?_) AllReadyH.nil
  go_simp
  refine (apply_any v1 threeL threeSz t hk hi _ (HKD.out.keep hHeld) HRD.out).mono ?_
  rintro x w2 ⟨v2, rfl, _, hb2⟩
  have hB2 := Below.next hHeld hb2
  clear hb2
  refine hK.out _ _ hB2 (fun hHeld2 => ?_)
  clear hK K hHeld
  have hHeld := hHeld2
  clear hHeld2
  try simp only [Act.put, List.setIfInBounds_toArray, List.set_cons_zero, List.set_cons_succ]
  refine reg_tk (v := ?_) 3 5 rfl rfl (by kernel_rfl) (by kernel_rfl) (by kernel_rfl) (fun _ _ _ h => h) (by rfl) ?_ (by assumption) ?_
  rotate_left
  · (intro w hSw; (try dsimp only at hSw); go_simp; (try with_reducible rfl))
  simp only [List.setIfInBounds_toArray, List.set_cons_zero, List.set_cons_succ]
  refine reg_tk (v := ?_) 4 9 rfl rfl (by kernel_rfl) (by kernel_rfl) (by kernel_rfl) (fun _ _ _ h => h) (by rfl) ?_ (by assumption) ?_
  rotate_left
  · (intro w hSw; (try dsimp only at hSw); go_simp; (try with_reducible rfl))
  simp only [List.setIfInBounds_toArray, List.set_cons_zero, List.set_cons_succ]
  refine reg_tk (v := ?_) 5 10 rfl rfl (by kernel_rfl) (by kernel_rfl) (by kernel_rfl) (fun _ _ _ h => h) (by rfl) ?_ (by assumption) ?_
  rotate_left
  · (intro w hSw; (try dsimp only at hSw); go_simp; (try with_reducible rfl))
  simp only [List.setIfInBounds_toArray, List.set_cons_zero, List.set_cons_succ]
  refine reg_tk (v := ?_) 6 3 rfl rfl (by kernel_rfl) (by kernel_rfl) (by kernel_rfl) (fun _ _ _ h => h) (by rfl) ?_ (by assumption) ?_
  rotate_left
  · (intro w hSw; (try dsimp only at hSw); go_simp; (try with_reducible rfl))
  simp only [List.setIfInBounds_toArray, List.set_cons_zero, List.set_cons_succ]
  refine reg_tk (v := ?_) 7 4 rfl rfl (by kernel_rfl) (by kernel_rfl) (by kernel_rfl) (fun _ _ _ h => h) (by rfl) ?_ (by assumption) ?_
  rotate_left
  · (intro w hSw; (try dsimp only at hSw); go_simp; (try with_reducible rfl))
  simp only [List.setIfInBounds_toArray, List.set_cons_zero, List.set_cons_succ]
  refine wpAnyH_done (by kernel_rfl) ?_ _
  refine NoPanic.normal ?_
  clear hHeld
  go_wp2_with fail
  go_ret
  exact ⟨rfl, Below.next hB hB2⟩
set_option maxHeartbeats 1000000 in
theorem makes_any (t : Tr) (hk : Ib t.k) (hi : Ib t.i) (u : Value) (l : List Fr) (he : apE threeL t = 0) (hl : apL threeL t = l) (hl2 : l.length ≤ 1000000) (w : World) (hkd : KD w) (h : RdT w u l) : Calls Tryd.prog 24 #[t.v, u] w fun x w' => x = .returned (.bool true) ∧ Below w.heap.size w w' := by
  obtain ⟨W, hW⟩ : ∃ W : World, W = w.alloc (.cells #[.int .i64 t.k, .int .i64 t.i, .int .i64 t.j, .int .i64 t.b] 36) := ⟨_, rfl⟩
  have hB : Below w.heap.size w W := by rw [hW]; exact (by repeat (first | assumption | exact Below.refl _ _ | apply Below.al | apply below_drewN | apply Below.drew | refine Below.next ?_ (by assumption)))
  have b0 : BoxN W w.heap.size 36 #[.int .i64 t.k, .int .i64 t.i, .int .i64 t.j, .int .i64 t.b] := by rw [hW]; exact BoxN.new w _ _
  have t0 : W.cell? ⟨w.heap.size, 0, none⟩ = some (.int .i64 t.k) := b0.cell 0
  have t1 : W.cell? ⟨w.heap.size, 1, none⟩ = some (.int .i64 t.i) := b0.cell 1
  have t2 : W.cell? ⟨w.heap.size, 2, none⟩ = some (.int .i64 t.j) := b0.cell 2
  have t3 : W.cell? ⟨w.heap.size, 3, none⟩ = some (.int .i64 t.b) := b0.cell 3
  have HKD := Lib.hid (hkd.keep hB)
  have HU := Lib.hid (h.keep hB)
  have HE := Lib.hid he
  have HL := Lib.hid hl
  clear b0 hkd h he hl
  go_enter Tryd.func24, Tryd.ntmps24
  go_upto_region 1 with fail
  rw [← hW]
  clear hW
  refine wp_region_noPanic ?_
  refine wp_region_held_drew (S := (fun w' => Below W.heap.size W w')) (by kernel_rfl) (Below.refl _ W).drew (fun hHeld => ?_)
  refine reg_tk (v := t.v) 1 9 rfl rfl (by kernel_rfl) (by kernel_rfl) (by kernel_rfl) (fun _ _ _ h => h) (by rfl) (fun w3 hS => by (have g0 := cell_later hS t0; have g1 := cell_later hS t1; have g2 := cell_later hS t2; have g3 := cell_later hS t3); go_simp) (by assumption) ?_
  simp only [List.setIfInBounds_toArray, List.set_cons_zero, List.set_cons_succ]
  refine wpAnyH_ready (rs := [0]) (by kernel_rfl) (by simp) ?_
  refine AllReadyH.cons rfl (fun K hK => ?_) AllReadyH.nil
  go_simp
  refine (three_any _).mono ?_
  rintro x w1 ⟨v1, rfl, hrd, hb1⟩
  have hB1 := Below.next hHeld hb1
  have HRD := Lib.hid hrd
  clear hrd hb1
  refine hK.out _ _ hB1 (fun hHeld2 => ?_)
  clear hK K hHeld
  have hHeld := hHeld2
  clear hHeld2
  try simp only [Act.put, List.setIfInBounds_toArray, List.set_cons_zero, List.set_cons_succ]
  refine wpAnyH_ready (rs := [2]) (by kernel_rfl) (by simp) ?_
  refine AllReadyH.cons rfl (fun K hK => ?_) AllReadyH.nil
  go_simp
  refine (apply_any v1 threeL threeSz t hk hi _ (HKD.out.keep hHeld) HRD.out).mono ?_
  rintro x w2 ⟨v2, rfl, hr2, hb2⟩
  rw [HE.out] at hr2 ⊢
  rw [if_pos rfl, HL.out] at hr2
  have hB2 := Below.next hHeld hb2
  have HR2 := Lib.hid hr2
  clear hb2 hr2
  refine hK.out _ _ hB2 (fun hHeld2 => ?_)
  clear hK K hHeld
  have hHeld := hHeld2
  clear hHeld2
  try simp only [Act.put, List.setIfInBounds_toArray, List.set_cons_zero, List.set_cons_succ]
  refine reg_tk (v := ?_) 3 7 rfl rfl (by kernel_rfl) (by kernel_rfl) (by kernel_rfl) (fun _ _ _ h => h) (by rfl) ?_ (by assumption) ?_
  rotate_left
  · (intro w hSw; (try dsimp only at hSw); go_simp; (try with_reducible rfl))
  simp only [List.setIfInBounds_toArray, List.set_cons_zero, List.set_cons_succ]
  refine reg_tk (v := ?_) 4 11 rfl rfl (by kernel_rfl) (by kernel_rfl) (by kernel_rfl) (fun _ _ _ h => h) (by rfl) ?_ (by assumption) ?_
  rotate_left
  · (intro w hSw; (try dsimp only at hSw); go_simp; (try with_reducible rfl))
  simp only [List.setIfInBounds_toArray, List.set_cons_zero, List.set_cons_succ]
  refine reg_tk (v := ?_) 5 12 rfl rfl (by kernel_rfl) (by kernel_rfl) (by kernel_rfl) (fun _ _ _ h => h) (by rfl) ?_ (by assumption) ?_
  rotate_left
  · (intro w hSw; (try dsimp only at hSw); go_simp; (try with_reducible rfl))
  simp only [List.setIfInBounds_toArray, List.set_cons_zero, List.set_cons_succ]
  refine reg_tk (v := ?_) 6 5 rfl rfl (by kernel_rfl) (by kernel_rfl) (by kernel_rfl) (fun _ _ _ h => h) (by rfl) ?_ (by assumption) ?_
  rotate_left
  · (intro w hSw; (try dsimp only at hSw); go_simp; (try with_reducible rfl))
  simp only [List.setIfInBounds_toArray, List.set_cons_zero, List.set_cons_succ]
  refine reg_tk (v := ?_) 7 6 rfl rfl (by kernel_rfl) (by kernel_rfl) (by kernel_rfl) (fun _ _ _ h => h) (by rfl) ?_ (by assumption) ?_
  rotate_left
  · (intro w hSw; (try dsimp only at hSw); go_simp; (try with_reducible rfl))
  simp only [List.setIfInBounds_toArray, List.set_cons_zero, List.set_cons_succ]
  refine wpAnyH_done (by kernel_rfl) ?_ _
  refine NoPanic.normal ?_
  clear hHeld
  go_wp2_with fail
  refine (sameTexts_eq _ _ l hl2 _ HR2.out (HU.out.keep hB2)).mono ?_
  rintro x w3 ⟨rfl, hb3⟩
  go_wp2_with fail
  go_ret
  first
    | exact ⟨rfl, Below.next hB (Below.next hB2 hb3)⟩
    | (subst hb3; exact ⟨rfl, Below.next hB hB2⟩)
end Go.Proofs.YtimkeafpefkheaaDoor
