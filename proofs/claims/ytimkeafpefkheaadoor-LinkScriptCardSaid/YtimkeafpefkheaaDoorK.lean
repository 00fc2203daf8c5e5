

/- Links: a fault happens (the program's text). -/
import Derived.Test.YtimkeafpefkheaaDoorJ
import Derived.Test.YtimkeafpefkheaaDoorE
namespace Go.Proofs.YtimkeafpefkheaaDoor
open Go.RowKit
set_option linter.unusedSimpArgs false
set_option linter.unusedVariables false
set_option maxRecDepth 100000

/-- what Apply has returned -/
def ApR (w : World) (l : List Fr) (t : Tr) (x : Ending) (w' : World) : Prop := ∃ v, x = .returned (.tuple #[v, .int .i64 (apE l t)]) ∧ RdT w' v (if apE l t = 0 then apL l t else []) ∧ Below w.heap.size w w'
set_option maxHeartbeats 6000000 in
theorem apply_any (v : Value) (l : List Fr) (hz : Szs l) (t : Tr) (hk : Ib t.k) (hi : Ib t.i) (w : World) (hkd : KD w) (h : RdT w v l) :
    Calls Tryd.prog 20 #[v, t.v] w (ApR w l t) := by
  obtain ⟨e, n, hen⟩ : ∃ e n, chkL l = (e, n) := ⟨_, _, rfl⟩
  have HEN := Lib.hid hen
  have HR := Lib.hid h
  have HZ := Lib.hid hz
  clear h hz
  unfold ApR apE
  rw [hen]
  clear hen
  dsimp only
  by_cases h1 : e = 0
  · obtain rfl := h1
    rw [if_neg (by simp)]
    have hcz := chkL_zero (l := l) (by rw [HEN.out])
    obtain ⟨a0, n0, rfl⟩ := HR.out.form
    obtain ⟨N, hN⟩ : ∃ N, l.length = N := ⟨_, rfl⟩
    have HN := Lib.hid hN
    have HR2 : Hid (RdT w (.slice a0 N n0) l) := by unfold Hid; rw [← hN]; exact HR.out
    have HSZ : Hid (∀ j, j < l.length → (l.getD j e0).size ≤ 1200) := fun j hj => (hcz.2 j hj).2
    have hl := hcz.1
    rw [hN] at hl ⊢
    clear HR hN hcz
    obtain ⟨W, hW⟩ : ∃ W : World, W = w.alloc (.cells #[.int .i64 t.k, .int .i64 t.i, .int .i64 t.j, .int .i64 t.b] 36) := ⟨_, rfl⟩
    have hB : Below w.heap.size w W := by rw [hW]; exact (by repeat (first | assumption | exact Below.refl _ _ | apply Below.al | apply below_drewN | apply Below.drew | refine Below.next ?_ (by assumption)))
    have b0 : BoxN W w.heap.size 36 #[.int .i64 t.k, .int .i64 t.i, .int .i64 t.j, .int .i64 t.b] := by rw [hW]; exact BoxN.new w _ _
    have t0 : W.cell? ⟨w.heap.size, 0, none⟩ = some (.int .i64 t.k) := b0.cell 0
    have t1 : W.cell? ⟨w.heap.size, 1, none⟩ = some (.int .i64 t.i) := b0.cell 1
    have t2 : W.cell? ⟨w.heap.size, 2, none⟩ = some (.int .i64 t.j) := b0.cell 2
    have t3 : W.cell? ⟨w.heap.size, 3, none⟩ = some (.int .i64 t.b) := b0.cell 3
    have HRW := Lib.hid (HR2.out.keep hB)
    clear b0
    by_cases c1 : t.k < 1 ∨ 5 < t.k
    · rw [if_pos c1, if_neg (by decide)]
      by_cases c2 : t.k < 1
      · have d2 : decide (t.k < 1) = true := yb c2
        clear c1 c2
        go_enter Tryd.func20, Tryd.ntmps20
        go_upto_region 1 with fail
        rw [← hW]
        clear hW
        go_wp2_with fail
        refine (check_is _ l HZ.out 0 n HEN.out _ HRW.out).mono ?_
        rintro x w1 ⟨rfl, rfl⟩
        go_wp2_with fail
        go_ret2
        exact ⟨_, rfl, RdT.nil _, hB⟩
      · have d2 : decide (t.k < 1) = false := nb c2
        have d3 : decide (5 < t.k) = true := yb (by omega)
        clear c1 c2
        go_enter Tryd.func20, Tryd.ntmps20
        go_upto_region 1 with fail
        rw [← hW]
        clear hW
        go_wp2_with fail
        refine (check_is _ l HZ.out 0 n HEN.out _ HRW.out).mono ?_
        rintro x w1 ⟨rfl, rfl⟩
        go_wp2_with fail
        go_ret2
        exact ⟨_, rfl, RdT.nil _, hB⟩
    · rw [if_neg c1]
      have d2 : decide (t.k < 1) = false := nb (by omega)
      have d3 : decide (5 < t.k) = false := nb (by omega)
      by_cases c4 : t.i < 0 ∨ (N : Int) ≤ t.i
      · rw [if_pos c4, if_neg (by decide)]
        by_cases c5 : t.i < 0
        · have d4 : decide (t.i < 0) = true := yb c5
          clear c1 c4 c5
          go_enter Tryd.func20, Tryd.ntmps20
          go_upto_region 1 with fail
          rw [← hW]
          clear hW
          go_wp2_with fail
          refine (check_is _ l HZ.out 0 n HEN.out _ HRW.out).mono ?_
          rintro x w1 ⟨rfl, rfl⟩
          go_wp2_with fail
          go_ret2
          exact ⟨_, rfl, RdT.nil _, hB⟩
        · have d4 : decide (t.i < 0) = false := nb c5
          have d5 : decide ((N : Int) ≤ t.i) = true := yb (by omega)
          clear c1 c4 c5
          go_enter Tryd.func20, Tryd.ntmps20
          go_upto_region 1 with fail
          rw [← hW]
          clear hW
          go_wp2_with fail
          refine (check_is _ l HZ.out 0 n HEN.out _ HRW.out).mono ?_
          rintro x w1 ⟨rfl, rfl⟩
          go_wp2_with fail
          go_ret2
          exact ⟨_, rfl, RdT.nil _, hB⟩
      · rw [if_neg c4]
        have d4 : decide (t.i < 0) = false := nb (by omega)
        have d5 : decide ((N : Int) ≤ t.i) = false := nb (by omega)
        by_cases c6 : t.k = 2 ∧ N = 64
        · rw [if_pos c6, if_neg (by decide)]
          have d6 : (t.k == 2) = true := by simp [c6.1]
          have d7 : ((N : Int) == 64) = true := by simp [c6.2]
          clear c1 c4 c6
          go_enter Tryd.func20, Tryd.ntmps20
          go_upto_region 1 with fail
          rw [← hW]
          clear hW
          go_wp2_with fail
          refine (check_is _ l HZ.out 0 n HEN.out _ HRW.out).mono ?_
          rintro x w1 ⟨rfl, rfl⟩
          go_wp2_with fail
          go_ret2
          exact ⟨_, rfl, RdT.nil _, hB⟩
        · rw [if_neg c6]
          obtain ⟨tk, ti, tj, tb⟩ := t
          dsimp only at *
          obtain ⟨kd, rfl⟩ : ∃ kd : Nat, tk = kd := ⟨tk.toNat, by omega⟩
          obtain ⟨i, rfl⟩ : ∃ i : Nat, ti = i := ⟨ti.toNat, by omega⟩
          have hk1 : 1 ≤ kd := by omega
          have hk2 : kd ≤ 5 := by omega
          have hiN : i < N := by omega
          have i1 : (0 : Int) ≤ (kd : Int) := by omega
          have i2 : (kd : Int) < 6 := by omega
          have hwk : IntKind.i64.wrap (kd : Int) = (kd : Int) := IntWalk.i64_in _ (by omega)
          have HKD := Lib.hid (hkd.keep hB)
          obtain ⟨F1, F2⟩ := HKD.out kd hk1 hk2
          clear hkd
          obtain ⟨f, hf⟩ : ∃ f, fitT l ⟨(kd : Int), (i : Int), tj, tb⟩ = f := ⟨_, rfl⟩
          rw [hf]
          have HF := Lib.hid hf
          clear hf
          have hcf : ∀ (xs : Array Value) (w1 : World), (callFunc (fK kd) xs).run Tryd.prog w1 = .ok (.enter (fK kd) xs) w1 := fun xs w1 => (callK kd hk1 hk2 xs w1).1
          have hcm : ∀ (xs : Array Value) (w1 : World), (callFunc (mK kd) xs).run Tryd.prog w1 = .ok (.enter (mK kd) xs) w1 := fun xs w1 => (callK kd hk1 hk2 xs w1).2
          have d5' : decide (N ≤ i) = false := nb (by omega)
          by_cases c7 : kd = 2
          · have d6 : ((kd : Int) == 2) = true := by simp; omega
            have d7 : ((N : Int) == 64) = false := by simp; omega
            clear c1 c4 c6 c7
            cases f
            · rw [if_pos rfl, if_neg (by decide)]
              go_enter Tryd.func20, Tryd.ntmps20
              go_upto_region 1 with fail
              rw [← hW]
              clear hW
              go_wp2_with fail
              refine (check_is _ l HZ.out 0 n HEN.out _ HRW.out).mono ?_
              rintro x w1 ⟨rfl, rfl⟩
              go_upto_region 10 with fail
              refine wp_region_calm (fun w' => Below W.heap.size W w') 99 (by kernel_rfl) ((Below.refl _ W).drew) ?_
              refine cm_run 0 46 (v := ?_) rfl rfl (by kernel_rfl) (by kernel_rfl) (by kernel_rfl) (by kernel_rfl) (by kernel_rfl) (fun _ _ _ h => h) (by rfl) ?_ ?_
              rotate_left
              · (intro wS hS; skip; go_simp; (try with_reducible rfl))
              simp only [List.setIfInBounds_toArray, List.set_cons_zero, List.set_cons_succ]
              refine cm_run 1 47 (v := ?_) rfl rfl (by kernel_rfl) (by kernel_rfl) (by kernel_rfl) (by kernel_rfl) (by kernel_rfl) (fun _ _ _ h => h) (by rfl) ?_ ?_
              rotate_left
              · (intro wS hS; have g := cell_later hS t0; go_simp; (try with_reducible rfl))
              simp only [List.setIfInBounds_toArray, List.set_cons_zero, List.set_cons_succ]
              refine cm_run 2 48 (v := ?_) rfl rfl (by kernel_rfl) (by kernel_rfl) (by kernel_rfl) (by kernel_rfl) (by kernel_rfl) (fun _ _ _ h => h) (by rfl) ?_ ?_
              rotate_left
              · (intro wS hS; skip; go_simp; (try with_reducible rfl))
              simp only [List.setIfInBounds_toArray, List.set_cons_zero, List.set_cons_succ]
              refine cm_run 3 49 (v := ?_) rfl rfl (by kernel_rfl) (by kernel_rfl) (by kernel_rfl) (by kernel_rfl) (by kernel_rfl) (fun _ _ _ h => h) (by rfl) ?_ ?_
              rotate_left
              · (intro wS hS; skip; go_simp; (try with_reducible rfl))
              simp only [List.setIfInBounds_toArray, List.set_cons_zero, List.set_cons_succ]
              refine cm_run 4 50 (v := ?_) rfl rfl (by kernel_rfl) (by kernel_rfl) (by kernel_rfl) (by kernel_rfl) (by kernel_rfl) (fun _ _ _ h => h) (by rfl) ?_ ?_
              rotate_left
              · (intro wS hS; have g := cell_later hS F1; go_simp; (try with_reducible rfl))
              simp only [List.setIfInBounds_toArray, List.set_cons_zero, List.set_cons_succ]
              refine cm_run 5 51 (v := ?_) rfl rfl (by kernel_rfl) (by kernel_rfl) (by kernel_rfl) (by kernel_rfl) (by kernel_rfl) (fun _ _ _ h => h) (by rfl) ?_ ?_
              rotate_left
              · (intro wS hS; skip; go_simp; (try with_reducible rfl))
              simp only [List.setIfInBounds_toArray, List.set_cons_zero, List.set_cons_succ]
              refine cm_run 6 52 (v := ?_) rfl rfl (by kernel_rfl) (by kernel_rfl) (by kernel_rfl) (by kernel_rfl) (by kernel_rfl) (fun _ _ _ h => h) (by rfl) ?_ ?_
              rotate_left
              · (intro wS hS; (have g0 := cell_later hS t0; have g1 := cell_later hS t1; have g2 := cell_later hS t2; have g3 := cell_later hS t3); go_simp; (try with_reducible rfl))
              simp only [List.setIfInBounds_toArray, List.set_cons_zero, List.set_cons_succ]
              refine cm_call 7 53 (fK kd) (v := .bool false) (args := ?_) rfl rfl (by kernel_rfl) (by kernel_rfl) (by kernel_rfl) (by kernel_rfl) (by kernel_rfl) (fun _ _ _ h => h) (by rfl) ?_ ?_ ?_
              rotate_left 1
              · (intro wS hS; go_simp; (try with_reducible rfl))
              · (intro wS hS; refine (fitsK _ l (by rw [HN.out]; exact hl) HSZ.out kd i hk1 hk2 (by rw [HN.out]; exact hiN) tj tb _ (HRW.out.keep hS)).mono ?_; (rw [HF.out]; rintro e w2 ⟨rfl, hb⟩; exact ⟨rfl, Below.next hS hb⟩))
              simp only [List.setIfInBounds_toArray, List.set_cons_zero, List.set_cons_succ]
              refine cm_run 8 54 (v := ?_) rfl rfl (by kernel_rfl) (by kernel_rfl) (by kernel_rfl) (by kernel_rfl) (by kernel_rfl) (fun _ _ _ h => h) (by rfl) ?_ ?_
              rotate_left
              · (intro wS hS; skip; go_simp; (try with_reducible rfl))
              simp only [List.setIfInBounds_toArray, List.set_cons_zero, List.set_cons_succ]
              refine cm_run 9 45 (v := ?_) rfl rfl (by kernel_rfl) (by kernel_rfl) (by kernel_rfl) (by kernel_rfl) (by kernel_rfl) (fun _ _ _ h => h) (by rfl) ?_ ?_
              rotate_left
              · (intro wS hS; skip; go_simp; (try with_reducible rfl))
              simp only [List.setIfInBounds_toArray, List.set_cons_zero, List.set_cons_succ]
              refine cm_done (by kernel_rfl) ?_
              intro wS hS
              refine NoPanic.normal ?_
              go_wp2_with fail
              go_ret2
              exact ⟨_, rfl, RdT.nil _, Below.next hB hS⟩
            · rw [if_neg (by decide), if_pos rfl]
              go_enter Tryd.func20, Tryd.ntmps20
              go_upto_region 1 with fail
              rw [← hW]
              clear hW
              go_wp2_with fail
              refine (check_is _ l HZ.out 0 n HEN.out _ HRW.out).mono ?_
              rintro x w1 ⟨rfl, rfl⟩
              go_upto_region 10 with fail
              refine wp_region_calm (fun w' => Below W.heap.size W w') 99 (by kernel_rfl) ((Below.refl _ W).drew) ?_
              refine cm_run 0 46 (v := ?_) rfl rfl (by kernel_rfl) (by kernel_rfl) (by kernel_rfl) (by kernel_rfl) (by kernel_rfl) (fun _ _ _ h => h) (by rfl) ?_ ?_
              rotate_left
              · (intro wS hS; skip; go_simp; (try with_reducible rfl))
              simp only [List.setIfInBounds_toArray, List.set_cons_zero, List.set_cons_succ]
              refine cm_run 1 47 (v := ?_) rfl rfl (by kernel_rfl) (by kernel_rfl) (by kernel_rfl) (by kernel_rfl) (by kernel_rfl) (fun _ _ _ h => h) (by rfl) ?_ ?_
              rotate_left
              · (intro wS hS; have g := cell_later hS t0; go_simp; (try with_reducible rfl))
              simp only [List.setIfInBounds_toArray, List.set_cons_zero, List.set_cons_succ]
              refine cm_run 2 48 (v := ?_) rfl rfl (by kernel_rfl) (by kernel_rfl) (by kernel_rfl) (by kernel_rfl) (by kernel_rfl) (fun _ _ _ h => h) (by rfl) ?_ ?_
              rotate_left
              · (intro wS hS; skip; go_simp; (try with_reducible rfl))
              simp only [List.setIfInBounds_toArray, List.set_cons_zero, List.set_cons_succ]
              refine cm_run 3 49 (v := ?_) rfl rfl (by kernel_rfl) (by kernel_rfl) (by kernel_rfl) (by kernel_rfl) (by kernel_rfl) (fun _ _ _ h => h) (by rfl) ?_ ?_
              rotate_left
              · (intro wS hS; skip; go_simp; (try with_reducible rfl))
              simp only [List.setIfInBounds_toArray, List.set_cons_zero, List.set_cons_succ]
              refine cm_run 4 50 (v := ?_) rfl rfl (by kernel_rfl) (by kernel_rfl) (by kernel_rfl) (by kernel_rfl) (by kernel_rfl) (fun _ _ _ h => h) (by rfl) ?_ ?_
              rotate_left
              · (intro wS hS; have g := cell_later hS F1; go_simp; (try with_reducible rfl))
              simp only [List.setIfInBounds_toArray, List.set_cons_zero, List.set_cons_succ]
              refine cm_run 5 51 (v := ?_) rfl rfl (by kernel_rfl) (by kernel_rfl) (by kernel_rfl) (by kernel_rfl) (by kernel_rfl) (fun _ _ _ h => h) (by rfl) ?_ ?_
              rotate_left
              · (intro wS hS; skip; go_simp; (try with_reducible rfl))
              simp only [List.setIfInBounds_toArray, List.set_cons_zero, List.set_cons_succ]
              refine cm_run 6 52 (v := ?_) rfl rfl (by kernel_rfl) (by kernel_rfl) (by kernel_rfl) (by kernel_rfl) (by kernel_rfl) (fun _ _ _ h => h) (by rfl) ?_ ?_
              rotate_left
              · (intro wS hS; (have g0 := cell_later hS t0; have g1 := cell_later hS t1; have g2 := cell_later hS t2; have g3 := cell_later hS t3); go_simp; (try with_reducible rfl))
              simp only [List.setIfInBounds_toArray, List.set_cons_zero, List.set_cons_succ]
              refine cm_call 7 53 (fK kd) (v := .bool true) (args := ?_) rfl rfl (by kernel_rfl) (by kernel_rfl) (by kernel_rfl) (by kernel_rfl) (by kernel_rfl) (fun _ _ _ h => h) (by rfl) ?_ ?_ ?_
              rotate_left 1
              · (intro wS hS; go_simp; (try with_reducible rfl))
              · (intro wS hS; refine (fitsK _ l (by rw [HN.out]; exact hl) HSZ.out kd i hk1 hk2 (by rw [HN.out]; exact hiN) tj tb _ (HRW.out.keep hS)).mono ?_; (rw [HF.out]; rintro e w2 ⟨rfl, hb⟩; exact ⟨rfl, Below.next hS hb⟩))
              simp only [List.setIfInBounds_toArray, List.set_cons_zero, List.set_cons_succ]
              refine cm_run 8 54 (v := ?_) rfl rfl (by kernel_rfl) (by kernel_rfl) (by kernel_rfl) (by kernel_rfl) (by kernel_rfl) (fun _ _ _ h => h) (by rfl) ?_ ?_
              rotate_left
              · (intro wS hS; skip; go_simp; (try with_reducible rfl))
              simp only [List.setIfInBounds_toArray, List.set_cons_zero, List.set_cons_succ]
              refine cm_run 9 45 (v := ?_) rfl rfl (by kernel_rfl) (by kernel_rfl) (by kernel_rfl) (by kernel_rfl) (by kernel_rfl) (fun _ _ _ h => h) (by rfl) ?_ ?_
              rotate_left
              · (intro wS hS; skip; go_simp; (try with_reducible rfl))
              simp only [List.setIfInBounds_toArray, List.set_cons_zero, List.set_cons_succ]
              refine cm_done (by kernel_rfl) ?_
              intro wS hS
              refine NoPanic.normal ?_
              go_upto_region 12 with fail
              have hszS := hS.size
              refine wp_region_noPanic ?_
              refine wp_region_held_drew (S := (fun w' => Below W.heap.size W w')) (by kernel_rfl) hS.drew (fun hHeld => ?_)
              clear hS
              refine reg_tk (v := ?_) 0 55 rfl rfl (by kernel_rfl) (by kernel_rfl) (by kernel_rfl) (fun _ _ _ h => h) (by rfl) ?_ (by assumption) ?_
              rotate_left
              · (intro w hSw; (try dsimp only at hSw); go_simp; (try with_reducible rfl))
              simp only [List.setIfInBounds_toArray, List.set_cons_zero, List.set_cons_succ]
              refine reg_tk (v := .int .i64 (kd : Int)) 1 56 rfl rfl (by kernel_rfl) (by kernel_rfl) (by kernel_rfl) (fun _ _ _ h => h) (by rfl) (fun w3 hS => by have g := cell_later hS t0; go_simp) (by assumption) ?_
              simp only [List.setIfInBounds_toArray, List.set_cons_zero, List.set_cons_succ]
              refine reg_tk (v := ?_) 2 57 rfl rfl (by kernel_rfl) (by kernel_rfl) (by kernel_rfl) (fun _ _ _ h => h) (by rfl) ?_ (by assumption) ?_
              rotate_left
              · (intro w hSw; (try dsimp only at hSw); go_simp; (try with_reducible rfl))
              simp only [List.setIfInBounds_toArray, List.set_cons_zero, List.set_cons_succ]
              refine reg_tk (v := ?_) 3 58 rfl rfl (by kernel_rfl) (by kernel_rfl) (by kernel_rfl) (fun _ _ _ h => h) (by rfl) ?_ (by assumption) ?_
              rotate_left
              · (intro w hSw; (try dsimp only at hSw); go_simp; (try with_reducible rfl))
              simp only [List.setIfInBounds_toArray, List.set_cons_zero, List.set_cons_succ]
              refine reg_tk (v := .func (.func (mK kd)) #[] #[]) 4 59 rfl rfl (by kernel_rfl) (by kernel_rfl) (by kernel_rfl) (fun _ _ _ h => h) (by rfl) (fun w3 hS => by have g := cell_later hS F2; go_simp) (by assumption) ?_
              simp only [List.setIfInBounds_toArray, List.set_cons_zero, List.set_cons_succ]
              refine reg_tk (v := ?_) 5 60 rfl rfl (by kernel_rfl) (by kernel_rfl) (by kernel_rfl) (fun _ _ _ h => h) (by rfl) ?_ (by assumption) ?_
              rotate_left
              · (intro w hSw; (try dsimp only at hSw); go_simp; (try with_reducible rfl))
              simp only [List.setIfInBounds_toArray, List.set_cons_zero, List.set_cons_succ]
              refine reg_tk (v := (⟨(kd : Int), (i : Int), tj, tb⟩ : Tr).v) 7 62 rfl rfl (by kernel_rfl) (by kernel_rfl) (by kernel_rfl) (fun _ _ _ h => h) (by rfl) (fun w3 hS => by (have g0 := cell_later hS t0; have g1 := cell_later hS t1; have g2 := cell_later hS t2; have g3 := cell_later hS t3); go_simp) (by assumption) ?_
              simp only [List.setIfInBounds_toArray, List.set_cons_zero, List.set_cons_succ]
              refine wpAnyH_ready (rs := [6]) (by kernel_rfl) (by simp) ?_
              refine AllReadyH.cons rfl (fun K hK => ?_) AllReadyH.nil
              go_simp
              refine (clone_any _ l (by rw [HN.out]; omega) _ (HRW.out.keep hHeld)).mono ?_
              rintro x w1 ⟨a, c, rfl, hown, hb⟩
              rw [HN.out] at hown ⊢
              have hB1 := Below.next hHeld hb
              have hszb := hb.size
              have HOWN := Lib.hid hown
              clear hown hb
              refine hK.out _ _ hB1 (fun hHeld2 => ?_)
              clear hK K hHeld
              have hHeld := hHeld2
              clear hHeld2
              try simp only [Act.put, List.setIfInBounds_toArray, List.set_cons_zero, List.set_cons_succ]
              refine wpAnyH_ready (rs := [8]) (by kernel_rfl) (by simp) ?_
              refine AllReadyH.cons rfl (fun K hK => ?_) AllReadyH.nil
              go_simp
              have hm := makeK a c wS.drew.heap.size l (by rw [HN.out]; exact hl) HSZ.out kd i hk1 hk2 (by rw [HN.out]; exact hiN) tj tb HF.out w1 (by rw [HN.out]; exact HOWN.out) hszb
              rw [HN.out] at hm
              refine hm.mono ?_
              rintro x w2 ⟨v, rfl, hrd, hb2⟩
              have hB2 : Below W.heap.size W w2 := hB1.trans (hb2.mono hszS)
              have HRD := Lib.hid hrd
              clear hrd hb2 hszb hszS
              refine hK.out _ _ hB2 (fun hHeld2 => ?_)
              clear hK K hHeld
              have hHeld := hHeld2
              clear hHeld2
              try simp only [Act.put, List.setIfInBounds_toArray, List.set_cons_zero, List.set_cons_succ]
              refine reg_tk (v := ?_) 9 4 rfl rfl (by kernel_rfl) (by kernel_rfl) (by kernel_rfl) (fun _ _ _ h => h) (by rfl) ?_ (by assumption) ?_
              rotate_left
              · (intro w hSw; (try dsimp only at hSw); go_simp; (try with_reducible rfl))
              simp only [List.setIfInBounds_toArray, List.set_cons_zero, List.set_cons_succ]
              refine reg_tk (v := ?_) 10 5 rfl rfl (by kernel_rfl) (by kernel_rfl) (by kernel_rfl) (fun _ _ _ h => h) (by rfl) ?_ (by assumption) ?_
              rotate_left
              · (intro w hSw; (try dsimp only at hSw); go_simp; (try with_reducible rfl))
              simp only [List.setIfInBounds_toArray, List.set_cons_zero, List.set_cons_succ]
              refine wpAnyH_done (by kernel_rfl) ?_ _
              refine NoPanic.normal ?_
              clear hHeld
              go_wp2_with fail
              go_ret2
              exact ⟨_, rfl, HRD.out, Below.next hB hB2⟩
          · have d6 : ((kd : Int) == 2) = false := by simp; omega
            clear c1 c4 c6 c7
            cases f
            · rw [if_pos rfl, if_neg (by decide)]
              go_enter Tryd.func20, Tryd.ntmps20
              go_upto_region 1 with fail
              rw [← hW]
              clear hW
              go_wp2_with fail
              refine (check_is _ l HZ.out 0 n HEN.out _ HRW.out).mono ?_
              rintro x w1 ⟨rfl, rfl⟩
              go_upto_region 10 with fail
              refine wp_region_calm (fun w' => Below W.heap.size W w') 99 (by kernel_rfl) ((Below.refl _ W).drew) ?_
              refine cm_run 0 46 (v := ?_) rfl rfl (by kernel_rfl) (by kernel_rfl) (by kernel_rfl) (by kernel_rfl) (by kernel_rfl) (fun _ _ _ h => h) (by rfl) ?_ ?_
              rotate_left
              · (intro wS hS; skip; go_simp; (try with_reducible rfl))
              simp only [List.setIfInBounds_toArray, List.set_cons_zero, List.set_cons_succ]
              refine cm_run 1 47 (v := ?_) rfl rfl (by kernel_rfl) (by kernel_rfl) (by kernel_rfl) (by kernel_rfl) (by kernel_rfl) (fun _ _ _ h => h) (by rfl) ?_ ?_
              rotate_left
              · (intro wS hS; have g := cell_later hS t0; go_simp; (try with_reducible rfl))
              simp only [List.setIfInBounds_toArray, List.set_cons_zero, List.set_cons_succ]
              refine cm_run 2 48 (v := ?_) rfl rfl (by kernel_rfl) (by kernel_rfl) (by kernel_rfl) (by kernel_rfl) (by kernel_rfl) (fun _ _ _ h => h) (by rfl) ?_ ?_
              rotate_left
              · (intro wS hS; skip; go_simp; (try with_reducible rfl))
              simp only [List.setIfInBounds_toArray, List.set_cons_zero, List.set_cons_succ]
              refine cm_run 3 49 (v := ?_) rfl rfl (by kernel_rfl) (by kernel_rfl) (by kernel_rfl) (by kernel_rfl) (by kernel_rfl) (fun _ _ _ h => h) (by rfl) ?_ ?_
              rotate_left
              · (intro wS hS; skip; go_simp; (try with_reducible rfl))
              simp only [List.setIfInBounds_toArray, List.set_cons_zero, List.set_cons_succ]
              refine cm_run 4 50 (v := ?_) rfl rfl (by kernel_rfl) (by kernel_rfl) (by kernel_rfl) (by kernel_rfl) (by kernel_rfl) (fun _ _ _ h => h) (by rfl) ?_ ?_
              rotate_left
              · (intro wS hS; have g := cell_later hS F1; go_simp; (try with_reducible rfl))
              simp only [List.setIfInBounds_toArray, List.set_cons_zero, List.set_cons_succ]
              refine cm_run 5 51 (v := ?_) rfl rfl (by kernel_rfl) (by kernel_rfl) (by kernel_rfl) (by kernel_rfl) (by kernel_rfl) (fun _ _ _ h => h) (by rfl) ?_ ?_
              rotate_left
              · (intro wS hS; skip; go_simp; (try with_reducible rfl))
              simp only [List.setIfInBounds_toArray, List.set_cons_zero, List.set_cons_succ]
              refine cm_run 6 52 (v := ?_) rfl rfl (by kernel_rfl) (by kernel_rfl) (by kernel_rfl) (by kernel_rfl) (by kernel_rfl) (fun _ _ _ h => h) (by rfl) ?_ ?_
              rotate_left
              · (intro wS hS; (have g0 := cell_later hS t0; have g1 := cell_later hS t1; have g2 := cell_later hS t2; have g3 := cell_later hS t3); go_simp; (try with_reducible rfl))
              simp only [List.setIfInBounds_toArray, List.set_cons_zero, List.set_cons_succ]
              refine cm_call 7 53 (fK kd) (v := .bool false) (args := ?_) rfl rfl (by kernel_rfl) (by kernel_rfl) (by kernel_rfl) (by kernel_rfl) (by kernel_rfl) (fun _ _ _ h => h) (by rfl) ?_ ?_ ?_
              rotate_left 1
              · (intro wS hS; go_simp; (try with_reducible rfl))
              · (intro wS hS; refine (fitsK _ l (by rw [HN.out]; exact hl) HSZ.out kd i hk1 hk2 (by rw [HN.out]; exact hiN) tj tb _ (HRW.out.keep hS)).mono ?_; (rw [HF.out]; rintro e w2 ⟨rfl, hb⟩; exact ⟨rfl, Below.next hS hb⟩))
              simp only [List.setIfInBounds_toArray, List.set_cons_zero, List.set_cons_succ]
              refine cm_run 8 54 (v := ?_) rfl rfl (by kernel_rfl) (by kernel_rfl) (by kernel_rfl) (by kernel_rfl) (by kernel_rfl) (fun _ _ _ h => h) (by rfl) ?_ ?_
              rotate_left
              · (intro wS hS; skip; go_simp; (try with_reducible rfl))
              simp only [List.setIfInBounds_toArray, List.set_cons_zero, List.set_cons_succ]
              refine cm_run 9 45 (v := ?_) rfl rfl (by kernel_rfl) (by kernel_rfl) (by kernel_rfl) (by kernel_rfl) (by kernel_rfl) (fun _ _ _ h => h) (by rfl) ?_ ?_
              rotate_left
              · (intro wS hS; skip; go_simp; (try with_reducible rfl))
              simp only [List.setIfInBounds_toArray, List.set_cons_zero, List.set_cons_succ]
              refine cm_done (by kernel_rfl) ?_
              intro wS hS
              refine NoPanic.normal ?_
              go_wp2_with fail
              go_ret2
              exact ⟨_, rfl, RdT.nil _, Below.next hB hS⟩
            · rw [if_neg (by decide), if_pos rfl]
              go_enter Tryd.func20, Tryd.ntmps20
              go_upto_region 1 with fail
              rw [← hW]
              clear hW
              go_wp2_with fail
              refine (check_is _ l HZ.out 0 n HEN.out _ HRW.out).mono ?_
              rintro x w1 ⟨rfl, rfl⟩
              go_upto_region 10 with fail
              refine wp_region_calm (fun w' => Below W.heap.size W w') 99 (by kernel_rfl) ((Below.refl _ W).drew) ?_
              refine cm_run 0 46 (v := ?_) rfl rfl (by kernel_rfl) (by kernel_rfl) (by kernel_rfl) (by kernel_rfl) (by kernel_rfl) (fun _ _ _ h => h) (by rfl) ?_ ?_
              rotate_left
              · (intro wS hS; skip; go_simp; (try with_reducible rfl))
              simp only [List.setIfInBounds_toArray, List.set_cons_zero, List.set_cons_succ]
              refine cm_run 1 47 (v := ?_) rfl rfl (by kernel_rfl) (by kernel_rfl) (by kernel_rfl) (by kernel_rfl) (by kernel_rfl) (fun _ _ _ h => h) (by rfl) ?_ ?_
              rotate_left
              · (intro wS hS; have g := cell_later hS t0; go_simp; (try with_reducible rfl))
              simp only [List.setIfInBounds_toArray, List.set_cons_zero, List.set_cons_succ]
              refine cm_run 2 48 (v := ?_) rfl rfl (by kernel_rfl) (by kernel_rfl) (by kernel_rfl) (by kernel_rfl) (by kernel_rfl) (fun _ _ _ h => h) (by rfl) ?_ ?_
              rotate_left
              · (intro wS hS; skip; go_simp; (try with_reducible rfl))
              simp only [List.setIfInBounds_toArray, List.set_cons_zero, List.set_cons_succ]
              refine cm_run 3 49 (v := ?_) rfl rfl (by kernel_rfl) (by kernel_rfl) (by kernel_rfl) (by kernel_rfl) (by kernel_rfl) (fun _ _ _ h => h) (by rfl) ?_ ?_
              rotate_left
              · (intro wS hS; skip; go_simp; (try with_reducible rfl))
              simp only [List.setIfInBounds_toArray, List.set_cons_zero, List.set_cons_succ]
              refine cm_run 4 50 (v := ?_) rfl rfl (by kernel_rfl) (by kernel_rfl) (by kernel_rfl) (by kernel_rfl) (by kernel_rfl) (fun _ _ _ h => h) (by rfl) ?_ ?_
              rotate_left
              · (intro wS hS; have g := cell_later hS F1; go_simp; (try with_reducible rfl))
              simp only [List.setIfInBounds_toArray, List.set_cons_zero, List.set_cons_succ]
              refine cm_run 5 51 (v := ?_) rfl rfl (by kernel_rfl) (by kernel_rfl) (by kernel_rfl) (by kernel_rfl) (by kernel_rfl) (fun _ _ _ h => h) (by rfl) ?_ ?_
              rotate_left
              · (intro wS hS; skip; go_simp; (try with_reducible rfl))
              simp only [List.setIfInBounds_toArray, List.set_cons_zero, List.set_cons_succ]
              refine cm_run 6 52 (v := ?_) rfl rfl (by kernel_rfl) (by kernel_rfl) (by kernel_rfl) (by kernel_rfl) (by kernel_rfl) (fun _ _ _ h => h) (by rfl) ?_ ?_
              rotate_left
              · (intro wS hS; (have g0 := cell_later hS t0; have g1 := cell_later hS t1; have g2 := cell_later hS t2; have g3 := cell_later hS t3); go_simp; (try with_reducible rfl))
              simp only [List.setIfInBounds_toArray, List.set_cons_zero, List.set_cons_succ]
              refine cm_call 7 53 (fK kd) (v := .bool true) (args := ?_) rfl rfl (by kernel_rfl) (by kernel_rfl) (by kernel_rfl) (by kernel_rfl) (by kernel_rfl) (fun _ _ _ h => h) (by rfl) ?_ ?_ ?_
              rotate_left 1
              · (intro wS hS; go_simp; (try with_reducible rfl))
              · (intro wS hS; refine (fitsK _ l (by rw [HN.out]; exact hl) HSZ.out kd i hk1 hk2 (by rw [HN.out]; exact hiN) tj tb _ (HRW.out.keep hS)).mono ?_; (rw [HF.out]; rintro e w2 ⟨rfl, hb⟩; exact ⟨rfl, Below.next hS hb⟩))
              simp only [List.setIfInBounds_toArray, List.set_cons_zero, List.set_cons_succ]
              refine cm_run 8 54 (v := ?_) rfl rfl (by kernel_rfl) (by kernel_rfl) (by kernel_rfl) (by kernel_rfl) (by kernel_rfl) (fun _ _ _ h => h) (by rfl) ?_ ?_
              rotate_left
              · (intro wS hS; skip; go_simp; (try with_reducible rfl))
              simp only [List.setIfInBounds_toArray, List.set_cons_zero, List.set_cons_succ]
              refine cm_run 9 45 (v := ?_) rfl rfl (by kernel_rfl) (by kernel_rfl) (by kernel_rfl) (by kernel_rfl) (by kernel_rfl) (fun _ _ _ h => h) (by rfl) ?_ ?_
              rotate_left
              · (intro wS hS; skip; go_simp; (try with_reducible rfl))
              simp only [List.setIfInBounds_toArray, List.set_cons_zero, List.set_cons_succ]
              refine cm_done (by kernel_rfl) ?_
              intro wS hS
              refine NoPanic.normal ?_
              go_upto_region 12 with fail
              have hszS := hS.size
              refine wp_region_noPanic ?_
              refine wp_region_held_drew (S := (fun w' => Below W.heap.size W w')) (by kernel_rfl) hS.drew (fun hHeld => ?_)
              clear hS
              refine reg_tk (v := ?_) 0 55 rfl rfl (by kernel_rfl) (by kernel_rfl) (by kernel_rfl) (fun _ _ _ h => h) (by rfl) ?_ (by assumption) ?_
              rotate_left
              · (intro w hSw; (try dsimp only at hSw); go_simp; (try with_reducible rfl))
              simp only [List.setIfInBounds_toArray, List.set_cons_zero, List.set_cons_succ]
              refine reg_tk (v := .int .i64 (kd : Int)) 1 56 rfl rfl (by kernel_rfl) (by kernel_rfl) (by kernel_rfl) (fun _ _ _ h => h) (by rfl) (fun w3 hS => by have g := cell_later hS t0; go_simp) (by assumption) ?_
              simp only [List.setIfInBounds_toArray, List.set_cons_zero, List.set_cons_succ]
              refine reg_tk (v := ?_) 2 57 rfl rfl (by kernel_rfl) (by kernel_rfl) (by kernel_rfl) (fun _ _ _ h => h) (by rfl) ?_ (by assumption) ?_
              rotate_left
              · (intro w hSw; (try dsimp only at hSw); go_simp; (try with_reducible rfl))
              simp only [List.setIfInBounds_toArray, List.set_cons_zero, List.set_cons_succ]
              refine reg_tk (v := ?_) 3 58 rfl rfl (by kernel_rfl) (by kernel_rfl) (by kernel_rfl) (fun _ _ _ h => h) (by rfl) ?_ (by assumption) ?_
              rotate_left
              · (intro w hSw; (try dsimp only at hSw); go_simp; (try with_reducible rfl))
              simp only [List.setIfInBounds_toArray, List.set_cons_zero, List.set_cons_succ]
              refine reg_tk (v := .func (.func (mK kd)) #[] #[]) 4 59 rfl rfl (by kernel_rfl) (by kernel_rfl) (by kernel_rfl) (fun _ _ _ h => h) (by rfl) (fun w3 hS => by have g := cell_later hS F2; go_simp) (by assumption) ?_
              simp only [List.setIfInBounds_toArray, List.set_cons_zero, List.set_cons_succ]
              refine reg_tk (v := ?_) 5 60 rfl rfl (by kernel_rfl) (by kernel_rfl) (by kernel_rfl) (fun _ _ _ h => h) (by rfl) ?_ (by assumption) ?_
              rotate_left
              · (intro w hSw; (try dsimp only at hSw); go_simp; (try with_reducible rfl))
              simp only [List.setIfInBounds_toArray, List.set_cons_zero, List.set_cons_succ]
              refine reg_tk (v := (⟨(kd : Int), (i : Int), tj, tb⟩ : Tr).v) 7 62 rfl rfl (by kernel_rfl) (by kernel_rfl) (by kernel_rfl) (fun _ _ _ h => h) (by rfl) (fun w3 hS => by (have g0 := cell_later hS t0; have g1 := cell_later hS t1; have g2 := cell_later hS t2; have g3 := cell_later hS t3); go_simp) (by assumption) ?_
              simp only [List.setIfInBounds_toArray, List.set_cons_zero, List.set_cons_succ]
              refine wpAnyH_ready (rs := [6]) (by kernel_rfl) (by simp) ?_
              refine AllReadyH.cons rfl (fun K hK => ?_) AllReadyH.nil
              go_simp
              refine (clone_any _ l (by rw [HN.out]; omega) _ (HRW.out.keep hHeld)).mono ?_
              rintro x w1 ⟨a, c, rfl, hown, hb⟩
              rw [HN.out] at hown ⊢
              have hB1 := Below.next hHeld hb
              have hszb := hb.size
              have HOWN := Lib.hid hown
              clear hown hb
              refine hK.out _ _ hB1 (fun hHeld2 => ?_)
              clear hK K hHeld
              have hHeld := hHeld2
              clear hHeld2
              try simp only [Act.put, List.setIfInBounds_toArray, List.set_cons_zero, List.set_cons_succ]
              refine wpAnyH_ready (rs := [8]) (by kernel_rfl) (by simp) ?_
              refine AllReadyH.cons rfl (fun K hK => ?_) AllReadyH.nil
              go_simp
              have hm := makeK a c wS.drew.heap.size l (by rw [HN.out]; exact hl) HSZ.out kd i hk1 hk2 (by rw [HN.out]; exact hiN) tj tb HF.out w1 (by rw [HN.out]; exact HOWN.out) hszb
              rw [HN.out] at hm
              refine hm.mono ?_
              rintro x w2 ⟨v, rfl, hrd, hb2⟩
              have hB2 : Below W.heap.size W w2 := hB1.trans (hb2.mono hszS)
              have HRD := Lib.hid hrd
              clear hrd hb2 hszb hszS
              refine hK.out _ _ hB2 (fun hHeld2 => ?_)
              clear hK K hHeld
              have hHeld := hHeld2
              clear hHeld2
              try simp only [Act.put, List.setIfInBounds_toArray, List.set_cons_zero, List.set_cons_succ]
              refine reg_tk (v := ?_) 9 4 rfl rfl (by kernel_rfl) (by kernel_rfl) (by kernel_rfl) (fun _ _ _ h => h) (by rfl) ?_ (by assumption) ?_
              rotate_left
              · (intro w hSw; (try dsimp only at hSw); go_simp; (try with_reducible rfl))
              simp only [List.setIfInBounds_toArray, List.set_cons_zero, List.set_cons_succ]
              refine reg_tk (v := ?_) 10 5 rfl rfl (by kernel_rfl) (by kernel_rfl) (by kernel_rfl) (fun _ _ _ h => h) (by rfl) ?_ (by assumption) ?_
              rotate_left
              · (intro w hSw; (try dsimp only at hSw); go_simp; (try with_reducible rfl))
              simp only [List.setIfInBounds_toArray, List.set_cons_zero, List.set_cons_succ]
              refine wpAnyH_done (by kernel_rfl) ?_ _
              refine NoPanic.normal ?_
              clear hHeld
              go_wp2_with fail
              go_ret2
              exact ⟨_, rfl, HRD.out, Below.next hB hB2⟩
  · rw [if_pos h1, if_neg h1]
    have d1 : (e != 0) = true := by simpa using h1
    clear h1
    go_enter Tryd.func20, Tryd.ntmps20
    go_wp2_with fail
    refine (check_is _ l HZ.out e n HEN.out _ (HR.out.keep (by repeat (first | assumption | exact Below.refl _ _ | apply Below.al | apply below_drewN | apply Below.drew | refine Below.next ?_ (by assumption))))).mono ?_
    rintro x w1 ⟨rfl, rfl⟩
    go_wp2_with fail
    go_ret2
    exact ⟨_, rfl, RdT.nil _, (by repeat (first | assumption | exact Below.refl _ _ | apply Below.al | apply below_drewN | apply Below.drew | refine Below.next ?_ (by assumption)))⟩
end Go.Proofs.YtimkeafpefkheaaDoor
