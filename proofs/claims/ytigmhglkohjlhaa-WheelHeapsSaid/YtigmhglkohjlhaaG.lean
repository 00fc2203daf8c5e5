


/- Timers: which lists are valid heaps (the reference's text). -/
import Derived.Test.YtigmhglkohjlhaaF
namespace Go.Proofs.Ytigmhglkohjlhaa
open Go.RowKit
set_option linter.unusedSimpArgs false
set_option linter.unusedVariables false
set_option maxRecDepth 100000

set_option maxHeartbeats 8000000 in
theorem rcheck_is (v : Value) (l : List Tm) (er ix : Int) (hen : chkW l = (er, ix)) (w : World) (h : RdM w v l) :
    Calls Try.prog 23 #[v] w fun x w' => x = .returned (.tuple #[.int .i64 er, .int .i64 ix]) ∧ Below w.heap.size w w' := by
  obtain ⟨a0, n0, rfl⟩ := h.form
  have hmx := h.2.1
  unfold maxLen at hmx
  obtain ⟨N, hN⟩ : ∃ N, l.length = N := ⟨_, rfl⟩
  rw [hN] at h hmx ⊢
  unfold chkW at hen
  rw [hN] at hen
  by_cases h1 : 1000 < N
  · rw [if_pos h1] at hen
    simp only [Prod.mk.injEq] at hen
    obtain ⟨rfl, rfl⟩ := hen
    have d1 : decide ((1000 : Int) < (N : Int)) = true := yb (by omega)
    clear h1 hN h
    go_enter Try.func23, Try.ntmps23
    go_wp2
    go_ret2
    exact ⟨rfl, Below.refl _ _⟩
  · rw [if_neg h1] at hen
    have d1 : decide ((1000 : Int) < (N : Int)) = false := nb (by omega)
    have HEN := Lib.hid hen
    have HR := Lib.hid h
    have HN := Lib.hid hN
    clear hen h hN
    go_enter Try.func23, Try.ntmps23
    go_wp2_with fail
    go_loopw [4] (fun i wr => ∃ k : Nat, k ≤ N ∧ i = .int .i64 k ∧ Below w.heap.size w wr ∧ ∀ j, j < k → stpE l j = 0) (fun i _ => N - (intOf i).toNat)
    case atStart => exact ⟨0, Nat.zero_le _, rfl, Below.refl _ _, fun j hj => by omega⟩
    case round =>
      obtain ⟨k, hk, rfl, hB, hz0⟩ := hrel
      have HZ0 := Lib.hid hz0
      clear hz0
      by_cases hlt : k < N
      · have d2 : decide ((k : Int) < (N : Int)) = true := yb (by omega)
        obtain ⟨b1, o1, rfl, hc1, g0, g1, g2, g3, g4⟩ := RdM.at (HR.out.keep hB) HN.out k hlt
        obtain ⟨t, HT⟩ : ∃ y, Hid (g l k = y) := ⟨_, rfl⟩
        rw [HT.out] at g0 g1 g2 g3 g4
        have n1 : (0 : Int) ≤ (k : Int) := by omega
        have n2 : (k : Int) < (N : Int) := by omega
        have hwk : IntKind.i64.wrap (k : Int) = (k : Int) := IntWalk.i64_in _ (by omega)
        obtain ⟨e, HE⟩ : ∃ e, Hid (valE t = e) := ⟨_, rfl⟩
        obtain ⟨f, HFN⟩ : ∃ f, Hid (fnd l t = f) := ⟨_, rfl⟩
        have hst : stpE l k = (if e ≠ 0 then e else if f < (k : Int) then 9 else if 0 < k ∧ ltT t (g l ((k - 1) / 2)) then 19 else 0) := by
          unfold stpE
          have h2 := fnd_lt (l := l) (i := k) (by rw [HN.out]; exact hlt)
          rw [HT.out] at h2 ⊢
          rw [HE.out]
          rw [HFN.out] at h2
          by_cases h3 : f < (k : Int)
          · rw [if_pos h3, if_pos (h2.1 h3)]
          · rw [if_neg h3, if_neg (fun h4 => h3 (h2.2 h4))]
        by_cases he : e ≠ 0
        · rw [if_pos he] at hst
          have hf := scanW_fail HZ0.out (by rw [hst]; exact he) N (by omega)
          rw [HEN.out, hst] at hf
          simp only [Prod.mk.injEq] at hf
          obtain ⟨rfl, rfl⟩ := hf
          have d3 : (er != 0) = true := by simpa using he
          clear hst he
          go_wp2_with fail
          refine (one_any t _ er HE.out).mono ?_
          rintro x w1 ⟨rfl, hb1⟩
          have hB1 := Below.next hB hb1
          clear hb1 g0 g1 g2 g3 g4
          go_wp2_with fail
          go_ret2
          exact ⟨rfl, hB1⟩
        · obtain rfl : e = 0 := by simpa using he
          rw [if_neg (by decide)] at hst
          clear he
          go_wp2_with fail
          refine (one_any t _ 0 HE.out).mono ?_
          rintro x w1 ⟨rfl, hb1⟩
          have g0 := cell_later hb1 g0
          have g1 := cell_later hb1 g1
          have g2 := cell_later hb1 g2
          have g3 := cell_later hb1 g3
          have g4 := cell_later hb1 g4
          have hB1 := Below.next hB hb1
          have HRW := Lib.hid (HR.out.keep hB1)
          clear hb1 hB
          go_upto_region 9 with fail
          refine wp_region_calm (fun w' => Below w1.heap.size w1 w') 99 (by kernel_rfl) ((Below.refl _ w1).drew) ?_
          refine cm_run 0 26 (v := ?_) rfl rfl (by kernel_rfl) (by kernel_rfl) (by kernel_rfl) (by kernel_rfl) (by kernel_rfl) (fun _ _ _ h => h) (by rfl) ?_ ?_
          rotate_left
          · (intro wS hS; skip; go_simp; (try with_reducible rfl))
          simp only [List.setIfInBounds_toArray, List.set_cons_zero, List.set_cons_succ]
          refine cm_run 1 27 (v := ?_) rfl rfl (by kernel_rfl) (by kernel_rfl) (by kernel_rfl) (by kernel_rfl) (by kernel_rfl) (fun _ _ _ h => h) (by rfl) ?_ ?_
          rotate_left
          · (intro wS hS; skip; go_simp; (try with_reducible rfl))
          simp only [List.setIfInBounds_toArray, List.set_cons_zero, List.set_cons_succ]
          refine cm_run 2 28 (v := ?_) rfl rfl (by kernel_rfl) (by kernel_rfl) (by kernel_rfl) (by kernel_rfl) (by kernel_rfl) (fun _ _ _ h => h) (by rfl) ?_ ?_
          rotate_left
          · (intro wS hS; skip; go_simp; (try with_reducible rfl))
          simp only [List.setIfInBounds_toArray, List.set_cons_zero, List.set_cons_succ]
          refine cm_run 3 29 (v := ?_) rfl rfl (by kernel_rfl) (by kernel_rfl) (by kernel_rfl) (by kernel_rfl) (by kernel_rfl) (fun _ _ _ h => h) (by rfl) ?_ ?_
          rotate_left
          · (intro wS hS; skip; go_simp; (try with_reducible rfl))
          simp only [List.setIfInBounds_toArray, List.set_cons_zero, List.set_cons_succ]
          refine cm_run 4 30 (v := ?_) rfl rfl (by kernel_rfl) (by kernel_rfl) (by kernel_rfl) (by kernel_rfl) (by kernel_rfl) (fun _ _ _ h => h) (by rfl) ?_ ?_
          rotate_left
          · (intro wS hS; skip; go_simp; (try with_reducible rfl))
          simp only [List.setIfInBounds_toArray, List.set_cons_zero, List.set_cons_succ]
          refine cm_run 5 31 (v := ?_) rfl rfl (by kernel_rfl) (by kernel_rfl) (by kernel_rfl) (by kernel_rfl) (by kernel_rfl) (fun _ _ _ h => h) (by rfl) ?_ ?_
          rotate_left
          · (intro wS hS; have hg := cell_later hS g1; go_simp; (try with_reducible rfl))
          simp only [List.setIfInBounds_toArray, List.set_cons_zero, List.set_cons_succ]
          refine cm_run 6 32 (v := ?_) rfl rfl (by kernel_rfl) (by kernel_rfl) (by kernel_rfl) (by kernel_rfl) (by kernel_rfl) (fun _ _ _ h => h) (by rfl) ?_ ?_
          rotate_left
          · (intro wS hS; skip; go_simp; (try with_reducible rfl))
          simp only [List.setIfInBounds_toArray, List.set_cons_zero, List.set_cons_succ]
          refine cm_run 7 33 (v := ?_) rfl rfl (by kernel_rfl) (by kernel_rfl) (by kernel_rfl) (by kernel_rfl) (by kernel_rfl) (fun _ _ _ h => h) (by rfl) ?_ ?_
          rotate_left
          · (intro wS hS; skip; go_simp; (try with_reducible rfl))
          simp only [List.setIfInBounds_toArray, List.set_cons_zero, List.set_cons_succ]
          refine cm_run 8 34 (v := ?_) rfl rfl (by kernel_rfl) (by kernel_rfl) (by kernel_rfl) (by kernel_rfl) (by kernel_rfl) (fun _ _ _ h => h) (by rfl) ?_ ?_
          rotate_left
          · (intro wS hS; skip; go_simp; (try with_reducible rfl))
          simp only [List.setIfInBounds_toArray, List.set_cons_zero, List.set_cons_succ]
          refine cm_run 9 35 (v := ?_) rfl rfl (by kernel_rfl) (by kernel_rfl) (by kernel_rfl) (by kernel_rfl) (by kernel_rfl) (fun _ _ _ h => h) (by rfl) ?_ ?_
          rotate_left
          · (intro wS hS; skip; go_simp; (try with_reducible rfl))
          simp only [List.setIfInBounds_toArray, List.set_cons_zero, List.set_cons_succ]
          refine cm_run 10 36 (v := ?_) rfl rfl (by kernel_rfl) (by kernel_rfl) (by kernel_rfl) (by kernel_rfl) (by kernel_rfl) (fun _ _ _ h => h) (by rfl) ?_ ?_
          rotate_left
          · (intro wS hS; (have h2 := cell_later hS g2; have h3 := cell_later hS g3; have h4 := cell_later hS g4); go_simp; (try with_reducible rfl))
          simp only [List.setIfInBounds_toArray, List.set_cons_zero, List.set_cons_succ]
          refine cm_call 11 37 42 (v := .int .i64 f) (args := ?_) rfl rfl (by kernel_rfl) (by kernel_rfl) (by kernel_rfl) (by kernel_rfl) (by kernel_rfl) (fun _ _ _ h => h) (by rfl) ?_ ?_ ?_
          rotate_left 1
          · (intro wS hS; go_simp; (try with_reducible rfl))
          · (intro wS hS; refine (rfind_any _ l t _ (by have := HRW.out.keep hS; exact this)).mono ?_; (rw [HFN.out]; rintro e w2 ⟨rfl, hb⟩; exact ⟨rfl, Below.next hS hb⟩))
          simp only [List.setIfInBounds_toArray, List.set_cons_zero, List.set_cons_succ]
          by_cases hf0 : f < (k : Int)
          · have d4 : decide (f < (k : Int)) = true := yb hf0
            rw [if_pos hf0] at hst
            have hf := scanW_fail HZ0.out (by rw [hst]; decide) N (by omega)
            rw [HEN.out, hst] at hf
            simp only [Prod.mk.injEq] at hf
            obtain ⟨rfl, rfl⟩ := hf
            clear hst
            clear hf0
            refine cm_run 12 38 (v := ?_) rfl rfl (by kernel_rfl) (by kernel_rfl) (by kernel_rfl) (by kernel_rfl) (by kernel_rfl) (fun _ _ _ h => h) (by rfl) ?_ ?_
            rotate_left
            · (intro wS hS; skip; go_simp; (try with_reducible rfl))
            simp only [List.setIfInBounds_toArray, List.set_cons_zero, List.set_cons_succ]
            refine cm_run 13 39 (v := ?_) rfl rfl (by kernel_rfl) (by kernel_rfl) (by kernel_rfl) (by kernel_rfl) (by kernel_rfl) (fun _ _ _ h => h) (by rfl) ?_ ?_
            rotate_left
            · (intro wS hS; skip; go_simp; (try with_reducible rfl))
            simp only [List.setIfInBounds_toArray, List.set_cons_zero, List.set_cons_succ]
            refine cm_run 14 25 (v := ?_) rfl rfl (by kernel_rfl) (by kernel_rfl) (by kernel_rfl) (by kernel_rfl) (by kernel_rfl) (fun _ _ _ h => h) (by rfl) ?_ ?_
            rotate_left
            · (intro wS hS; skip; go_simp; (try with_reducible rfl))
            simp only [List.setIfInBounds_toArray, List.set_cons_zero, List.set_cons_succ]
            refine cm_done (by kernel_rfl) ?_
            intro wS hS
            refine NoPanic.normal ?_
            have hB2 := Below.next hB1 hS
            clear hS g0 g1 g2 g3 g4
            go_wp2_with fail
            go_ret2
            exact ⟨rfl, hB2⟩
          · have d4 : decide (f < (k : Int)) = false := nb hf0
            rw [if_neg hf0] at hst
            clear hf0
            refine cm_run 12 38 (v := ?_) rfl rfl (by kernel_rfl) (by kernel_rfl) (by kernel_rfl) (by kernel_rfl) (by kernel_rfl) (fun _ _ _ h => h) (by rfl) ?_ ?_
            rotate_left
            · (intro wS hS; skip; go_simp; (try with_reducible rfl))
            simp only [List.setIfInBounds_toArray, List.set_cons_zero, List.set_cons_succ]
            refine cm_run 13 39 (v := ?_) rfl rfl (by kernel_rfl) (by kernel_rfl) (by kernel_rfl) (by kernel_rfl) (by kernel_rfl) (fun _ _ _ h => h) (by rfl) ?_ ?_
            rotate_left
            · (intro wS hS; skip; go_simp; (try with_reducible rfl))
            simp only [List.setIfInBounds_toArray, List.set_cons_zero, List.set_cons_succ]
            refine cm_run 14 25 (v := ?_) rfl rfl (by kernel_rfl) (by kernel_rfl) (by kernel_rfl) (by kernel_rfl) (by kernel_rfl) (fun _ _ _ h => h) (by rfl) ?_ ?_
            rotate_left
            · (intro wS hS; skip; go_simp; (try with_reducible rfl))
            simp only [List.setIfInBounds_toArray, List.set_cons_zero, List.set_cons_succ]
            refine cm_done (by kernel_rfl) ?_
            intro wS hS
            refine NoPanic.normal ?_
            have hB2 := Below.next hB1 hS
            have g0 := cell_later hS g0
            have g1 := cell_later hS g1
            have g2 := cell_later hS g2
            have g3 := cell_later hS g3
            have g4 := cell_later hS g4
            have HRW := Lib.hid (HRW.out.keep hS)
            clear hS
            by_cases hk0 : 0 < k
            · obtain ⟨p, hp⟩ : ∃ p, (k - 1) / 2 = p := ⟨_, rfl⟩
              have hpN : p < N := by omega
              have hq : IntKind.i64.wrap (((k : Int) - 1).tdiv 2) = (p : Int) := by rw [Int.tdiv_eq_ediv_of_nonneg (by omega), show ((k : Int) - 1) / 2 = (p : Int) by omega]; exact IntWalk.i64_in _ (by omega)
              obtain ⟨b3, o3, he3, _, p0, p1, p2, p3, p4⟩ := RdM.at HRW.out HN.out p hpN
              cases he3
              obtain ⟨u, HU⟩ : ∃ y, Hid (g l p = y) := ⟨_, rfl⟩
              rw [HU.out] at p0 p1 p2 p3 p4
              rw [hp, HU.out] at hst
              have hwk1 : IntKind.i64.wrap ((k : Int) - 1) = (k : Int) - 1 := IntWalk.i64_in _ (by omega)
              have hwp : IntKind.i64.wrap (p : Int) = (p : Int) := IntWalk.i64_in _ (by omega)
              have m0 : decide ((0 : Int) < (k : Int)) = true := yb (by omega)
              have m0' : decide (0 < k) = true := yb hk0
              have m1 : (0 : Int) ≤ (k : Int) - 1 := by omega
              have m2 : (0 : Int) ≤ (p : Int) := by omega
              have m3 : (p : Int) < (N : Int) := by omega
              have HQ := Lib.hid hq
              have HP := Lib.hid hp
              have HK0 := Lib.hid hk0
              clear hq hp hk0
              go_upto_region 11 with fail
              refine wp_region_calm (fun w' => Below wS.heap.size wS w') 99 (by kernel_rfl) ((Below.refl _ wS).drew) ?_
              refine cm_run 0 42 (v := ?_) rfl rfl (by kernel_rfl) (by kernel_rfl) (by kernel_rfl) (by kernel_rfl) (by kernel_rfl) (fun _ _ _ h => h) (by rfl) ?_ ?_
              rotate_left
              · (intro wS hS; skip; go_simp; (try with_reducible rfl))
              simp only [List.setIfInBounds_toArray, List.set_cons_zero, List.set_cons_succ]
              refine cm_run 1 43 (v := ?_) rfl rfl (by kernel_rfl) (by kernel_rfl) (by kernel_rfl) (by kernel_rfl) (by kernel_rfl) (fun _ _ _ h => h) (by rfl) ?_ ?_
              rotate_left
              · (intro wS hS; skip; go_simp; (try with_reducible rfl))
              simp only [List.setIfInBounds_toArray, List.set_cons_zero, List.set_cons_succ]
              refine cm_run 2 44 (v := ?_) rfl rfl (by kernel_rfl) (by kernel_rfl) (by kernel_rfl) (by kernel_rfl) (by kernel_rfl) (fun _ _ _ h => h) (by rfl) ?_ ?_
              rotate_left
              · (intro wS hS; skip; go_simp; (try with_reducible rfl))
              simp only [List.setIfInBounds_toArray, List.set_cons_zero, List.set_cons_succ]
              refine cm_run 3 45 (v := ?_) rfl rfl (by kernel_rfl) (by kernel_rfl) (by kernel_rfl) (by kernel_rfl) (by kernel_rfl) (fun _ _ _ h => h) (by rfl) ?_ ?_
              rotate_left
              · (intro wS hS; skip; go_simp; (try with_reducible rfl))
              simp only [List.setIfInBounds_toArray, List.set_cons_zero, List.set_cons_succ]
              refine cm_run 4 46 (v := ?_) rfl rfl (by kernel_rfl) (by kernel_rfl) (by kernel_rfl) (by kernel_rfl) (by kernel_rfl) (fun _ _ _ h => h) (by rfl) ?_ ?_
              rotate_left
              · (intro wS hS; skip; go_simp; (try with_reducible rfl))
              simp only [List.setIfInBounds_toArray, List.set_cons_zero, List.set_cons_succ]
              refine cm_run 5 47 (v := ?_) rfl rfl (by kernel_rfl) (by kernel_rfl) (by kernel_rfl) (by kernel_rfl) (by kernel_rfl) (fun _ _ _ h => h) (by rfl) ?_ ?_
              rotate_left
              · (intro wS hS; skip; go_simp; (try with_reducible rfl))
              simp only [List.setIfInBounds_toArray, List.set_cons_zero, List.set_cons_succ]
              refine cm_run 6 48 (v := ?_) rfl rfl (by kernel_rfl) (by kernel_rfl) (by kernel_rfl) (by kernel_rfl) (by kernel_rfl) (fun _ _ _ h => h) (by rfl) ?_ ?_
              rotate_left
              · (intro wS hS; (have h0 := cell_later hS g0; have h1 := cell_later hS g1; have h2 := cell_later hS g2; have h3 := cell_later hS g3; have h4 := cell_later hS g4); go_simp; (try with_reducible rfl))
              simp only [List.setIfInBounds_toArray, List.set_cons_zero, List.set_cons_succ]
              refine cm_run 7 49 (v := ?_) rfl rfl (by kernel_rfl) (by kernel_rfl) (by kernel_rfl) (by kernel_rfl) (by kernel_rfl) (fun _ _ _ h => h) (by rfl) ?_ ?_
              rotate_left
              · (intro wS hS; skip; go_simp; (try with_reducible rfl))
              simp only [List.setIfInBounds_toArray, List.set_cons_zero, List.set_cons_succ]
              refine cm_run 8 50 (v := ?_) rfl rfl (by kernel_rfl) (by kernel_rfl) (by kernel_rfl) (by kernel_rfl) (by kernel_rfl) (fun _ _ _ h => h) (by rfl) ?_ ?_
              rotate_left
              · (intro wS hS; skip; go_simp; (try with_reducible rfl))
              simp only [List.setIfInBounds_toArray, List.set_cons_zero, List.set_cons_succ]
              refine cm_run 9 51 (v := ?_) rfl rfl (by kernel_rfl) (by kernel_rfl) (by kernel_rfl) (by kernel_rfl) (by kernel_rfl) (fun _ _ _ h => h) (by rfl) ?_ ?_
              rotate_left
              · (intro wS hS; skip; go_simp; (try with_reducible rfl))
              simp only [List.setIfInBounds_toArray, List.set_cons_zero, List.set_cons_succ]
              refine cm_run 10 52 (v := .int .i64 (p : Int)) rfl rfl (by kernel_rfl) (by kernel_rfl) (by kernel_rfl) (by kernel_rfl) (by kernel_rfl) (fun _ _ _ h => h) (by rfl) ?_ ?_
              · (intro wS hS; have hq := HQ.out; go_simp; (try with_reducible rfl))
              simp only [List.setIfInBounds_toArray, List.set_cons_zero, List.set_cons_succ]
              refine cm_run 11 53 (v := ?_) rfl rfl (by kernel_rfl) (by kernel_rfl) (by kernel_rfl) (by kernel_rfl) (by kernel_rfl) (fun _ _ _ h => h) (by rfl) ?_ ?_
              rotate_left
              · (intro wS hS; skip; go_simp; (try with_reducible rfl))
              simp only [List.setIfInBounds_toArray, List.set_cons_zero, List.set_cons_succ]
              refine cm_run 12 54 (v := ?_) rfl rfl (by kernel_rfl) (by kernel_rfl) (by kernel_rfl) (by kernel_rfl) (by kernel_rfl) (fun _ _ _ h => h) (by rfl) ?_ ?_
              rotate_left
              · (intro wS hS; (have h0 := cell_later hS p0; have h1 := cell_later hS p1; have h2 := cell_later hS p2; have h3 := cell_later hS p3; have h4 := cell_later hS p4); go_simp; (try with_reducible rfl))
              simp only [List.setIfInBounds_toArray, List.set_cons_zero, List.set_cons_succ]
              refine cm_call 13 55 43 (v := .bool (decide (ltT t u))) (args := ?_) rfl rfl (by kernel_rfl) (by kernel_rfl) (by kernel_rfl) (by kernel_rfl) (by kernel_rfl) (fun _ _ _ h => h) (by rfl) ?_ ?_ ?_
              rotate_left 1
              · (intro wS hS; go_simp; (try with_reducible rfl))
              · (intro wS hS; refine (before_any t u _).mono ?_; (rintro e w2 ⟨rfl, hb⟩; exact ⟨rfl, Below.next hS hb⟩))
              simp only [List.setIfInBounds_toArray, List.set_cons_zero, List.set_cons_succ]
              by_cases hlt2 : ltT t u
              · have d5 : decide (ltT t u) = true := yb hlt2
                rw [if_pos ⟨HK0.out, hlt2⟩] at hst
                have hf := scanW_fail HZ0.out (by rw [hst]; decide) N (by omega)
                rw [HEN.out, hst] at hf
                simp only [Prod.mk.injEq] at hf
                obtain ⟨rfl, rfl⟩ := hf
                clear hst
                clear hlt2
                refine cm_run 14 56 (v := ?_) rfl rfl (by kernel_rfl) (by kernel_rfl) (by kernel_rfl) (by kernel_rfl) (by kernel_rfl) (fun _ _ _ h => h) (by rfl) ?_ ?_
                rotate_left
                · (intro wS hS; skip; go_simp; (try with_reducible rfl))
                simp only [List.setIfInBounds_toArray, List.set_cons_zero, List.set_cons_succ]
                refine cm_run 15 41 (v := ?_) rfl rfl (by kernel_rfl) (by kernel_rfl) (by kernel_rfl) (by kernel_rfl) (by kernel_rfl) (fun _ _ _ h => h) (by rfl) ?_ ?_
                rotate_left
                · (intro wS hS; skip; go_simp; (try with_reducible rfl))
                simp only [List.setIfInBounds_toArray, List.set_cons_zero, List.set_cons_succ]
                refine cm_done (by kernel_rfl) ?_
                intro wS hS
                refine NoPanic.normal ?_
                have hB3 := Below.next hB2 hS
                clear hS g0 g1 g2 g3 g4 p0 p1 p2 p3 p4
                go_wp2_with fail
                go_ret2
                exact ⟨rfl, hB3⟩
              · have d5 : decide (ltT t u) = false := nb hlt2
                rw [if_neg (fun h => hlt2 h.2)] at hst
                have HST := Lib.hid hst
                clear hlt2 hst
                refine cm_run 14 56 (v := ?_) rfl rfl (by kernel_rfl) (by kernel_rfl) (by kernel_rfl) (by kernel_rfl) (by kernel_rfl) (fun _ _ _ h => h) (by rfl) ?_ ?_
                rotate_left
                · (intro wS hS; skip; go_simp; (try with_reducible rfl))
                simp only [List.setIfInBounds_toArray, List.set_cons_zero, List.set_cons_succ]
                refine cm_run 15 41 (v := ?_) rfl rfl (by kernel_rfl) (by kernel_rfl) (by kernel_rfl) (by kernel_rfl) (by kernel_rfl) (fun _ _ _ h => h) (by rfl) ?_ ?_
                rotate_left
                · (intro wS hS; skip; go_simp; (try with_reducible rfl))
                simp only [List.setIfInBounds_toArray, List.set_cons_zero, List.set_cons_succ]
                refine cm_done (by kernel_rfl) ?_
                intro wS hS
                refine NoPanic.normal ?_
                have hB3 := Below.next hB2 hS
                clear hS g0 g1 g2 g3 g4 p0 p1 p2 p3 p4
                go_wp2_with fail
                go_roundw
                case rel => exact ⟨k + 1, by omega, by go_num, hB3, fun j hj => by
                  by_cases hjk : j = k
                  · subst hjk; exact HST.out
                  · exact HZ0.out j (by omega)⟩
                case measure => simp [intOf]; omega
            · obtain rfl : k = 0 := by omega
              rw [if_neg (fun h => by omega)] at hst
              have HST := Lib.hid hst
              clear hst hk0
              go_upto_region 11 with fail
              refine wp_region_calm (fun w' => Below wS.heap.size wS w') 99 (by kernel_rfl) ((Below.refl _ wS).drew) ?_
              refine cm_run 0 42 (v := ?_) rfl rfl (by kernel_rfl) (by kernel_rfl) (by kernel_rfl) (by kernel_rfl) (by kernel_rfl) (fun _ _ _ h => h) (by rfl) ?_ ?_
              rotate_left
              · (intro wS hS; skip; go_simp; (try with_reducible rfl))
              simp only [List.setIfInBounds_toArray, List.set_cons_zero, List.set_cons_succ]
              refine cm_run 1 43 (v := ?_) rfl rfl (by kernel_rfl) (by kernel_rfl) (by kernel_rfl) (by kernel_rfl) (by kernel_rfl) (fun _ _ _ h => h) (by rfl) ?_ ?_
              rotate_left
              · (intro wS hS; skip; go_simp; (try with_reducible rfl))
              simp only [List.setIfInBounds_toArray, List.set_cons_zero, List.set_cons_succ]
              refine cm_run 2 44 (v := ?_) rfl rfl (by kernel_rfl) (by kernel_rfl) (by kernel_rfl) (by kernel_rfl) (by kernel_rfl) (fun _ _ _ h => h) (by rfl) ?_ ?_
              rotate_left
              · (intro wS hS; skip; go_simp; (try with_reducible rfl))
              simp only [List.setIfInBounds_toArray, List.set_cons_zero, List.set_cons_succ]
              refine cm_shut 3 45 rfl rfl (by kernel_rfl) (by kernel_rfl) (by kernel_rfl) (by kernel_rfl) (by kernel_rfl) (fun _ _ _ h => h) (by rfl) ?_
              simp only [List.setIfInBounds_toArray, List.set_cons_zero, List.set_cons_succ]
              refine cm_shut 4 46 rfl rfl (by kernel_rfl) (by kernel_rfl) (by kernel_rfl) (by kernel_rfl) (by kernel_rfl) (fun _ _ _ h => h) (by rfl) ?_
              simp only [List.setIfInBounds_toArray, List.set_cons_zero, List.set_cons_succ]
              refine cm_shut 5 47 rfl rfl (by kernel_rfl) (by kernel_rfl) (by kernel_rfl) (by kernel_rfl) (by kernel_rfl) (fun _ _ _ h => h) (by rfl) ?_
              simp only [List.setIfInBounds_toArray, List.set_cons_zero, List.set_cons_succ]
              refine cm_shut 6 48 rfl rfl (by kernel_rfl) (by kernel_rfl) (by kernel_rfl) (by kernel_rfl) (by kernel_rfl) (fun _ _ _ h => h) (by rfl) ?_
              simp only [List.setIfInBounds_toArray, List.set_cons_zero, List.set_cons_succ]
              refine cm_shut 7 49 rfl rfl (by kernel_rfl) (by kernel_rfl) (by kernel_rfl) (by kernel_rfl) (by kernel_rfl) (fun _ _ _ h => h) (by rfl) ?_
              simp only [List.setIfInBounds_toArray, List.set_cons_zero, List.set_cons_succ]
              refine cm_shut 8 50 rfl rfl (by kernel_rfl) (by kernel_rfl) (by kernel_rfl) (by kernel_rfl) (by kernel_rfl) (fun _ _ _ h => h) (by rfl) ?_
              simp only [List.setIfInBounds_toArray, List.set_cons_zero, List.set_cons_succ]
              refine cm_shut 9 51 rfl rfl (by kernel_rfl) (by kernel_rfl) (by kernel_rfl) (by kernel_rfl) (by kernel_rfl) (fun _ _ _ h => h) (by rfl) ?_
              simp only [List.setIfInBounds_toArray, List.set_cons_zero, List.set_cons_succ]
              refine cm_shut 10 52 rfl rfl (by kernel_rfl) (by kernel_rfl) (by kernel_rfl) (by kernel_rfl) (by kernel_rfl) (fun _ _ _ h => h) (by rfl) ?_
              simp only [List.setIfInBounds_toArray, List.set_cons_zero, List.set_cons_succ]
              refine cm_shut 11 53 rfl rfl (by kernel_rfl) (by kernel_rfl) (by kernel_rfl) (by kernel_rfl) (by kernel_rfl) (fun _ _ _ h => h) (by rfl) ?_
              simp only [List.setIfInBounds_toArray, List.set_cons_zero, List.set_cons_succ]
              refine cm_shut 12 54 rfl rfl (by kernel_rfl) (by kernel_rfl) (by kernel_rfl) (by kernel_rfl) (by kernel_rfl) (fun _ _ _ h => h) (by rfl) ?_
              simp only [List.setIfInBounds_toArray, List.set_cons_zero, List.set_cons_succ]
              refine cm_shut 13 55 rfl rfl (by kernel_rfl) (by kernel_rfl) (by kernel_rfl) (by kernel_rfl) (by kernel_rfl) (fun _ _ _ h => h) (by rfl) ?_
              simp only [List.setIfInBounds_toArray, List.set_cons_zero, List.set_cons_succ]
              refine cm_run 14 56 (v := ?_) rfl rfl (by kernel_rfl) (by kernel_rfl) (by kernel_rfl) (by kernel_rfl) (by kernel_rfl) (fun _ _ _ h => h) (by rfl) ?_ ?_
              rotate_left
              · (intro wS hS; skip; go_simp; (try with_reducible rfl))
              simp only [List.setIfInBounds_toArray, List.set_cons_zero, List.set_cons_succ]
              refine cm_run 15 41 (v := ?_) rfl rfl (by kernel_rfl) (by kernel_rfl) (by kernel_rfl) (by kernel_rfl) (by kernel_rfl) (fun _ _ _ h => h) (by rfl) ?_ ?_
              rotate_left
              · (intro wS hS; skip; go_simp; (try with_reducible rfl))
              simp only [List.setIfInBounds_toArray, List.set_cons_zero, List.set_cons_succ]
              refine cm_done (by kernel_rfl) ?_
              intro wS hS
              refine NoPanic.normal ?_
              have hB3 := Below.next hB2 hS
              clear hS g0 g1 g2 g3 g4
              go_wp2_with fail
              go_roundw
              case rel => exact ⟨1, by omega, by go_num, hB3, fun j hj => by
                obtain rfl : j = 0 := by omega
                exact HST.out⟩
              case measure => simp [intOf]; omega
      · obtain rfl : k = N := by omega
        have d2 : decide ((k : Int) < (k : Int)) = false := nb (by omega)
        have hs := scanW_zero k HZ0.out
        rw [HEN.out] at hs
        simp only [Prod.mk.injEq] at hs
        obtain ⟨rfl, rfl⟩ := hs
        go_wp2_with fail
        go_ret2
        exact ⟨rfl, hB⟩
end Go.Proofs.Ytigmhglkohjlhaa
