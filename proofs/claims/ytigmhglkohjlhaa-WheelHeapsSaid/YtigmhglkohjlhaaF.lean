


/- Timers: which lists are valid heaps, in both texts. -/
import Derived.Test.YtigmhglkohjlhaaE
namespace Go.Proofs.Ytigmhglkohjlhaa
open Go.RowKit
set_option linter.unusedSimpArgs false
set_option linter.unusedVariables false
set_option maxRecDepth 100000

/-- the first k timers: what the slice expression yields -/
theorem cut_take {w : World} {a : Option Addr} {N c : Nat} {l : List Tm} (h : RdM w (.slice a N c) l) (hN : l.length = N) (k : Nat) (hk : k ≤ N) (T : TypeId) (hT : T = 22 ∨ T = 53) : ∃ v, (∀ w', (Instr.slice T (.slice a N c) none (some (.int .i64 (k : Int))) none).run Try.prog w' = .ok v w') ∧ RdM w v (l.take k) := by
  have hs : ∀ w : World, (sizeOf (Try.prog.elem T)).run Try.prog w = .ok 5 w := fun w => by rcases hT with rfl | rfl <;> kernel_rfl
  have hun : Try.prog.underlying T = some (.slice (Try.prog.elem T)) := by rcases hT with rfl | rfl <;> kernel_rfl
  have hc : N ≤ c := by
    obtain ⟨_, _, ⟨h0, _⟩ | ⟨b, off, cap, hv, hc, _⟩⟩ := h
    · omega
    · simp only [Value.slice.injEq] at hv; omega
  exact ⟨sliced a 0 k c 5, fun w' => by rw [run_slice_h _ _ _ _ _ hun _ _ (by omega) (by omega), hs]; simp, rdl_take h hN k hk⟩
set_option maxHeartbeats 8000000 in
theorem check_is (v : Value) (l : List Tm) (er ix : Int) (hen : chkW l = (er, ix)) (w : World) (h : RdM w v l) :
    Calls Try.prog 17 #[v] w fun x w' => x = .returned (.tuple #[.int .i64 er, .int .i64 ix]) ∧ Below w.heap.size w w' := by
  obtain ⟨a0, n0, rfl⟩ := h.form
  have hmx := h.2.1
  unfold maxLen at hmx
  obtain ⟨N, hN⟩ : ∃ N, l.length = N := ⟨_, rfl⟩
  rw [hN] at h hmx ⊢
  unfold chkW at hen
  rw [hN] at hen
  by_cases h1 : 1000 < N
  · rw [if_pos h1] at hen
    simp only [Prod.mk.injEq] at hen
    obtain ⟨rfl, rfl⟩ := hen
    have d1 : decide ((1000 : Int) < (N : Int)) = true := yb (by omega)
    clear h1 hN h
    go_enter Try.func17, Try.ntmps17
    go_wp2
    go_ret2
    exact ⟨rfl, Below.refl _ _⟩
  · rw [if_neg h1] at hen
    have d1 : decide ((1000 : Int) < (N : Int)) = false := nb (by omega)
    have HEN := Lib.hid hen
    have HR := Lib.hid h
    have HN := Lib.hid hN
    clear hen h hN
    go_enter Try.func17, Try.ntmps17
    go_wp2_with fail
    go_loopw [12] (fun i wr => ∃ k : Nat, k ≤ N ∧ i = .int .i64 k ∧ Below w.heap.size w wr ∧ ∀ j, j < k → stpE l j = 0) (fun i _ => N - (intOf i).toNat)
    case atStart => exact ⟨0, Nat.zero_le _, rfl, Below.refl _ _, fun j hj => by omega⟩
    case round =>
      obtain ⟨k, hk, rfl, hB, hz0⟩ := hrel
      have HZ0 := Lib.hid hz0
      clear hz0
      by_cases hlt : k < N
      · have d2 : decide ((k : Int) < (N : Int)) = true := yb (by omega)
        obtain ⟨b1, o1, rfl, hc1, g0, g1, g2, g3, g4⟩ := RdM.at (HR.out.keep hB) HN.out k hlt
        obtain ⟨t, HT⟩ : ∃ y, Hid (g l k = y) := ⟨_, rfl⟩
        rw [HT.out] at g0 g1 g2 g3 g4
        have n1 : (0 : Int) ≤ (k : Int) := by omega
        have n2 : (k : Int) < (N : Int) := by omega
        have hwk : IntKind.i64.wrap (k : Int) = (k : Int) := IntWalk.i64_in _ (by omega)
        obtain ⟨e, HE⟩ : ∃ e, Hid (valE t = e) := ⟨_, rfl⟩
        obtain ⟨f, HFN⟩ : ∃ f, Hid (fnd (l.take k) t = f) := ⟨_, rfl⟩
        have hst : stpE l k = (if e ≠ 0 then e else if 0 ≤ f then 9 else if 0 < k ∧ ltT t (g l ((k - 1) / 2)) then 19 else 0) := by
          unfold stpE
          rw [HT.out, HE.out, HFN.out]
        obtain ⟨W, hW⟩ : ∃ W : World, W = wr.alloc (.cells #[.int .i64 t.tk, .int .i64 t.kd, .int .i64 t.nd, .int .u64 t.sq, .int .i64 t.of] 41) := ⟨_, rfl⟩
        have hBW : Below w.heap.size w W := by rw [hW]; exact Below.al hB _
        have bT : BoxN W wr.heap.size 41 #[.int .i64 t.tk, .int .i64 t.kd, .int .i64 t.nd, .int .u64 t.sq, .int .i64 t.of] := by rw [hW]; exact BoxN.new _ _ _
        have t0 : W.cell? ⟨wr.heap.size, 0, none⟩ = some (.int .i64 t.tk) := bT.cell 0
        have t1 : W.cell? ⟨wr.heap.size, 1, none⟩ = some (.int .i64 t.kd) := bT.cell 1
        have t2 : W.cell? ⟨wr.heap.size, 2, none⟩ = some (.int .i64 t.nd) := bT.cell 2
        have t3 : W.cell? ⟨wr.heap.size, 3, none⟩ = some (.int .u64 t.sq) := bT.cell 3
        have t4 : W.cell? ⟨wr.heap.size, 4, none⟩ = some (.int .i64 t.of) := bT.cell 4
        by_cases he : e ≠ 0
        · rw [if_pos he] at hst
          have hf := scanW_fail HZ0.out (by rw [hst]; exact he) N (by omega)
          rw [HEN.out, hst] at hf
          simp only [Prod.mk.injEq] at hf
          obtain ⟨rfl, rfl⟩ := hf
          have d3 : (er != 0) = true := by simpa using he
          clear hst he bT
          go_upto_region 6 with fail
          rw [← hW]
          clear hW
          go_wp2_with fail
          refine (valid_any t _ er HE.out).mono ?_
          rintro x w1 ⟨rfl, hb1⟩
          have hB1 := Below.next hBW hb1
          clear hb1 t0 t1 t2 t3 t4 g0 g1 g2 g3 g4
          go_wp2_with fail
          go_ret2
          exact ⟨rfl, hB1⟩
        · obtain rfl : e = 0 := by simpa using he
          rw [if_neg (by decide)] at hst
          clear he bT
          go_upto_region 6 with fail
          rw [← hW]
          clear hW
          go_wp2_with fail
          refine (valid_any t _ 0 HE.out).mono ?_
          rintro x w1 ⟨rfl, hb1⟩
          have hB1 := Below.next hBW hb1
          have t0 := cell_later hb1 t0
          have t1 := cell_later hb1 t1
          have t2 := cell_later hb1 t2
          have t3 := cell_later hb1 t3
          have t4 := cell_later hb1 t4
          have hNc : N ≤ n0 := hc1
          obtain ⟨vt, hvt, hRT⟩ := cut_take (HR.out.keep hB1) HN.out k (by omega) _ (.inl rfl)
          have HRT := Lib.hid hRT
          have HRW := Lib.hid (HR.out.keep hB1)
          clear hb1 g0 g1 g2 g3 g4 hRT hB
          go_upto_region 8 with fail
          refine wp_region_calm (fun w' => Below w1.heap.size w1 w') 99 (by kernel_rfl) ((Below.refl _ w1).drew) ?_
          refine cm_run 0 23 (v := ?_) rfl rfl (by kernel_rfl) (by kernel_rfl) (by kernel_rfl) (by kernel_rfl) (by kernel_rfl) (fun _ _ _ h => h) (by rfl) ?_ ?_
          rotate_left
          · (intro wS hS; skip; go_simp; (try with_reducible rfl))
          simp only [List.setIfInBounds_toArray, List.set_cons_zero, List.set_cons_succ]
          refine cm_run 1 24 (v := ?_) rfl rfl (by kernel_rfl) (by kernel_rfl) (by kernel_rfl) (by kernel_rfl) (by kernel_rfl) (fun _ _ _ h => h) (by rfl) ?_ ?_
          rotate_left
          · (intro wS hS; skip; go_simp; (try with_reducible rfl))
          simp only [List.setIfInBounds_toArray, List.set_cons_zero, List.set_cons_succ]
          refine cm_run 2 25 (v := ?_) rfl rfl (by kernel_rfl) (by kernel_rfl) (by kernel_rfl) (by kernel_rfl) (by kernel_rfl) (fun _ _ _ h => h) (by rfl) ?_ ?_
          rotate_left
          · (intro wS hS; have hg := hvt; go_simp; (try with_reducible rfl))
          simp only [List.setIfInBounds_toArray, List.set_cons_zero, List.set_cons_succ]
          refine cm_run 3 26 (v := ?_) rfl rfl (by kernel_rfl) (by kernel_rfl) (by kernel_rfl) (by kernel_rfl) (by kernel_rfl) (fun _ _ _ h => h) (by rfl) ?_ ?_
          rotate_left
          · (intro wS hS; skip; go_simp; (try with_reducible rfl))
          simp only [List.setIfInBounds_toArray, List.set_cons_zero, List.set_cons_succ]
          refine cm_run 4 27 (v := ?_) rfl rfl (by kernel_rfl) (by kernel_rfl) (by kernel_rfl) (by kernel_rfl) (by kernel_rfl) (fun _ _ _ h => h) (by rfl) ?_ ?_
          rotate_left
          · (intro wS hS; have hg := cell_later hS t1; go_simp; (try with_reducible rfl))
          simp only [List.setIfInBounds_toArray, List.set_cons_zero, List.set_cons_succ]
          refine cm_run 5 28 (v := ?_) rfl rfl (by kernel_rfl) (by kernel_rfl) (by kernel_rfl) (by kernel_rfl) (by kernel_rfl) (fun _ _ _ h => h) (by rfl) ?_ ?_
          rotate_left
          · (intro wS hS; skip; go_simp; (try with_reducible rfl))
          simp only [List.setIfInBounds_toArray, List.set_cons_zero, List.set_cons_succ]
          refine cm_run 6 29 (v := ?_) rfl rfl (by kernel_rfl) (by kernel_rfl) (by kernel_rfl) (by kernel_rfl) (by kernel_rfl) (fun _ _ _ h => h) (by rfl) ?_ ?_
          rotate_left
          · (intro wS hS; (have h2 := cell_later hS t2; have h3 := cell_later hS t3; have h4 := cell_later hS t4); go_simp; (try with_reducible rfl))
          simp only [List.setIfInBounds_toArray, List.set_cons_zero, List.set_cons_succ]
          refine cm_call 7 30 36 (v := .int .i64 f) (args := ?_) rfl rfl (by kernel_rfl) (by kernel_rfl) (by kernel_rfl) (by kernel_rfl) (by kernel_rfl) (fun _ _ _ h => h) (by rfl) ?_ ?_ ?_
          rotate_left 1
          · (intro wS hS; go_simp; (try with_reducible rfl))
          · (intro wS hS; refine (find_any _ (l.take k) t _ (HRT.out.keep hS)).mono ?_; (rw [HFN.out]; rintro e w2 ⟨rfl, hb⟩; exact ⟨rfl, Below.next hS hb⟩))
          simp only [List.setIfInBounds_toArray, List.set_cons_zero, List.set_cons_succ]
          by_cases hf0 : 0 ≤ f
          · have d4 : decide (0 ≤ f) = true := yb hf0
            rw [if_pos hf0] at hst
            have hf := scanW_fail HZ0.out (by rw [hst]; decide) N (by omega)
            rw [HEN.out, hst] at hf
            simp only [Prod.mk.injEq] at hf
            obtain ⟨rfl, rfl⟩ := hf
            clear hst
            clear hf0
            refine cm_run 8 31 (v := ?_) rfl rfl (by kernel_rfl) (by kernel_rfl) (by kernel_rfl) (by kernel_rfl) (by kernel_rfl) (fun _ _ _ h => h) (by rfl) ?_ ?_
            rotate_left
            · (intro wS hS; skip; go_simp; (try with_reducible rfl))
            simp only [List.setIfInBounds_toArray, List.set_cons_zero, List.set_cons_succ]
            refine cm_run 9 22 (v := ?_) rfl rfl (by kernel_rfl) (by kernel_rfl) (by kernel_rfl) (by kernel_rfl) (by kernel_rfl) (fun _ _ _ h => h) (by rfl) ?_ ?_
            rotate_left
            · (intro wS hS; skip; go_simp; (try with_reducible rfl))
            simp only [List.setIfInBounds_toArray, List.set_cons_zero, List.set_cons_succ]
            refine cm_done (by kernel_rfl) ?_
            intro wS hS
            refine NoPanic.normal ?_
            have hB2 := Below.next hB1 hS
            clear hS t0 t1 t2 t3 t4
            go_wp2_with fail
            go_ret2
            exact ⟨rfl, hB2⟩
          · have d4 : decide (0 ≤ f) = false := nb hf0
            rw [if_neg hf0] at hst
            clear hf0
            refine cm_run 8 31 (v := ?_) rfl rfl (by kernel_rfl) (by kernel_rfl) (by kernel_rfl) (by kernel_rfl) (by kernel_rfl) (fun _ _ _ h => h) (by rfl) ?_ ?_
            rotate_left
            · (intro wS hS; skip; go_simp; (try with_reducible rfl))
            simp only [List.setIfInBounds_toArray, List.set_cons_zero, List.set_cons_succ]
            refine cm_run 9 22 (v := ?_) rfl rfl (by kernel_rfl) (by kernel_rfl) (by kernel_rfl) (by kernel_rfl) (by kernel_rfl) (fun _ _ _ h => h) (by rfl) ?_ ?_
            rotate_left
            · (intro wS hS; skip; go_simp; (try with_reducible rfl))
            simp only [List.setIfInBounds_toArray, List.set_cons_zero, List.set_cons_succ]
            refine cm_done (by kernel_rfl) ?_
            intro wS hS
            refine NoPanic.normal ?_
            have hB2 := Below.next hB1 hS
            have t0 := cell_later hS t0
            have t1 := cell_later hS t1
            have t2 := cell_later hS t2
            have t3 := cell_later hS t3
            have t4 := cell_later hS t4
            have HRW := Lib.hid (HRW.out.keep hS)
            clear hS
            by_cases hk0 : 0 < k
            · obtain ⟨p, hp⟩ : ∃ p, (k - 1) / 2 = p := ⟨_, rfl⟩
              have hpN : p < N := by omega
              have hq : IntKind.i64.wrap (((k : Int) - 1).tdiv 2) = (p : Int) := by rw [Int.tdiv_eq_ediv_of_nonneg (by omega), show ((k : Int) - 1) / 2 = (p : Int) by omega]; exact IntWalk.i64_in _ (by omega)
              obtain ⟨b3, o3, he3, _, p0, p1, p2, p3, p4⟩ := RdM.at HRW.out HN.out p hpN
              cases he3
              obtain ⟨u, HU⟩ : ∃ y, Hid (g l p = y) := ⟨_, rfl⟩
              rw [HU.out] at p0 p1 p2 p3 p4
              rw [hp, HU.out] at hst
              have hwk1 : IntKind.i64.wrap ((k : Int) - 1) = (k : Int) - 1 := IntWalk.i64_in _ (by omega)
              have hwp : IntKind.i64.wrap (p : Int) = (p : Int) := IntWalk.i64_in _ (by omega)
              have m0 : decide ((0 : Int) < (k : Int)) = true := yb (by omega)
              have m0' : decide (0 < k) = true := yb hk0
              have m1 : (0 : Int) ≤ (k : Int) - 1 := by omega
              have m2 : (0 : Int) ≤ (p : Int) := by omega
              have m3 : (p : Int) < (N : Int) := by omega
              have HQ := Lib.hid hq
              have HP := Lib.hid hp
              have HK0 := Lib.hid hk0
              clear hq hp hk0
              go_upto_region 10 with fail
              refine wp_region_calm (fun w' => Below wS.heap.size wS w') 99 (by kernel_rfl) ((Below.refl _ wS).drew) ?_
              refine cm_run 0 33 (v := ?_) rfl rfl (by kernel_rfl) (by kernel_rfl) (by kernel_rfl) (by kernel_rfl) (by kernel_rfl) (fun _ _ _ h => h) (by rfl) ?_ ?_
              rotate_left
              · (intro wS hS; skip; go_simp; (try with_reducible rfl))
              simp only [List.setIfInBounds_toArray, List.set_cons_zero, List.set_cons_succ]
              refine cm_run 1 34 (v := ?_) rfl rfl (by kernel_rfl) (by kernel_rfl) (by kernel_rfl) (by kernel_rfl) (by kernel_rfl) (fun _ _ _ h => h) (by rfl) ?_ ?_
              rotate_left
              · (intro wS hS; skip; go_simp; (try with_reducible rfl))
              simp only [List.setIfInBounds_toArray, List.set_cons_zero, List.set_cons_succ]
              refine cm_run 2 35 (v := ?_) rfl rfl (by kernel_rfl) (by kernel_rfl) (by kernel_rfl) (by kernel_rfl) (by kernel_rfl) (fun _ _ _ h => h) (by rfl) ?_ ?_
              rotate_left
              · (intro wS hS; skip; go_simp; (try with_reducible rfl))
              simp only [List.setIfInBounds_toArray, List.set_cons_zero, List.set_cons_succ]
              refine cm_run 3 36 (v := ?_) rfl rfl (by kernel_rfl) (by kernel_rfl) (by kernel_rfl) (by kernel_rfl) (by kernel_rfl) (fun _ _ _ h => h) (by rfl) ?_ ?_
              rotate_left
              · (intro wS hS; (have h0 := cell_later hS t0; have h1 := cell_later hS t1; have h2 := cell_later hS t2; have h3 := cell_later hS t3; have h4 := cell_later hS t4); go_simp; (try with_reducible rfl))
              simp only [List.setIfInBounds_toArray, List.set_cons_zero, List.set_cons_succ]
              refine cm_run 4 37 (v := ?_) rfl rfl (by kernel_rfl) (by kernel_rfl) (by kernel_rfl) (by kernel_rfl) (by kernel_rfl) (fun _ _ _ h => h) (by rfl) ?_ ?_
              rotate_left
              · (intro wS hS; skip; go_simp; (try with_reducible rfl))
              simp only [List.setIfInBounds_toArray, List.set_cons_zero, List.set_cons_succ]
              refine cm_run 5 38 (v := ?_) rfl rfl (by kernel_rfl) (by kernel_rfl) (by kernel_rfl) (by kernel_rfl) (by kernel_rfl) (fun _ _ _ h => h) (by rfl) ?_ ?_
              rotate_left
              · (intro wS hS; skip; go_simp; (try with_reducible rfl))
              simp only [List.setIfInBounds_toArray, List.set_cons_zero, List.set_cons_succ]
              refine cm_run 6 39 (v := ?_) rfl rfl (by kernel_rfl) (by kernel_rfl) (by kernel_rfl) (by kernel_rfl) (by kernel_rfl) (fun _ _ _ h => h) (by rfl) ?_ ?_
              rotate_left
              · (intro wS hS; skip; go_simp; (try with_reducible rfl))
              simp only [List.setIfInBounds_toArray, List.set_cons_zero, List.set_cons_succ]
              refine cm_run 7 40 (v := .int .i64 (p : Int)) rfl rfl (by kernel_rfl) (by kernel_rfl) (by kernel_rfl) (by kernel_rfl) (by kernel_rfl) (fun _ _ _ h => h) (by rfl) ?_ ?_
              · (intro wS hS; have hq := HQ.out; go_simp; (try with_reducible rfl))
              simp only [List.setIfInBounds_toArray, List.set_cons_zero, List.set_cons_succ]
              refine cm_run 8 41 (v := ?_) rfl rfl (by kernel_rfl) (by kernel_rfl) (by kernel_rfl) (by kernel_rfl) (by kernel_rfl) (fun _ _ _ h => h) (by rfl) ?_ ?_
              rotate_left
              · (intro wS hS; skip; go_simp; (try with_reducible rfl))
              simp only [List.setIfInBounds_toArray, List.set_cons_zero, List.set_cons_succ]
              refine cm_run 9 42 (v := ?_) rfl rfl (by kernel_rfl) (by kernel_rfl) (by kernel_rfl) (by kernel_rfl) (by kernel_rfl) (fun _ _ _ h => h) (by rfl) ?_ ?_
              rotate_left
              · (intro wS hS; (have h0 := cell_later hS p0; have h1 := cell_later hS p1; have h2 := cell_later hS p2; have h3 := cell_later hS p3; have h4 := cell_later hS p4); go_simp; (try with_reducible rfl))
              simp only [List.setIfInBounds_toArray, List.set_cons_zero, List.set_cons_succ]
              refine cm_call 10 43 37 (v := .int .i64 (cmpT t u)) (args := ?_) rfl rfl (by kernel_rfl) (by kernel_rfl) (by kernel_rfl) (by kernel_rfl) (by kernel_rfl) (fun _ _ _ h => h) (by rfl) ?_ ?_ ?_
              rotate_left 1
              · (intro wS hS; go_simp; (try with_reducible rfl))
              · (intro wS hS; refine (compare_any t u _).mono ?_; (rintro e w2 ⟨rfl, hb⟩; exact ⟨rfl, Below.next hS hb⟩))
              simp only [List.setIfInBounds_toArray, List.set_cons_zero, List.set_cons_succ]
              by_cases hlt2 : ltT t u
              · have d5 : decide (cmpT t u < 0) = true := yb ((cmpT_lt t u).2 hlt2)
                rw [if_pos ⟨HK0.out, hlt2⟩] at hst
                have hf := scanW_fail HZ0.out (by rw [hst]; decide) N (by omega)
                rw [HEN.out, hst] at hf
                simp only [Prod.mk.injEq] at hf
                obtain ⟨rfl, rfl⟩ := hf
                clear hst
                clear hlt2
                refine cm_run 11 44 (v := ?_) rfl rfl (by kernel_rfl) (by kernel_rfl) (by kernel_rfl) (by kernel_rfl) (by kernel_rfl) (fun _ _ _ h => h) (by rfl) ?_ ?_
                rotate_left
                · (intro wS hS; skip; go_simp; (try with_reducible rfl))
                simp only [List.setIfInBounds_toArray, List.set_cons_zero, List.set_cons_succ]
                refine cm_run 12 45 (v := ?_) rfl rfl (by kernel_rfl) (by kernel_rfl) (by kernel_rfl) (by kernel_rfl) (by kernel_rfl) (fun _ _ _ h => h) (by rfl) ?_ ?_
                rotate_left
                · (intro wS hS; skip; go_simp; (try with_reducible rfl))
                simp only [List.setIfInBounds_toArray, List.set_cons_zero, List.set_cons_succ]
                refine cm_run 13 32 (v := ?_) rfl rfl (by kernel_rfl) (by kernel_rfl) (by kernel_rfl) (by kernel_rfl) (by kernel_rfl) (fun _ _ _ h => h) (by rfl) ?_ ?_
                rotate_left
                · (intro wS hS; skip; go_simp; (try with_reducible rfl))
                simp only [List.setIfInBounds_toArray, List.set_cons_zero, List.set_cons_succ]
                refine cm_done (by kernel_rfl) ?_
                intro wS hS
                refine NoPanic.normal ?_
                have hB3 := Below.next hB2 hS
                clear hS t0 t1 t2 t3 t4 p0 p1 p2 p3 p4
                go_wp2_with fail
                go_ret2
                exact ⟨rfl, hB3⟩
              · have d5 : decide (cmpT t u < 0) = false := nb (fun h => hlt2 ((cmpT_lt t u).1 h))
                rw [if_neg (fun h => hlt2 h.2)] at hst
                have HST := Lib.hid hst
                clear hlt2 hst
                refine cm_run 11 44 (v := ?_) rfl rfl (by kernel_rfl) (by kernel_rfl) (by kernel_rfl) (by kernel_rfl) (by kernel_rfl) (fun _ _ _ h => h) (by rfl) ?_ ?_
                rotate_left
                · (intro wS hS; skip; go_simp; (try with_reducible rfl))
                simp only [List.setIfInBounds_toArray, List.set_cons_zero, List.set_cons_succ]
                refine cm_run 12 45 (v := ?_) rfl rfl (by kernel_rfl) (by kernel_rfl) (by kernel_rfl) (by kernel_rfl) (by kernel_rfl) (fun _ _ _ h => h) (by rfl) ?_ ?_
                rotate_left
                · (intro wS hS; skip; go_simp; (try with_reducible rfl))
                simp only [List.setIfInBounds_toArray, List.set_cons_zero, List.set_cons_succ]
                refine cm_run 13 32 (v := ?_) rfl rfl (by kernel_rfl) (by kernel_rfl) (by kernel_rfl) (by kernel_rfl) (by kernel_rfl) (fun _ _ _ h => h) (by rfl) ?_ ?_
                rotate_left
                · (intro wS hS; skip; go_simp; (try with_reducible rfl))
                simp only [List.setIfInBounds_toArray, List.set_cons_zero, List.set_cons_succ]
                refine cm_done (by kernel_rfl) ?_
                intro wS hS
                refine NoPanic.normal ?_
                have hB3 := Below.next hB2 hS
                clear hS t0 t1 t2 t3 t4 p0 p1 p2 p3 p4
                go_wp2_with fail
                go_roundw
                case rel => exact ⟨k + 1, by omega, by go_num, hB3, fun j hj => by
                  by_cases hjk : j = k
                  · subst hjk; exact HST.out
                  · exact HZ0.out j (by omega)⟩
                case measure => simp [intOf]; omega
            · obtain rfl : k = 0 := by omega
              rw [if_neg (fun h => by omega)] at hst
              have HST := Lib.hid hst
              clear hst hk0
              go_upto_region 10 with fail
              refine wp_region_calm (fun w' => Below wS.heap.size wS w') 99 (by kernel_rfl) ((Below.refl _ wS).drew) ?_
              refine cm_run 0 33 (v := ?_) rfl rfl (by kernel_rfl) (by kernel_rfl) (by kernel_rfl) (by kernel_rfl) (by kernel_rfl) (fun _ _ _ h => h) (by rfl) ?_ ?_
              rotate_left
              · (intro wS hS; skip; go_simp; (try with_reducible rfl))
              simp only [List.setIfInBounds_toArray, List.set_cons_zero, List.set_cons_succ]
              refine cm_run 1 34 (v := ?_) rfl rfl (by kernel_rfl) (by kernel_rfl) (by kernel_rfl) (by kernel_rfl) (by kernel_rfl) (fun _ _ _ h => h) (by rfl) ?_ ?_
              rotate_left
              · (intro wS hS; skip; go_simp; (try with_reducible rfl))
              simp only [List.setIfInBounds_toArray, List.set_cons_zero, List.set_cons_succ]
              refine cm_run 2 35 (v := ?_) rfl rfl (by kernel_rfl) (by kernel_rfl) (by kernel_rfl) (by kernel_rfl) (by kernel_rfl) (fun _ _ _ h => h) (by rfl) ?_ ?_
              rotate_left
              · (intro wS hS; skip; go_simp; (try with_reducible rfl))
              simp only [List.setIfInBounds_toArray, List.set_cons_zero, List.set_cons_succ]
              refine cm_shut 3 36 rfl rfl (by kernel_rfl) (by kernel_rfl) (by kernel_rfl) (by kernel_rfl) (by kernel_rfl) (fun _ _ _ h => h) (by rfl) ?_
              simp only [List.setIfInBounds_toArray, List.set_cons_zero, List.set_cons_succ]
              refine cm_shut 4 37 rfl rfl (by kernel_rfl) (by kernel_rfl) (by kernel_rfl) (by kernel_rfl) (by kernel_rfl) (fun _ _ _ h => h) (by rfl) ?_
              simp only [List.setIfInBounds_toArray, List.set_cons_zero, List.set_cons_succ]
              refine cm_shut 5 38 rfl rfl (by kernel_rfl) (by kernel_rfl) (by kernel_rfl) (by kernel_rfl) (by kernel_rfl) (fun _ _ _ h => h) (by rfl) ?_
              simp only [List.setIfInBounds_toArray, List.set_cons_zero, List.set_cons_succ]
              refine cm_shut 6 39 rfl rfl (by kernel_rfl) (by kernel_rfl) (by kernel_rfl) (by kernel_rfl) (by kernel_rfl) (fun _ _ _ h => h) (by rfl) ?_
              simp only [List.setIfInBounds_toArray, List.set_cons_zero, List.set_cons_succ]
              refine cm_shut 7 40 rfl rfl (by kernel_rfl) (by kernel_rfl) (by kernel_rfl) (by kernel_rfl) (by kernel_rfl) (fun _ _ _ h => h) (by rfl) ?_
              simp only [List.setIfInBounds_toArray, List.set_cons_zero, List.set_cons_succ]
              refine cm_shut 8 41 rfl rfl (by kernel_rfl) (by kernel_rfl) (by kernel_rfl) (by kernel_rfl) (by kernel_rfl) (fun _ _ _ h => h) (by rfl) ?_
              simp only [List.setIfInBounds_toArray, List.set_cons_zero, List.set_cons_succ]
              refine cm_shut 9 42 rfl rfl (by kernel_rfl) (by kernel_rfl) (by kernel_rfl) (by kernel_rfl) (by kernel_rfl) (fun _ _ _ h => h) (by rfl) ?_
              simp only [List.setIfInBounds_toArray, List.set_cons_zero, List.set_cons_succ]
              refine cm_shut 10 43 rfl rfl (by kernel_rfl) (by kernel_rfl) (by kernel_rfl) (by kernel_rfl) (by kernel_rfl) (fun _ _ _ h => h) (by rfl) ?_
              simp only [List.setIfInBounds_toArray, List.set_cons_zero, List.set_cons_succ]
              refine cm_shut 11 44 rfl rfl (by kernel_rfl) (by kernel_rfl) (by kernel_rfl) (by kernel_rfl) (by kernel_rfl) (fun _ _ _ h => h) (by rfl) ?_
              simp only [List.setIfInBounds_toArray, List.set_cons_zero, List.set_cons_succ]
              refine cm_run 12 45 (v := ?_) rfl rfl (by kernel_rfl) (by kernel_rfl) (by kernel_rfl) (by kernel_rfl) (by kernel_rfl) (fun _ _ _ h => h) (by rfl) ?_ ?_
              rotate_left
              · (intro wS hS; skip; go_simp; (try with_reducible rfl))
              simp only [List.setIfInBounds_toArray, List.set_cons_zero, List.set_cons_succ]
              refine cm_run 13 32 (v := ?_) rfl rfl (by kernel_rfl) (by kernel_rfl) (by kernel_rfl) (by kernel_rfl) (by kernel_rfl) (fun _ _ _ h => h) (by rfl) ?_ ?_
              rotate_left
              · (intro wS hS; skip; go_simp; (try with_reducible rfl))
              simp only [List.setIfInBounds_toArray, List.set_cons_zero, List.set_cons_succ]
              refine cm_done (by kernel_rfl) ?_
              intro wS hS
              refine NoPanic.normal ?_
              have hB3 := Below.next hB2 hS
              clear hS t0 t1 t2 t3 t4
              go_wp2_with fail
              go_roundw
              case rel => exact ⟨1, by omega, by go_num, hB3, fun j hj => by
                obtain rfl : j = 0 := by omega
                exact HST.out⟩
              case measure => simp [intOf]; omega
      · obtain rfl : k = N := by omega
        have d2 : decide ((k : Int) < (k : Int)) = false := nb (by omega)
        have hs := scanW_zero k HZ0.out
        rw [HEN.out] at hs
        simp only [Prod.mk.injEq] at hs
        obtain ⟨rfl, rfl⟩ := hs
        go_wp2_with fail
        go_ret2
        exact ⟨rfl, hB⟩
end Go.Proofs.Ytigmhglkohjlhaa
