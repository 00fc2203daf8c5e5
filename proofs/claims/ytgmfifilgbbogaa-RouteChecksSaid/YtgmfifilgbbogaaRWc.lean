


/- RouteChecks: the law's walk. -/
import Derived.Test.YtgmfifilgbbogaaRUa
import Derived.Test.YtgmfifilgbbogaaRX
namespace Go.Proofs.Ytgmfifilgbbogaa
open Go.RowKit
set_option linter.unusedSimpArgs false
set_option linter.unusedVariables false
set_option maxRecDepth 100000

set_option maxHeartbeats 20000000 in
theorem lawChecks (cs : List Ct) (pv av bv : Value) (u v t n ra rb : Int) (la lb : List Int) (hwf : ∀ c, c ∈ cs → Wf c) (w : World) (hr : RdC w pv cs) (ha : RdR w av ra la) (hb : RdR w bv rb lb) :
    Calls Try.prog 4 #[pv, .int .i64 u, .int .i64 v, .int .i64 t, .int .i64 n, av, bv] w fun e w' => e = .returned (.bool true) ∧ Below w.heap.size w w' := by
  obtain ⟨a0, n0, rfl⟩ := hr.form
  obtain ⟨cva, rfl, hla⟩ := ha
  obtain ⟨cvb, rfl, hlb⟩ := hb
  obtain ⟨aa, na, rfl⟩ := hla.form
  obtain ⟨ab, nbb, rfl⟩ := hlb.form
  have hNM : cs.length ≤ 9223372036854775807 := by have := hr.2.1; unfold maxLen at this; omega
  obtain ⟨N, hN⟩ : ∃ N, cs.length = N := ⟨_, rfl⟩
  obtain ⟨LA, hLA⟩ : ∃ N, la.length = N := ⟨_, rfl⟩
  obtain ⟨LB, hLB⟩ : ∃ N, lb.length = N := ⟨_, rfl⟩
  rw [hN] at hr hNM ⊢
  rw [hLA] at hla ⊢
  rw [hLB] at hlb ⊢
  obtain ⟨W, hW⟩ : ∃ W : World, W = (w.alloc (.cells #[.slice aa LA na, .int .i64 ra] 27)).alloc (.cells #[.slice ab LB nbb, .int .i64 rb] 27) := ⟨_, rfl⟩
  have hB0 : Below w.heap.size w W := by rw [hW]; exact (by repeat (first | assumption | exact Below.refl _ _ | apply Below.al | apply below_drewN | apply Below.drew | refine Below.next ?_ (by assumption)))
  have hA : BoxN W w.heap.size 27 #[.slice aa LA na, .int .i64 ra] := by rw [hW]; exact (BoxN.new w _ _).below (by repeat (first | assumption | exact Below.refl _ _ | apply Below.al | apply below_drewN | apply Below.drew | refine Below.next ?_ (by assumption)))
  have hBb : BoxN W (w.heap.size + 1) 27 #[.slice ab LB nbb, .int .i64 rb] := by
    rw [hW]
    have := BoxN.new (w.alloc (.cells #[.slice aa LA na, .int .i64 ra] 27)) 27 #[.slice ab LB nbb, .int .i64 rb]
    simpa using this
  have x0 : W.cell? ⟨w.heap.size, 0, none⟩ = some (.slice aa LA na) := hA.cell 0
  have x1 : W.cell? ⟨w.heap.size, 1, none⟩ = some (.int .i64 ra) := hA.cell 1
  have y0 : W.cell? ⟨w.heap.size + 1, 0, none⟩ = some (.slice ab LB nbb) := hBb.cell 0
  have y1 : W.cell? ⟨w.heap.size + 1, 1, none⟩ = some (.int .i64 rb) := hBb.cell 1
  have HR := Lib.hid hr
  have hRA := hla.keep hB0
  have hRB := hlb.keep hB0
  have hRC := hr.keep hB0
  obtain ⟨ck, hck⟩ : ∃ ck, checkV cs u v t n ra la = ck := ⟨_, rfl⟩
  obtain ⟨cm, hcm⟩ : ∃ cm, cmpR ra la rb lb = cm := ⟨_, rfl⟩
  have HCK : Hid (∀ w', Below W.heap.size W w' → Calls Try.prog 21 #[.slice a0 N n0, .int .i64 u, .int .i64 v, .int .i64 t, .int .i64 n, .agg #[.slice aa LA na, .int .i64 ra]] w' fun e w'' => e = .returned (.int .i64 ck) ∧ Below w'.heap.size w' w'') := Lib.hid (fun w' hb => by
    rw [← hck]
    exact check_any _ _ cs u v t n ra la hwf w' (hRC.keep hb) ⟨_, rfl, hRA.keep hb⟩)
  have HCR : Hid (∀ w', Below W.heap.size W w' → Calls Try.prog 22 #[.slice a0 N n0, .int .i64 u, .int .i64 v, .int .i64 t, .int .i64 n, .agg #[.slice aa LA na, .int .i64 ra]] w' fun e w'' => e = .returned (.int .i64 ck) ∧ Below w'.heap.size w' w'') := Lib.hid (fun w' hb => by
    rw [← hck]
    exact rcheck_any _ _ cs u v t n ra la w' (hRC.keep hb) ⟨_, rfl, hRA.keep hb⟩)
  have HMA : Hid (∀ w', Below W.heap.size W w' → Calls Try.prog 23 #[.agg #[.slice aa LA na, .int .i64 ra], .agg #[.slice ab LB nbb, .int .i64 rb]] w' fun e w'' => e = .returned (.int .i64 cm) ∧ Below w'.heap.size w' w'') := Lib.hid (fun w' hb => by
    rw [← hcm]
    exact cmpr_any _ _ ra rb la lb w' ⟨_, rfl, hRA.keep hb⟩ ⟨_, rfl, hRB.keep hb⟩)
  have HMR : Hid (∀ w', Below W.heap.size W w' → Calls Try.prog 24 #[.agg #[.slice aa LA na, .int .i64 ra], .agg #[.slice ab LB nbb, .int .i64 rb]] w' fun e w'' => e = .returned (.int .i64 cm) ∧ Below w'.heap.size w' w'') := Lib.hid (fun w' hb => by
    rw [← hcm]
    exact rcmpr_any _ _ ra rb la lb w' ⟨_, rfl, hRA.keep hb⟩ ⟨_, rfl, hRB.keep hb⟩)
  have HRB0 := Lib.hid hRB
  have HB := Lib.hid hB0
  have HNM := Lib.hid hNM
  have HLB := Lib.hid hLB
  have HWF := Lib.hid hwf
  have f1 : (ck != ck) = false := by simp
  have f2 : (cm != cm) = false := by simp
  clear hr hla hlb hRA hRB hRC hck hcm hN hLA hLB hNM hA hBb hB0 hwf
  by_cases h1 : 40 < N
  · have d1 : decide ((N : Int) > 40) = true := yb (by omega)
    by_cases h2 : N ≤ 200
    · have d2 : decide ((N : Int) ≤ 200) = true := yb (by omega)
      clear h1 h2
      go_enter Try.func4, Try.ntmps4
      go_upto_region 1 with fail
      rw [← hW]
      clear hW
      go_wp2_with fail
      refine (awake_any W).mono ?_
      rintro e w2 ⟨rfl, hb⟩
      go_wp2_with fail
      go_ret
      exact ⟨rfl, Below.next HB.out hb⟩
    · have d2 : decide ((N : Int) ≤ 200) = false := nb (by omega)
      clear h1 h2
      by_cases h3 : 205 < N
      · have d3 : decide ((N : Int) > 205) = true := yb (by omega)
        clear h3
        go_enter Try.func4, Try.ntmps4
        go_upto_region 1 with fail
        rw [← hW]
        clear hW
        go_wp2_with fail
        refine (awake_any W).mono ?_
        rintro e w2 ⟨rfl, hb⟩
        go_wp2_with fail
        go_ret
        exact ⟨rfl, Below.next HB.out hb⟩
      · have d3 : decide ((N : Int) > 205) = false := nb (by omega)
        by_cases h4 : 40 < LA
        · have d4 : decide ((LA : Int) > 40) = true := yb (by omega)
          clear h3 h4
          go_enter Try.func4, Try.ntmps4
          go_upto_region 1 with fail
          rw [← hW]
          clear hW
          go_wp2_with fail
          refine (awake_any W).mono ?_
          rintro e w2 ⟨rfl, hb⟩
          go_wp2_with fail
          go_ret
          exact ⟨rfl, Below.next HB.out hb⟩
        · have d4 : decide ((LA : Int) > 40) = false := nb (by omega)
          by_cases h5 : 40 < LB
          · have d5 : decide ((LB : Int) > 40) = true := yb (by omega)
            clear h3 h4 h5
            go_enter Try.func4, Try.ntmps4
            go_upto_region 1 with fail
            rw [← hW]
            clear hW
            go_wp2_with fail
            refine (awake_any W).mono ?_
            rintro e w2 ⟨rfl, hb⟩
            go_wp2_with fail
            go_ret
            exact ⟨rfl, Below.next HB.out hb⟩
          · have d5 : decide ((LB : Int) > 40) = false := nb (by omega)
            clear h3 h4 h5
            go_enter Try.func4, Try.ntmps4
            go_upto_region 1 with fail
            rw [← hW]
            clear hW
            go_upto_region 3 with fail
            refine wp_region_calm (fun w' => Below W.heap.size W w') 99 (by kernel_rfl) ((Below.refl _ W).drew) ?_
            refine cm_run 0 46 (v := ?_) rfl rfl (by kernel_rfl) (by kernel_rfl) (by kernel_rfl) (by kernel_rfl) (by kernel_rfl) (fun _ _ _ h => h) (by rfl) ?_ ?_
            rotate_left
            · (intro wS hS; skip; go_simp; (try with_reducible rfl))
            simp only [List.setIfInBounds_toArray, List.set_cons_zero, List.set_cons_succ]
            refine cm_run 1 47 (v := ?_) rfl rfl (by kernel_rfl) (by kernel_rfl) (by kernel_rfl) (by kernel_rfl) (by kernel_rfl) (fun _ _ _ h => h) (by rfl) ?_ ?_
            rotate_left
            · (intro wS hS; skip; go_simp; (try with_reducible rfl))
            simp only [List.setIfInBounds_toArray, List.set_cons_zero, List.set_cons_succ]
            refine cm_run 2 48 (v := ?_) rfl rfl (by kernel_rfl) (by kernel_rfl) (by kernel_rfl) (by kernel_rfl) (by kernel_rfl) (fun _ _ _ h => h) (by rfl) ?_ ?_
            rotate_left
            · (intro wS hS; skip; go_simp; (try with_reducible rfl))
            simp only [List.setIfInBounds_toArray, List.set_cons_zero, List.set_cons_succ]
            refine cm_run 3 49 (v := ?_) rfl rfl (by kernel_rfl) (by kernel_rfl) (by kernel_rfl) (by kernel_rfl) (by kernel_rfl) (fun _ _ _ h => h) (by rfl) ?_ ?_
            rotate_left
            · (intro wS hS; skip; go_simp; (try with_reducible rfl))
            simp only [List.setIfInBounds_toArray, List.set_cons_zero, List.set_cons_succ]
            refine cm_run 4 50 (v := ?_) rfl rfl (by kernel_rfl) (by kernel_rfl) (by kernel_rfl) (by kernel_rfl) (by kernel_rfl) (fun _ _ _ h => h) (by rfl) ?_ ?_
            rotate_left
            · (intro wS hS; skip; go_simp; (try with_reducible rfl))
            simp only [List.setIfInBounds_toArray, List.set_cons_zero, List.set_cons_succ]
            refine cm_run 5 51 (v := .agg #[.slice aa LA na, .int .i64 ra]) rfl rfl (by kernel_rfl) (by kernel_rfl) (by kernel_rfl) (by kernel_rfl) (by kernel_rfl) (fun _ _ _ h => h) (by rfl) ?_ ?_
            · (intro wS hS; (have j0 := cell_later hS x0; have j1 := cell_later hS x1); go_simp; (try with_reducible rfl))
            simp only [List.setIfInBounds_toArray, List.set_cons_zero, List.set_cons_succ]
            refine cm_call 6 52 21 (v := .int .i64 ck) (args := ?_) rfl rfl (by kernel_rfl) (by kernel_rfl) (by kernel_rfl) (by kernel_rfl) (by kernel_rfl) (fun _ _ _ h => h) (by rfl) ?_ ?_ ?_
            rotate_left 1
            · (intro wS hS; go_simp; (try with_reducible rfl))
            · (intro wS hS; refine (HCK.out _ hS).mono ?_; (rintro e w2 ⟨rfl, hb⟩; exact ⟨rfl, Below.next hS hb⟩))
            simp only [List.setIfInBounds_toArray, List.set_cons_zero, List.set_cons_succ]
            refine cm_run 7 53 (v := ?_) rfl rfl (by kernel_rfl) (by kernel_rfl) (by kernel_rfl) (by kernel_rfl) (by kernel_rfl) (fun _ _ _ h => h) (by rfl) ?_ ?_
            rotate_left
            · (intro wS hS; skip; go_simp; (try with_reducible rfl))
            simp only [List.setIfInBounds_toArray, List.set_cons_zero, List.set_cons_succ]
            refine cm_run 8 54 (v := ?_) rfl rfl (by kernel_rfl) (by kernel_rfl) (by kernel_rfl) (by kernel_rfl) (by kernel_rfl) (fun _ _ _ h => h) (by rfl) ?_ ?_
            rotate_left
            · (intro wS hS; skip; go_simp; (try with_reducible rfl))
            simp only [List.setIfInBounds_toArray, List.set_cons_zero, List.set_cons_succ]
            refine cm_run 9 55 (v := ?_) rfl rfl (by kernel_rfl) (by kernel_rfl) (by kernel_rfl) (by kernel_rfl) (by kernel_rfl) (fun _ _ _ h => h) (by rfl) ?_ ?_
            rotate_left
            · (intro wS hS; skip; go_simp; (try with_reducible rfl))
            simp only [List.setIfInBounds_toArray, List.set_cons_zero, List.set_cons_succ]
            refine cm_run 10 56 (v := ?_) rfl rfl (by kernel_rfl) (by kernel_rfl) (by kernel_rfl) (by kernel_rfl) (by kernel_rfl) (fun _ _ _ h => h) (by rfl) ?_ ?_
            rotate_left
            · (intro wS hS; skip; go_simp; (try with_reducible rfl))
            simp only [List.setIfInBounds_toArray, List.set_cons_zero, List.set_cons_succ]
            refine cm_run 11 57 (v := ?_) rfl rfl (by kernel_rfl) (by kernel_rfl) (by kernel_rfl) (by kernel_rfl) (by kernel_rfl) (fun _ _ _ h => h) (by rfl) ?_ ?_
            rotate_left
            · (intro wS hS; skip; go_simp; (try with_reducible rfl))
            simp only [List.setIfInBounds_toArray, List.set_cons_zero, List.set_cons_succ]
            refine cm_run 12 58 (v := .agg #[.slice aa LA na, .int .i64 ra]) rfl rfl (by kernel_rfl) (by kernel_rfl) (by kernel_rfl) (by kernel_rfl) (by kernel_rfl) (fun _ _ _ h => h) (by rfl) ?_ ?_
            · (intro wS hS; (have j0 := cell_later hS x0; have j1 := cell_later hS x1); go_simp; (try with_reducible rfl))
            simp only [List.setIfInBounds_toArray, List.set_cons_zero, List.set_cons_succ]
            refine cm_call 13 59 22 (v := .int .i64 ck) (args := ?_) rfl rfl (by kernel_rfl) (by kernel_rfl) (by kernel_rfl) (by kernel_rfl) (by kernel_rfl) (fun _ _ _ h => h) (by rfl) ?_ ?_ ?_
            rotate_left 1
            · (intro wS hS; go_simp; (try with_reducible rfl))
            · (intro wS hS; refine (HCR.out _ hS).mono ?_; (rintro e w2 ⟨rfl, hb⟩; exact ⟨rfl, Below.next hS hb⟩))
            simp only [List.setIfInBounds_toArray, List.set_cons_zero, List.set_cons_succ]
            refine cm_run 14 60 (v := ?_) rfl rfl (by kernel_rfl) (by kernel_rfl) (by kernel_rfl) (by kernel_rfl) (by kernel_rfl) (fun _ _ _ h => h) (by rfl) ?_ ?_
            rotate_left
            · (intro wS hS; skip; go_simp; (try with_reducible rfl))
            simp only [List.setIfInBounds_toArray, List.set_cons_zero, List.set_cons_succ]
            refine cm_run 15 61 (v := ?_) rfl rfl (by kernel_rfl) (by kernel_rfl) (by kernel_rfl) (by kernel_rfl) (by kernel_rfl) (fun _ _ _ h => h) (by rfl) ?_ ?_
            rotate_left
            · (intro wS hS; skip; go_simp; (try with_reducible rfl))
            simp only [List.setIfInBounds_toArray, List.set_cons_zero, List.set_cons_succ]
            refine cm_run 16 62 (v := .agg #[.slice aa LA na, .int .i64 ra]) rfl rfl (by kernel_rfl) (by kernel_rfl) (by kernel_rfl) (by kernel_rfl) (by kernel_rfl) (fun _ _ _ h => h) (by rfl) ?_ ?_
            · (intro wS hS; (have j0 := cell_later hS x0; have j1 := cell_later hS x1); go_simp; (try with_reducible rfl))
            simp only [List.setIfInBounds_toArray, List.set_cons_zero, List.set_cons_succ]
            refine cm_run 17 63 (v := .agg #[.slice ab LB nbb, .int .i64 rb]) rfl rfl (by kernel_rfl) (by kernel_rfl) (by kernel_rfl) (by kernel_rfl) (by kernel_rfl) (fun _ _ _ h => h) (by rfl) ?_ ?_
            · (intro wS hS; (have j0 := cell_later hS y0; have j1 := cell_later hS y1); go_simp; (try with_reducible rfl))
            simp only [List.setIfInBounds_toArray, List.set_cons_zero, List.set_cons_succ]
            refine cm_call 18 64 23 (v := .int .i64 cm) (args := ?_) rfl rfl (by kernel_rfl) (by kernel_rfl) (by kernel_rfl) (by kernel_rfl) (by kernel_rfl) (fun _ _ _ h => h) (by rfl) ?_ ?_ ?_
            rotate_left 1
            · (intro wS hS; go_simp; (try with_reducible rfl))
            · (intro wS hS; refine (HMA.out _ hS).mono ?_; (rintro e w2 ⟨rfl, hb⟩; exact ⟨rfl, Below.next hS hb⟩))
            simp only [List.setIfInBounds_toArray, List.set_cons_zero, List.set_cons_succ]
            refine cm_run 19 65 (v := .agg #[.slice aa LA na, .int .i64 ra]) rfl rfl (by kernel_rfl) (by kernel_rfl) (by kernel_rfl) (by kernel_rfl) (by kernel_rfl) (fun _ _ _ h => h) (by rfl) ?_ ?_
            · (intro wS hS; (have j0 := cell_later hS x0; have j1 := cell_later hS x1); go_simp; (try with_reducible rfl))
            simp only [List.setIfInBounds_toArray, List.set_cons_zero, List.set_cons_succ]
            refine cm_run 20 66 (v := .agg #[.slice ab LB nbb, .int .i64 rb]) rfl rfl (by kernel_rfl) (by kernel_rfl) (by kernel_rfl) (by kernel_rfl) (by kernel_rfl) (fun _ _ _ h => h) (by rfl) ?_ ?_
            · (intro wS hS; (have j0 := cell_later hS y0; have j1 := cell_later hS y1); go_simp; (try with_reducible rfl))
            simp only [List.setIfInBounds_toArray, List.set_cons_zero, List.set_cons_succ]
            refine cm_call 21 67 24 (v := .int .i64 cm) (args := ?_) rfl rfl (by kernel_rfl) (by kernel_rfl) (by kernel_rfl) (by kernel_rfl) (by kernel_rfl) (fun _ _ _ h => h) (by rfl) ?_ ?_ ?_
            rotate_left 1
            · (intro wS hS; go_simp; (try with_reducible rfl))
            · (intro wS hS; refine (HMR.out _ hS).mono ?_; (rintro e w2 ⟨rfl, hb⟩; exact ⟨rfl, Below.next hS hb⟩))
            simp only [List.setIfInBounds_toArray, List.set_cons_zero, List.set_cons_succ]
            refine cm_run 22 68 (v := ?_) rfl rfl (by kernel_rfl) (by kernel_rfl) (by kernel_rfl) (by kernel_rfl) (by kernel_rfl) (fun _ _ _ h => h) (by rfl) ?_ ?_
            rotate_left
            · (intro wS hS; skip; go_simp; (try with_reducible rfl))
            simp only [List.setIfInBounds_toArray, List.set_cons_zero, List.set_cons_succ]
            refine cm_run 23 69 (v := ?_) rfl rfl (by kernel_rfl) (by kernel_rfl) (by kernel_rfl) (by kernel_rfl) (by kernel_rfl) (fun _ _ _ h => h) (by rfl) ?_ ?_
            rotate_left
            · (intro wS hS; skip; go_simp; (try with_reducible rfl))
            simp only [List.setIfInBounds_toArray, List.set_cons_zero, List.set_cons_succ]
            refine cm_done (by kernel_rfl) ?_
            intro wS hS
            refine NoPanic.normal ?_
            have HBS := Lib.hid (Below.next HB.out hS)
            have y0 := cell_later hS y0
            have HRB := Lib.hid (HRB0.out.keep hS)
            clear x0 x1 y1 HCK HCR HMA HMR
            by_cases hz : LB = 0
            · subst hz
              obtain ⟨K, hK⟩ : ∃ K : Int, K = ((N / 2 : Nat) : Int) := ⟨_, rfl⟩
              have hk2 : IntKind.i64.wrap ((N : Int).tdiv 2) = K := by rw [hK, Int.tdiv_eq_ediv_of_nonneg (by omega), show (N : Int) / 2 = ((N / 2 : Nat) : Int) by omega]; exact IntWalk.i64_in _ (by have := HNM.out; omega)
              have hk3 : IntKind.i64.wrap ((N : Int) / 2) = K := by rw [hK, show (N : Int) / 2 = ((N / 2 : Nat) : Int) by omega]; exact IntWalk.i64_in _ (by have := HNM.out; omega)
              clear hK
              obtain ⟨hx, hy, HH⟩ : ∃ x y, Hid (hopV cs K t n = (x, y)) := ⟨_, _, Lib.hid rfl⟩
              have d6 : decide (((0 : Nat) : Int) > 0) = false := by decide
              have HH1 := Lib.hid (fun w' hb => hopq_any (.slice a0 N n0) cs K t n HWF.out w' (HR.out.keep (Below.next HBS.out hb)))
              have HH2 := Lib.hid (fun w' hb => rhopq_any (.slice a0 N n0) cs K t n w' (HR.out.keep (Below.next HBS.out hb)))
              rw [HH.out] at HH1 HH2
              have e1 : (hx == hx) = true := by simp
              have e2 : (hy == hy) = true := by simp
              go_wp2_with fail
              refine (HH1.out _ (Below.refl _ _)).mono ?_
              rintro e w8 ⟨rfl, hb8⟩
              go_wp2_with fail
              refine (HH2.out _ hb8).mono ?_
              rintro e w9 ⟨rfl, hb9⟩
              go_wp2_with fail
              refine (awake_any w9).mono ?_
              rintro e w10 ⟨rfl, hb10⟩
              go_wp2_with fail
              go_ret
              exact ⟨rfl, Below.next (Below.next HBS.out (Below.next hb8 hb9)) hb10⟩
            · have d6 : decide ((LB : Int) > 0) = true := yb (by omega)
              have d7 : decide (LB > 0) = true := yb (by omega)
              obtain ⟨b1, o1, hab, hc1, g0⟩ := RdI.at HRB.out HLB.out 0 (by omega)
              subst hab
              obtain ⟨K, hK⟩ : ∃ K : Int, lb.getD 0 0 = K := ⟨_, rfl⟩
              rw [hK] at g0
              have g0 : wS.cell? ⟨b1, o1, none⟩ = some (.int .i64 K) := g0
              have n2 : (0 : Int) < (LB : Int) := by omega
              obtain ⟨hx, hy, HH⟩ : ∃ x y, Hid (hopV cs K t n = (x, y)) := ⟨_, _, Lib.hid rfl⟩
              clear hK hz
              have HH1 := Lib.hid (fun w' hb => hopq_any (.slice a0 N n0) cs K t n HWF.out w' (HR.out.keep (Below.next HBS.out hb)))
              have HH2 := Lib.hid (fun w' hb => rhopq_any (.slice a0 N n0) cs K t n w' (HR.out.keep (Below.next HBS.out hb)))
              rw [HH.out] at HH1 HH2
              have e1 : (hx == hx) = true := by simp
              have e2 : (hy == hy) = true := by simp
              go_wp2_with fail
              refine (HH1.out _ (Below.refl _ _)).mono ?_
              rintro e w8 ⟨rfl, hb8⟩
              go_wp2_with fail
              refine (HH2.out _ hb8).mono ?_
              rintro e w9 ⟨rfl, hb9⟩
              go_wp2_with fail
              refine (awake_any w9).mono ?_
              rintro e w10 ⟨rfl, hb10⟩
              go_wp2_with fail
              go_ret
              exact ⟨rfl, Below.next (Below.next HBS.out (Below.next hb8 hb9)) hb10⟩
  · have d1 : decide ((N : Int) > 40) = false := nb (by omega)
    clear h1
    by_cases h3 : 205 < N
    · have d3 : decide ((N : Int) > 205) = true := yb (by omega)
      clear h3
      go_enter Try.func4, Try.ntmps4
      go_upto_region 1 with fail
      rw [← hW]
      clear hW
      go_wp2_with fail
      refine (awake_any W).mono ?_
      rintro e w2 ⟨rfl, hb⟩
      go_wp2_with fail
      go_ret
      exact ⟨rfl, Below.next HB.out hb⟩
    · have d3 : decide ((N : Int) > 205) = false := nb (by omega)
      by_cases h4 : 40 < LA
      · have d4 : decide ((LA : Int) > 40) = true := yb (by omega)
        clear h3 h4
        go_enter Try.func4, Try.ntmps4
        go_upto_region 1 with fail
        rw [← hW]
        clear hW
        go_wp2_with fail
        refine (awake_any W).mono ?_
        rintro e w2 ⟨rfl, hb⟩
        go_wp2_with fail
        go_ret
        exact ⟨rfl, Below.next HB.out hb⟩
      · have d4 : decide ((LA : Int) > 40) = false := nb (by omega)
        by_cases h5 : 40 < LB
        · have d5 : decide ((LB : Int) > 40) = true := yb (by omega)
          clear h3 h4 h5
          go_enter Try.func4, Try.ntmps4
          go_upto_region 1 with fail
          rw [← hW]
          clear hW
          go_wp2_with fail
          refine (awake_any W).mono ?_
          rintro e w2 ⟨rfl, hb⟩
          go_wp2_with fail
          go_ret
          exact ⟨rfl, Below.next HB.out hb⟩
        · have d5 : decide ((LB : Int) > 40) = false := nb (by omega)
          clear h3 h4 h5
          go_enter Try.func4, Try.ntmps4
          go_upto_region 1 with fail
          rw [← hW]
          clear hW
          go_upto_region 3 with fail
          refine wp_region_calm (fun w' => Below W.heap.size W w') 99 (by kernel_rfl) ((Below.refl _ W).drew) ?_
          refine cm_run 0 46 (v := ?_) rfl rfl (by kernel_rfl) (by kernel_rfl) (by kernel_rfl) (by kernel_rfl) (by kernel_rfl) (fun _ _ _ h => h) (by rfl) ?_ ?_
          rotate_left
          · (intro wS hS; skip; go_simp; (try with_reducible rfl))
          simp only [List.setIfInBounds_toArray, List.set_cons_zero, List.set_cons_succ]
          refine cm_run 1 47 (v := ?_) rfl rfl (by kernel_rfl) (by kernel_rfl) (by kernel_rfl) (by kernel_rfl) (by kernel_rfl) (fun _ _ _ h => h) (by rfl) ?_ ?_
          rotate_left
          · (intro wS hS; skip; go_simp; (try with_reducible rfl))
          simp only [List.setIfInBounds_toArray, List.set_cons_zero, List.set_cons_succ]
          refine cm_run 2 48 (v := ?_) rfl rfl (by kernel_rfl) (by kernel_rfl) (by kernel_rfl) (by kernel_rfl) (by kernel_rfl) (fun _ _ _ h => h) (by rfl) ?_ ?_
          rotate_left
          · (intro wS hS; skip; go_simp; (try with_reducible rfl))
          simp only [List.setIfInBounds_toArray, List.set_cons_zero, List.set_cons_succ]
          refine cm_run 3 49 (v := ?_) rfl rfl (by kernel_rfl) (by kernel_rfl) (by kernel_rfl) (by kernel_rfl) (by kernel_rfl) (fun _ _ _ h => h) (by rfl) ?_ ?_
          rotate_left
          · (intro wS hS; skip; go_simp; (try with_reducible rfl))
          simp only [List.setIfInBounds_toArray, List.set_cons_zero, List.set_cons_succ]
          refine cm_run 4 50 (v := ?_) rfl rfl (by kernel_rfl) (by kernel_rfl) (by kernel_rfl) (by kernel_rfl) (by kernel_rfl) (fun _ _ _ h => h) (by rfl) ?_ ?_
          rotate_left
          · (intro wS hS; skip; go_simp; (try with_reducible rfl))
          simp only [List.setIfInBounds_toArray, List.set_cons_zero, List.set_cons_succ]
          refine cm_run 5 51 (v := .agg #[.slice aa LA na, .int .i64 ra]) rfl rfl (by kernel_rfl) (by kernel_rfl) (by kernel_rfl) (by kernel_rfl) (by kernel_rfl) (fun _ _ _ h => h) (by rfl) ?_ ?_
          · (intro wS hS; (have j0 := cell_later hS x0; have j1 := cell_later hS x1); go_simp; (try with_reducible rfl))
          simp only [List.setIfInBounds_toArray, List.set_cons_zero, List.set_cons_succ]
          refine cm_call 6 52 21 (v := .int .i64 ck) (args := ?_) rfl rfl (by kernel_rfl) (by kernel_rfl) (by kernel_rfl) (by kernel_rfl) (by kernel_rfl) (fun _ _ _ h => h) (by rfl) ?_ ?_ ?_
          rotate_left 1
          · (intro wS hS; go_simp; (try with_reducible rfl))
          · (intro wS hS; refine (HCK.out _ hS).mono ?_; (rintro e w2 ⟨rfl, hb⟩; exact ⟨rfl, Below.next hS hb⟩))
          simp only [List.setIfInBounds_toArray, List.set_cons_zero, List.set_cons_succ]
          refine cm_run 7 53 (v := ?_) rfl rfl (by kernel_rfl) (by kernel_rfl) (by kernel_rfl) (by kernel_rfl) (by kernel_rfl) (fun _ _ _ h => h) (by rfl) ?_ ?_
          rotate_left
          · (intro wS hS; skip; go_simp; (try with_reducible rfl))
          simp only [List.setIfInBounds_toArray, List.set_cons_zero, List.set_cons_succ]
          refine cm_run 8 54 (v := ?_) rfl rfl (by kernel_rfl) (by kernel_rfl) (by kernel_rfl) (by kernel_rfl) (by kernel_rfl) (fun _ _ _ h => h) (by rfl) ?_ ?_
          rotate_left
          · (intro wS hS; skip; go_simp; (try with_reducible rfl))
          simp only [List.setIfInBounds_toArray, List.set_cons_zero, List.set_cons_succ]
          refine cm_run 9 55 (v := ?_) rfl rfl (by kernel_rfl) (by kernel_rfl) (by kernel_rfl) (by kernel_rfl) (by kernel_rfl) (fun _ _ _ h => h) (by rfl) ?_ ?_
          rotate_left
          · (intro wS hS; skip; go_simp; (try with_reducible rfl))
          simp only [List.setIfInBounds_toArray, List.set_cons_zero, List.set_cons_succ]
          refine cm_run 10 56 (v := ?_) rfl rfl (by kernel_rfl) (by kernel_rfl) (by kernel_rfl) (by kernel_rfl) (by kernel_rfl) (fun _ _ _ h => h) (by rfl) ?_ ?_
          rotate_left
          · (intro wS hS; skip; go_simp; (try with_reducible rfl))
          simp only [List.setIfInBounds_toArray, List.set_cons_zero, List.set_cons_succ]
          refine cm_run 11 57 (v := ?_) rfl rfl (by kernel_rfl) (by kernel_rfl) (by kernel_rfl) (by kernel_rfl) (by kernel_rfl) (fun _ _ _ h => h) (by rfl) ?_ ?_
          rotate_left
          · (intro wS hS; skip; go_simp; (try with_reducible rfl))
          simp only [List.setIfInBounds_toArray, List.set_cons_zero, List.set_cons_succ]
          refine cm_run 12 58 (v := .agg #[.slice aa LA na, .int .i64 ra]) rfl rfl (by kernel_rfl) (by kernel_rfl) (by kernel_rfl) (by kernel_rfl) (by kernel_rfl) (fun _ _ _ h => h) (by rfl) ?_ ?_
          · (intro wS hS; (have j0 := cell_later hS x0; have j1 := cell_later hS x1); go_simp; (try with_reducible rfl))
          simp only [List.setIfInBounds_toArray, List.set_cons_zero, List.set_cons_succ]
          refine cm_call 13 59 22 (v := .int .i64 ck) (args := ?_) rfl rfl (by kernel_rfl) (by kernel_rfl) (by kernel_rfl) (by kernel_rfl) (by kernel_rfl) (fun _ _ _ h => h) (by rfl) ?_ ?_ ?_
          rotate_left 1
          · (intro wS hS; go_simp; (try with_reducible rfl))
          · (intro wS hS; refine (HCR.out _ hS).mono ?_; (rintro e w2 ⟨rfl, hb⟩; exact ⟨rfl, Below.next hS hb⟩))
          simp only [List.setIfInBounds_toArray, List.set_cons_zero, List.set_cons_succ]
          refine cm_run 14 60 (v := ?_) rfl rfl (by kernel_rfl) (by kernel_rfl) (by kernel_rfl) (by kernel_rfl) (by kernel_rfl) (fun _ _ _ h => h) (by rfl) ?_ ?_
          rotate_left
          · (intro wS hS; skip; go_simp; (try with_reducible rfl))
          simp only [List.setIfInBounds_toArray, List.set_cons_zero, List.set_cons_succ]
          refine cm_run 15 61 (v := ?_) rfl rfl (by kernel_rfl) (by kernel_rfl) (by kernel_rfl) (by kernel_rfl) (by kernel_rfl) (fun _ _ _ h => h) (by rfl) ?_ ?_
          rotate_left
          · (intro wS hS; skip; go_simp; (try with_reducible rfl))
          simp only [List.setIfInBounds_toArray, List.set_cons_zero, List.set_cons_succ]
          refine cm_run 16 62 (v := .agg #[.slice aa LA na, .int .i64 ra]) rfl rfl (by kernel_rfl) (by kernel_rfl) (by kernel_rfl) (by kernel_rfl) (by kernel_rfl) (fun _ _ _ h => h) (by rfl) ?_ ?_
          · (intro wS hS; (have j0 := cell_later hS x0; have j1 := cell_later hS x1); go_simp; (try with_reducible rfl))
          simp only [List.setIfInBounds_toArray, List.set_cons_zero, List.set_cons_succ]
          refine cm_run 17 63 (v := .agg #[.slice ab LB nbb, .int .i64 rb]) rfl rfl (by kernel_rfl) (by kernel_rfl) (by kernel_rfl) (by kernel_rfl) (by kernel_rfl) (fun _ _ _ h => h) (by rfl) ?_ ?_
          · (intro wS hS; (have j0 := cell_later hS y0; have j1 := cell_later hS y1); go_simp; (try with_reducible rfl))
          simp only [List.setIfInBounds_toArray, List.set_cons_zero, List.set_cons_succ]
          refine cm_call 18 64 23 (v := .int .i64 cm) (args := ?_) rfl rfl (by kernel_rfl) (by kernel_rfl) (by kernel_rfl) (by kernel_rfl) (by kernel_rfl) (fun _ _ _ h => h) (by rfl) ?_ ?_ ?_
          rotate_left 1
          · (intro wS hS; go_simp; (try with_reducible rfl))
          · (intro wS hS; refine (HMA.out _ hS).mono ?_; (rintro e w2 ⟨rfl, hb⟩; exact ⟨rfl, Below.next hS hb⟩))
          simp only [List.setIfInBounds_toArray, List.set_cons_zero, List.set_cons_succ]
          refine cm_run 19 65 (v := .agg #[.slice aa LA na, .int .i64 ra]) rfl rfl (by kernel_rfl) (by kernel_rfl) (by kernel_rfl) (by kernel_rfl) (by kernel_rfl) (fun _ _ _ h => h) (by rfl) ?_ ?_
          · (intro wS hS; (have j0 := cell_later hS x0; have j1 := cell_later hS x1); go_simp; (try with_reducible rfl))
          simp only [List.setIfInBounds_toArray, List.set_cons_zero, List.set_cons_succ]
          refine cm_run 20 66 (v := .agg #[.slice ab LB nbb, .int .i64 rb]) rfl rfl (by kernel_rfl) (by kernel_rfl) (by kernel_rfl) (by kernel_rfl) (by kernel_rfl) (fun _ _ _ h => h) (by rfl) ?_ ?_
          · (intro wS hS; (have j0 := cell_later hS y0; have j1 := cell_later hS y1); go_simp; (try with_reducible rfl))
          simp only [List.setIfInBounds_toArray, List.set_cons_zero, List.set_cons_succ]
          refine cm_call 21 67 24 (v := .int .i64 cm) (args := ?_) rfl rfl (by kernel_rfl) (by kernel_rfl) (by kernel_rfl) (by kernel_rfl) (by kernel_rfl) (fun _ _ _ h => h) (by rfl) ?_ ?_ ?_
          rotate_left 1
          · (intro wS hS; go_simp; (try with_reducible rfl))
          · (intro wS hS; refine (HMR.out _ hS).mono ?_; (rintro e w2 ⟨rfl, hb⟩; exact ⟨rfl, Below.next hS hb⟩))
          simp only [List.setIfInBounds_toArray, List.set_cons_zero, List.set_cons_succ]
          refine cm_run 22 68 (v := ?_) rfl rfl (by kernel_rfl) (by kernel_rfl) (by kernel_rfl) (by kernel_rfl) (by kernel_rfl) (fun _ _ _ h => h) (by rfl) ?_ ?_
          rotate_left
          · (intro wS hS; skip; go_simp; (try with_reducible rfl))
          simp only [List.setIfInBounds_toArray, List.set_cons_zero, List.set_cons_succ]
          refine cm_run 23 69 (v := ?_) rfl rfl (by kernel_rfl) (by kernel_rfl) (by kernel_rfl) (by kernel_rfl) (by kernel_rfl) (fun _ _ _ h => h) (by rfl) ?_ ?_
          rotate_left
          · (intro wS hS; skip; go_simp; (try with_reducible rfl))
          simp only [List.setIfInBounds_toArray, List.set_cons_zero, List.set_cons_succ]
          refine cm_done (by kernel_rfl) ?_
          intro wS hS
          refine NoPanic.normal ?_
          have HBS := Lib.hid (Below.next HB.out hS)
          have y0 := cell_later hS y0
          have HRB := Lib.hid (HRB0.out.keep hS)
          clear x0 x1 y1 HCK HCR HMA HMR
          by_cases hz : LB = 0
          · subst hz
            obtain ⟨K, hK⟩ : ∃ K : Int, K = ((N / 2 : Nat) : Int) := ⟨_, rfl⟩
            have hk2 : IntKind.i64.wrap ((N : Int).tdiv 2) = K := by rw [hK, Int.tdiv_eq_ediv_of_nonneg (by omega), show (N : Int) / 2 = ((N / 2 : Nat) : Int) by omega]; exact IntWalk.i64_in _ (by have := HNM.out; omega)
            have hk3 : IntKind.i64.wrap ((N : Int) / 2) = K := by rw [hK, show (N : Int) / 2 = ((N / 2 : Nat) : Int) by omega]; exact IntWalk.i64_in _ (by have := HNM.out; omega)
            clear hK
            obtain ⟨hx, hy, HH⟩ : ∃ x y, Hid (hopV cs K t n = (x, y)) := ⟨_, _, Lib.hid rfl⟩
            have d6 : decide (((0 : Nat) : Int) > 0) = false := by decide
            have HH1 := Lib.hid (fun w' hb => hopq_any (.slice a0 N n0) cs K t n HWF.out w' (HR.out.keep (Below.next HBS.out hb)))
            have HH2 := Lib.hid (fun w' hb => rhopq_any (.slice a0 N n0) cs K t n w' (HR.out.keep (Below.next HBS.out hb)))
            rw [HH.out] at HH1 HH2
            have e1 : (hx == hx) = true := by simp
            have e2 : (hy == hy) = true := by simp
            go_wp2_with fail
            refine (HH1.out _ (Below.refl _ _)).mono ?_
            rintro e w8 ⟨rfl, hb8⟩
            go_wp2_with fail
            refine (HH2.out _ hb8).mono ?_
            rintro e w9 ⟨rfl, hb9⟩
            go_wp2_with fail
            refine (awake_any w9).mono ?_
            rintro e w10 ⟨rfl, hb10⟩
            go_wp2_with fail
            go_ret
            exact ⟨rfl, Below.next (Below.next HBS.out (Below.next hb8 hb9)) hb10⟩
          · have d6 : decide ((LB : Int) > 0) = true := yb (by omega)
            have d7 : decide (LB > 0) = true := yb (by omega)
            obtain ⟨b1, o1, hab, hc1, g0⟩ := RdI.at HRB.out HLB.out 0 (by omega)
            subst hab
            obtain ⟨K, hK⟩ : ∃ K : Int, lb.getD 0 0 = K := ⟨_, rfl⟩
            rw [hK] at g0
            have g0 : wS.cell? ⟨b1, o1, none⟩ = some (.int .i64 K) := g0
            have n2 : (0 : Int) < (LB : Int) := by omega
            obtain ⟨hx, hy, HH⟩ : ∃ x y, Hid (hopV cs K t n = (x, y)) := ⟨_, _, Lib.hid rfl⟩
            clear hK hz
            have HH1 := Lib.hid (fun w' hb => hopq_any (.slice a0 N n0) cs K t n HWF.out w' (HR.out.keep (Below.next HBS.out hb)))
            have HH2 := Lib.hid (fun w' hb => rhopq_any (.slice a0 N n0) cs K t n w' (HR.out.keep (Below.next HBS.out hb)))
            rw [HH.out] at HH1 HH2
            have e1 : (hx == hx) = true := by simp
            have e2 : (hy == hy) = true := by simp
            go_wp2_with fail
            refine (HH1.out _ (Below.refl _ _)).mono ?_
            rintro e w8 ⟨rfl, hb8⟩
            go_wp2_with fail
            refine (HH2.out _ hb8).mono ?_
            rintro e w9 ⟨rfl, hb9⟩
            go_wp2_with fail
            refine (awake_any w9).mono ?_
            rintro e w10 ⟨rfl, hb10⟩
            go_wp2_with fail
            go_ret
            exact ⟨rfl, Below.next (Below.next HBS.out (Below.next hb8 hb9)) hb10⟩
end Go.Proofs.Ytgmfifilgbbogaa
