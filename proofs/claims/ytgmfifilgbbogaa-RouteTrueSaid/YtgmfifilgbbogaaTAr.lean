


/- RouteTrue: the law's walk. -/
import Derived.Test.YtgmfifilgbbogaaRXk
import Derived.Test.YtgmfifilgbbogaaRYa
import Derived.Test.YtgmfifilgbbogaaTBp
namespace Go.Proofs.Ytgmfifilgbbogaa
open Go.RowKit
set_option linter.unusedSimpArgs false
set_option linter.unusedVariables false
set_option maxRecDepth 100000

set_option maxHeartbeats 8000000 in
theorem ltrue_any (nv : Value) (nums : List Int) (n : Int) (hb : ∀ x ∈ nums, Ib x) (hn : Ib n) (w : World) (h : RdI .i64 w nv nums) :
    Calls Try.prog 6 #[nv, .int .i64 n] w fun e w' => e = .returned (.bool true) ∧ Below w.heap.size w w' := by
  obtain ⟨a, c, rfl⟩ := h.form
  have HAK := Lib.hid (fun w' (hb' : Below w.heap.size w w') => asked_any (.slice a nums.length c) nums n hb hn w' (h.keep hb'))
  have hq := ask_ok nums n
  obtain ⟨q, hqe⟩ : ∃ q, askV nums n = q := ⟨_, rfl⟩
  rw [hqe] at HAK hq
  obtain ⟨N, hN⟩ : ∃ N, nums.length = N := ⟨_, rfl⟩
  rw [hN] at HAK ⊢
  clear h hb hn hN hqe
  have c2 := hq.chk
  have c1 := hq.chk1
  have hfr := hq.fr
  have hto := hq.nd
  have htk := hq.tk
  have hsz := hq.sz
  have hokp := hq.okp
  have hln := hq.len
  have hwf := hq.wf
  clear hq
  obtain ⟨cs, u, v, t, s⟩ := q
  dsimp only at HAK c1 c2 hfr hto htk hsz hokp hln hwf
  have hbq := bestq_V cs u v t s
  obtain ⟨⟨er, arr, l⟩, he⟩ : ∃ x, bestV cs u v t s = x := ⟨_, rfl⟩
  rw [he] at hbq
  dsimp only at hbq
  clear he
  have HQ := Lib.hid hbq
  have HIV := Lib.hid (is_ok c2)
  obtain ⟨lR, hrv, hlr, hget⟩ := reach_ok c1
  have HRV := Lib.hid hrv
  obtain ⟨M, hM⟩ : ∃ M : Nat, M = 16 := ⟨_, rfl⟩
  rw [← hM] at hlr
  have HLR := Lib.hid hlr
  obtain ⟨NP, hNP⟩ : ∃ k, cs.length = k := ⟨_, rfl⟩
  have HNP := Lib.hid hNP
  obtain ⟨L, hL⟩ : ∃ k, (ints l).length = k := ⟨_, rfl⟩
  have HL := Lib.hid hL
  have HWF := Lib.hid hwf
  obtain ⟨kv, hkv⟩ : ∃ k, (v - 1).toNat = k := ⟨_, rfl⟩
  have HKV : Hid (kv < M ∧ lR.getD kv 0 = arrE cs s u t v) := Lib.hid ⟨by omega, by rw [← hkv]; exact hget v hto.1 (by omega)⟩
  have hw1 : IntKind.i64.wrap (v - 1) = (kv : Int) := by rw [show v - 1 = (kv : Int) by omega]; exact IntWalk.i64_in _ (by omega)
  have i1 : (0 : Int) ≤ (kv : Int) := by omega
  have i2 : (kv : Int) < (M : Int) := by omega
  have dM : ((M : Int) != 16) = false := by rw [hM]; rfl
  have dM2 : (M != 16) = false := by rw [hM]; rfl
  clear hrv hlr hget
  rcases hbq with ⟨h1, _⟩ | ⟨_, hneg, rfl, rfl, rfl⟩ | ⟨_, rfl, harr, kk, hB⟩
  · exact absurd c2 h1
  · have hm1 : arrE cs s u t v = -1 := arr_neg hokp hsz.1 (by omega) htk.1 (by omega) hneg
    rw [hm1] at HIV HKV
    have HIV : Hid (isV cs u v t s = (false, 0)) := HIV
    clear hm1 hneg hM hNP hL hwf hkv hfr hto htk hsz hokp hln c1 c2
    go_enter Try.func6, Try.ntmps6
    go_wp2_with fail
    refine (known_any w).mono ?_
    rintro e w1 ⟨rfl, hb1⟩
    have HAK1 := Lib.hid (HAK.out w1 hb1)
    go_wp2_with fail
    refine HAK1.out.mono ?_
    rintro e w2 ⟨pv, rfl, hrd, hb2⟩
    obtain ⟨pa, pc, rfl⟩ := hrd.form
    rw [HNP.out] at hrd ⊢
    have HRD := Lib.hid hrd
    have HBW := Lib.hid (Below.next hb1 hb2)
    have HB1 := Lib.hid (best_any (.slice pa NP pc) cs u v t s 15 0 [] HWF.out HQ.out w2 hrd)
    clear hrd hb1 hb2 HAK1
    go_wp2_with fail
    refine HB1.out.mono ?_
    rintro e w3 ⟨⟨rv, rfl, hrt⟩, hb3⟩
    obtain ⟨cv, rfl, hrow⟩ := hrt.rd
    obtain ⟨ca, cc, rfl⟩ := hrow.form
    rw [HL.out] at hrow ⊢
    have HROW := Lib.hid hrow
    clear hrt hrow
    obtain ⟨Q4, HQ9⟩ : ∃ Q, Hid ((w3).heap.size = Q) := ⟨_, Lib.hid rfl⟩
    obtain ⟨W4, HW9⟩ : ∃ V : World, Hid (V = (w3).alloc (.cells #[.slice ca L cc, .int .i64 0] 27)) := ⟨_, Lib.hid rfl⟩
    have hb4 : Below (w3).heap.size w3 W4 := by rw [HW9.out]; exact (by repeat (first | assumption | exact Below.refl _ _ | apply Below.al | apply below_drewN | apply Below.drew | refine Below.next ?_ (by assumption)))
    have hx4 : BoxN W4 Q4 27 #[.slice ca L cc, .int .i64 0] := by rw [HW9.out, ← HQ9.out]; exact BoxN.new _ _ _
    go_upto_region 3 with fail
    rw [← HW9.out, HQ9.out]
    clear HW9 HQ9
    replace HROW := Lib.hid (HROW.out.keep hb4)
    replace HRD := Lib.hid ((HRD.out.keep hb3).keep hb4)
    replace HBW := Lib.hid (Below.next (Below.next HBW.out hb3) hb4)
    have HX := Lib.hid hx4
    have HI1 := Lib.hid (is_any (.slice pa NP pc) cs u v t s HWF.out W4 HRD.out)
    rw [HIV.out] at HI1
    clear hb3 hb4 hx4 HB1
    go_wp2_with fail
    refine HI1.out.mono ?_
    rintro e w5 ⟨rfl, hb5⟩
    replace HROW := Lib.hid (HROW.out.keep hb5)
    replace HRD := Lib.hid (HRD.out.keep hb5)
    replace HBW := Lib.hid (Below.next HBW.out hb5)
    replace HX := Lib.hid (HX.out.below hb5)
    have HR1 := Lib.hid (reachq_any (.slice pa NP pc) cs u t s HWF.out w5 HRD.out)
    rw [HRV.out] at HR1
    clear hb5 HI1
    go_wp2_with fail
    refine HR1.out.mono ?_
    rintro e w6 ⟨s1, rfl, hs1, hb6⟩
    have hs1 : RdI .i64 w6 s1 lR := hs1
    obtain ⟨sa, sc, rfl⟩ := hs1.form
    rw [HLR.out] at hs1 ⊢
    have HS := Lib.hid hs1
    replace HROW := Lib.hid (HROW.out.keep hb6)
    replace HRD := Lib.hid (HRD.out.keep hb6)
    replace HBW := Lib.hid (Below.next HBW.out hb6)
    replace HX := Lib.hid (HX.out.below hb6)
    obtain ⟨b1, o1, hab, hc1, g0⟩ := RdI.at HS.out HLR.out kv HKV.out.1
    subst hab
    rw [HKV.out.2] at g0
    clear hs1 hb6 HR1
    go_wp2_with fail
    go_ret
    exact ⟨rfl, HBW.out⟩
  · have hge : 0 ≤ arrE cs s u t v := by rw [← harr]; exact hB.nn
    rw [decide_eq_true hge] at HIV
    rw [← harr] at HKV
    have hck := check_best c2 hB
    have h15 := hB.few15 hokp hsz.1 (by omega)
    have hlen := hB.len
    have hsim := hB.simple hokp hsz.1
    have hin := walk_in l _ _ _ hB.walk
    have HCK0 := Lib.hid hck
    have hAA : (arr != arr) = false := by simp
    have dL : decide ((L : Int) ≥ 16) = false := nb (by rw [← hL]; unfold ints; simp; omega)
    have HLL := Lib.hid (show (ints l).length = L from hL)
    have HFR : Hid (1 ≤ u ∧ u ≤ 16) := Lib.hid (by omega)
    have HSIM := Lib.hid hsim
    have HIN : Hid (∀ i, i ∈ l → i < NP) := Lib.hid (by rw [← hNP]; exact hin)
    have HOKP := Lib.hid hokp
    have hNl : l.length = L := by rw [← hL]; simp [ints]
    have HNL := Lib.hid hNl
    have hLm : L < 16 := by omega
    have hNPm : NP ≤ 12 := by omega
    clear hge harr hck h15 hlen hsim hin hB hM hNP hL hwf hkv hfr hto htk hsz hokp hln c1 c2 hNl
    go_enter Try.func6, Try.ntmps6
    go_wp2_with fail
    refine (known_any w).mono ?_
    rintro e w1 ⟨rfl, hb1⟩
    have HAK1 := Lib.hid (HAK.out w1 hb1)
    go_wp2_with fail
    refine HAK1.out.mono ?_
    rintro e w2 ⟨pv, rfl, hrd, hb2⟩
    obtain ⟨pa, pc, rfl⟩ := hrd.form
    rw [HNP.out] at hrd ⊢
    have HRD := Lib.hid hrd
    have HBW := Lib.hid (Below.next hb1 hb2)
    have HB1 := Lib.hid (best_any (.slice pa NP pc) cs u v t s 0 arr l HWF.out HQ.out w2 hrd)
    clear hrd hb1 hb2 HAK1
    go_wp2_with fail
    refine HB1.out.mono ?_
    rintro e w3 ⟨⟨rv, rfl, hrt⟩, hb3⟩
    obtain ⟨cv, rfl, hrow⟩ := hrt.rd
    obtain ⟨ca, cc, rfl⟩ := hrow.form
    rw [HL.out] at hrow ⊢
    have HROW := Lib.hid hrow
    clear hrt hrow
    obtain ⟨Q4, HQ9⟩ : ∃ Q, Hid ((w3).heap.size = Q) := ⟨_, Lib.hid rfl⟩
    obtain ⟨W4, HW9⟩ : ∃ V : World, Hid (V = (w3).alloc (.cells #[.slice ca L cc, .int .i64 arr] 27)) := ⟨_, Lib.hid rfl⟩
    have hb4 : Below (w3).heap.size w3 W4 := by rw [HW9.out]; exact (by repeat (first | assumption | exact Below.refl _ _ | apply Below.al | apply below_drewN | apply Below.drew | refine Below.next ?_ (by assumption)))
    have hx4 : BoxN W4 Q4 27 #[.slice ca L cc, .int .i64 arr] := by rw [HW9.out, ← HQ9.out]; exact BoxN.new _ _ _
    go_upto_region 3 with fail
    rw [← HW9.out, HQ9.out]
    clear HW9 HQ9
    replace HROW := Lib.hid (HROW.out.keep hb4)
    replace HRD := Lib.hid ((HRD.out.keep hb3).keep hb4)
    replace HBW := Lib.hid (Below.next (Below.next HBW.out hb3) hb4)
    have HX := Lib.hid hx4
    have HI1 := Lib.hid (is_any (.slice pa NP pc) cs u v t s HWF.out W4 HRD.out)
    rw [HIV.out] at HI1
    clear hb3 hb4 hx4 HB1
    go_wp2_with fail
    refine HI1.out.mono ?_
    rintro e w5 ⟨rfl, hb5⟩
    replace HROW := Lib.hid (HROW.out.keep hb5)
    replace HRD := Lib.hid (HRD.out.keep hb5)
    replace HBW := Lib.hid (Below.next HBW.out hb5)
    replace HX := Lib.hid (HX.out.below hb5)
    have HR1 := Lib.hid (reachq_any (.slice pa NP pc) cs u t s HWF.out w5 HRD.out)
    rw [HRV.out] at HR1
    clear hb5 HI1
    go_wp2_with fail
    refine HR1.out.mono ?_
    rintro e w6 ⟨s1, rfl, hs1, hb6⟩
    have hs1 : RdI .i64 w6 s1 lR := hs1
    obtain ⟨sa, sc, rfl⟩ := hs1.form
    rw [HLR.out] at hs1 ⊢
    have HS := Lib.hid hs1
    replace HROW := Lib.hid (HROW.out.keep hb6)
    replace HRD := Lib.hid (HRD.out.keep hb6)
    replace HBW := Lib.hid (Below.next HBW.out hb6)
    replace HX := Lib.hid (HX.out.below hb6)
    obtain ⟨b1, o1, hab, hc1, g0⟩ := RdI.at HS.out HLR.out kv HKV.out.1
    subst hab
    rw [HKV.out.2] at g0
    clear hs1 hb6 HR1
    have x0 : w6.cell? ⟨Q4, 0, none⟩ = some (.slice ca L cc) := HX.out.cell 0
    have x1 : w6.cell? ⟨Q4, 1, none⟩ = some (.int .i64 arr) := HX.out.cell 1
    have HCK : Hid (∀ w', Below w6.heap.size w6 w' → Calls Try.prog 21 #[.slice pa NP pc, .int .i64 u, .int .i64 v, .int .i64 t, .int .i64 s, .agg #[.slice ca L cc, .int .i64 arr]] w' fun e w'' => e = .returned (.int .i64 0) ∧ Below w'.heap.size w' w'') := Lib.hid (fun w' hb => by
      have := check_any (.slice pa NP pc) (.agg #[.slice ca L cc, .int .i64 arr]) cs u v t s arr (ints l) HWF.out w' (HRD.out.keep hb) ⟨_, rfl, HROW.out.keep hb⟩
      rw [HCK0.out] at this
      exact this)
    go_upto_region 10 with fail
    refine wp_region_calm (fun w' => Below w6.heap.size w6 w') 99 (by kernel_rfl) ((Below.refl _ w6).drew) ?_
    refine cm_run 0 88 (v := ?_) rfl rfl (by kernel_rfl) (by kernel_rfl) (by kernel_rfl) (by kernel_rfl) (by kernel_rfl) (fun _ _ _ h => h) (by rfl) ?_ ?_
    rotate_left
    · (intro wS hS; skip; go_simp; (try with_reducible rfl))
    simp only [List.setIfInBounds_toArray, List.set_cons_zero, List.set_cons_succ]
    refine cm_run 1 89 (v := ?_) rfl rfl (by kernel_rfl) (by kernel_rfl) (by kernel_rfl) (by kernel_rfl) (by kernel_rfl) (fun _ _ _ h => h) (by rfl) ?_ ?_
    rotate_left
    · (intro wS hS; skip; go_simp; (try with_reducible rfl))
    simp only [List.setIfInBounds_toArray, List.set_cons_zero, List.set_cons_succ]
    refine cm_run 2 90 (v := ?_) rfl rfl (by kernel_rfl) (by kernel_rfl) (by kernel_rfl) (by kernel_rfl) (by kernel_rfl) (fun _ _ _ h => h) (by rfl) ?_ ?_
    rotate_left
    · (intro wS hS; skip; go_simp; (try with_reducible rfl))
    simp only [List.setIfInBounds_toArray, List.set_cons_zero, List.set_cons_succ]
    refine cm_run 3 91 (v := ?_) rfl rfl (by kernel_rfl) (by kernel_rfl) (by kernel_rfl) (by kernel_rfl) (by kernel_rfl) (fun _ _ _ h => h) (by rfl) ?_ ?_
    rotate_left
    · (intro wS hS; skip; go_simp; (try with_reducible rfl))
    simp only [List.setIfInBounds_toArray, List.set_cons_zero, List.set_cons_succ]
    refine cm_run 4 92 (v := ?_) rfl rfl (by kernel_rfl) (by kernel_rfl) (by kernel_rfl) (by kernel_rfl) (by kernel_rfl) (fun _ _ _ h => h) (by rfl) ?_ ?_
    rotate_left
    · (intro wS hS; skip; go_simp; (try with_reducible rfl))
    simp only [List.setIfInBounds_toArray, List.set_cons_zero, List.set_cons_succ]
    refine cm_run 5 93 (v := .agg #[.slice ca L cc, .int .i64 arr]) rfl rfl (by kernel_rfl) (by kernel_rfl) (by kernel_rfl) (by kernel_rfl) (by kernel_rfl) (fun _ _ _ h => h) (by rfl) ?_ ?_
    · (intro wS hS; (have j0 := cell_later hS x0; have j1 := cell_later hS x1); go_simp; (try with_reducible rfl))
    simp only [List.setIfInBounds_toArray, List.set_cons_zero, List.set_cons_succ]
    refine cm_call 6 94 21 (v := .int .i64 0) (args := ?_) rfl rfl (by kernel_rfl) (by kernel_rfl) (by kernel_rfl) (by kernel_rfl) (by kernel_rfl) (fun _ _ _ h => h) (by rfl) ?_ ?_ ?_
    rotate_left 1
    · (intro wS hS; go_simp; (try with_reducible rfl))
    · (intro wS hS; refine (HCK.out _ hS).mono ?_; (rintro e w2 ⟨rfl, hb⟩; exact ⟨rfl, Below.next hS hb⟩))
    simp only [List.setIfInBounds_toArray, List.set_cons_zero, List.set_cons_succ]
    refine cm_run 7 95 (v := ?_) rfl rfl (by kernel_rfl) (by kernel_rfl) (by kernel_rfl) (by kernel_rfl) (by kernel_rfl) (fun _ _ _ h => h) (by rfl) ?_ ?_
    rotate_left
    · (intro wS hS; skip; go_simp; (try with_reducible rfl))
    simp only [List.setIfInBounds_toArray, List.set_cons_zero, List.set_cons_succ]
    refine cm_run 8 96 (v := ?_) rfl rfl (by kernel_rfl) (by kernel_rfl) (by kernel_rfl) (by kernel_rfl) (by kernel_rfl) (fun _ _ _ h => h) (by rfl) ?_ ?_
    rotate_left
    · (intro wS hS; skip; go_simp; (try with_reducible rfl))
    simp only [List.setIfInBounds_toArray, List.set_cons_zero, List.set_cons_succ]
    refine cm_run 9 97 (v := ?_) rfl rfl (by kernel_rfl) (by kernel_rfl) (by kernel_rfl) (by kernel_rfl) (by kernel_rfl) (fun _ _ _ h => h) (by rfl) ?_ ?_
    rotate_left
    · (intro wS hS; skip; go_simp; (try with_reducible rfl))
    simp only [List.setIfInBounds_toArray, List.set_cons_zero, List.set_cons_succ]
    refine cm_run 10 98 (v := ?_) rfl rfl (by kernel_rfl) (by kernel_rfl) (by kernel_rfl) (by kernel_rfl) (by kernel_rfl) (fun _ _ _ h => h) (by rfl) ?_ ?_
    rotate_left
    · (intro wS hS; skip; go_simp; (try with_reducible rfl))
    simp only [List.setIfInBounds_toArray, List.set_cons_zero, List.set_cons_succ]
    refine cm_run 11 99 (v := ?_) rfl rfl (by kernel_rfl) (by kernel_rfl) (by kernel_rfl) (by kernel_rfl) (by kernel_rfl) (fun _ _ _ h => h) (by rfl) ?_ ?_
    rotate_left
    · (intro wS hS; skip; go_simp; (try with_reducible rfl))
    simp only [List.setIfInBounds_toArray, List.set_cons_zero, List.set_cons_succ]
    refine cm_run 12 100 (v := ?_) rfl rfl (by kernel_rfl) (by kernel_rfl) (by kernel_rfl) (by kernel_rfl) (by kernel_rfl) (fun _ _ _ h => h) (by rfl) ?_ ?_
    rotate_left
    · (intro wS hS; skip; go_simp; (try with_reducible rfl))
    simp only [List.setIfInBounds_toArray, List.set_cons_zero, List.set_cons_succ]
    refine cm_run 13 101 (v := .int .i64 arr) rfl rfl (by kernel_rfl) (by kernel_rfl) (by kernel_rfl) (by kernel_rfl) (by kernel_rfl) (fun _ _ _ h => h) (by rfl) ?_ ?_
    · (intro wS hS; (have j0 := cell_later hS g0); go_simp; (try with_reducible rfl))
    simp only [List.setIfInBounds_toArray, List.set_cons_zero, List.set_cons_succ]
    refine cm_run 14 102 (v := ?_) rfl rfl (by kernel_rfl) (by kernel_rfl) (by kernel_rfl) (by kernel_rfl) (by kernel_rfl) (fun _ _ _ h => h) (by rfl) ?_ ?_
    rotate_left
    · (intro wS hS; skip; go_simp; (try with_reducible rfl))
    simp only [List.setIfInBounds_toArray, List.set_cons_zero, List.set_cons_succ]
    refine cm_run 15 103 (v := .int .i64 arr) rfl rfl (by kernel_rfl) (by kernel_rfl) (by kernel_rfl) (by kernel_rfl) (by kernel_rfl) (fun _ _ _ h => h) (by rfl) ?_ ?_
    · (intro wS hS; (have j1 := cell_later hS x1); go_simp; (try with_reducible rfl))
    simp only [List.setIfInBounds_toArray, List.set_cons_zero, List.set_cons_succ]
    refine cm_run 16 104 (v := ?_) rfl rfl (by kernel_rfl) (by kernel_rfl) (by kernel_rfl) (by kernel_rfl) (by kernel_rfl) (fun _ _ _ h => h) (by rfl) ?_ ?_
    rotate_left
    · (intro wS hS; skip; go_simp; (try with_reducible rfl))
    simp only [List.setIfInBounds_toArray, List.set_cons_zero, List.set_cons_succ]
    refine cm_run 17 105 (v := ?_) rfl rfl (by kernel_rfl) (by kernel_rfl) (by kernel_rfl) (by kernel_rfl) (by kernel_rfl) (fun _ _ _ h => h) (by rfl) ?_ ?_
    rotate_left
    · (intro wS hS; skip; go_simp; (try with_reducible rfl))
    simp only [List.setIfInBounds_toArray, List.set_cons_zero, List.set_cons_succ]
    refine cm_run 18 106 (v := ?_) rfl rfl (by kernel_rfl) (by kernel_rfl) (by kernel_rfl) (by kernel_rfl) (by kernel_rfl) (fun _ _ _ h => h) (by rfl) ?_ ?_
    rotate_left
    · (intro wS hS; skip; go_simp; (try with_reducible rfl))
    simp only [List.setIfInBounds_toArray, List.set_cons_zero, List.set_cons_succ]
    refine cm_run 19 107 (v := ?_) rfl rfl (by kernel_rfl) (by kernel_rfl) (by kernel_rfl) (by kernel_rfl) (by kernel_rfl) (fun _ _ _ h => h) (by rfl) ?_ ?_
    rotate_left
    · (intro wS hS; skip; go_simp; (try with_reducible rfl))
    simp only [List.setIfInBounds_toArray, List.set_cons_zero, List.set_cons_succ]
    refine cm_run 20 108 (v := .slice ca L cc) rfl rfl (by kernel_rfl) (by kernel_rfl) (by kernel_rfl) (by kernel_rfl) (by kernel_rfl) (fun _ _ _ h => h) (by rfl) ?_ ?_
    · (intro wS hS; (have j0 := cell_later hS x0); go_simp; (try with_reducible rfl))
    simp only [List.setIfInBounds_toArray, List.set_cons_zero, List.set_cons_succ]
    refine cm_run 21 109 (v := ?_) rfl rfl (by kernel_rfl) (by kernel_rfl) (by kernel_rfl) (by kernel_rfl) (by kernel_rfl) (fun _ _ _ h => h) (by rfl) ?_ ?_
    rotate_left
    · (intro wS hS; skip; go_simp; (try with_reducible rfl))
    simp only [List.setIfInBounds_toArray, List.set_cons_zero, List.set_cons_succ]
    refine cm_run 22 110 (v := ?_) rfl rfl (by kernel_rfl) (by kernel_rfl) (by kernel_rfl) (by kernel_rfl) (by kernel_rfl) (fun _ _ _ h => h) (by rfl) ?_ ?_
    rotate_left
    · (intro wS hS; skip; go_simp; (try with_reducible rfl))
    simp only [List.setIfInBounds_toArray, List.set_cons_zero, List.set_cons_succ]
    refine cm_run 23 111 (v := ?_) rfl rfl (by kernel_rfl) (by kernel_rfl) (by kernel_rfl) (by kernel_rfl) (by kernel_rfl) (fun _ _ _ h => h) (by rfl) ?_ ?_
    rotate_left
    · (intro wS hS; skip; go_simp; (try with_reducible rfl))
    simp only [List.setIfInBounds_toArray, List.set_cons_zero, List.set_cons_succ]
    refine cm_done (by kernel_rfl) ?_
    intro wS hS
    refine NoPanic.normal ?_
    replace HROW := Lib.hid (HROW.out.keep hS)
    replace HRD := Lib.hid (HRD.out.keep hS)
    replace HBW := Lib.hid (Below.next HBW.out hS)
    replace HX := Lib.hid (HX.out.below hS)
    clear x0 x1 g0 hS HCK HS
    obtain ⟨Q7, HQ7⟩ : ∃ Q, Hid (wS.heap.size = Q) := ⟨_, Lib.hid rfl⟩
    obtain ⟨W7, HW7⟩ : ∃ V : World, Hid (V = wS.alloc (.cells #[.bool false, .bool false, .bool false, .bool false, .bool false, .bool false, .bool false, .bool false, .bool false, .bool false, .bool false, .bool false, .bool false, .bool false, .bool false, .bool false, .bool false] 50)) := ⟨_, Lib.hid rfl⟩
    have h7 : ArT W7 Q7 (sN []) := by rw [sN_nil, HW7.out, ← HQ7.out]; exact BoxN.new wS _ _
    have hb7 : Below wS.heap.size wS W7 := by rw [HW7.out]; exact (by repeat (first | assumption | exact Below.refl _ _ | apply Below.al | apply below_drewN | apply Below.drew | refine Below.next ?_ (by assumption)))
    go_upto_region 13 with fail
    rw [← HW7.out, HQ7.out]
    clear HW7
    have n1 : (0 : Int) ≤ u := by have := HFR.out.1; omega
    have n2 : u < 17 := by have := HFR.out.2; omega
    have gU := h7.at u.toNat (by rw [sN_len]; omega)
    have fU := h7.fz u.toNat
    have hwU : IntKind.i64.wrap u = u := IntWalk.i64_in _ (by omega)
    obtain ⟨W8, hW8⟩ : ∃ V : World, V = W7.setCell ⟨Q7, u.toNat, none⟩ (.bool true) := ⟨_, rfl⟩
    have h8 : ArT W8 Q7 (sN [u]) := by
      have := h7.set u.toNat true
      rw [sN_set _ _ (by omega), show ((u.toNat : Nat) : Int) = u by omega] at this
      rw [hW8]; exact this
    have hb8 : Below wS.heap.size wS W8 := by rw [hW8]; exact hb7.setCell (p := ⟨Q7, u.toNat, none⟩) (by rw [HQ7.out]; exact Nat.le_refl _) _
    go_upto_region 14 with fail
    rw [← hW8]
    have HQ8 := Lib.hid h8
    have HB8 := Lib.hid hb8
    clear hW8 h7 hb7 gU fU hwU h8 hb8 n1 n2
    go_wp2_with fail
    go_loopw [18] (fun iv wr => ∃ i : Nat, i ≤ L ∧ iv = .int .i64 i ∧ ArT wr Q7 (sN (u :: (ndl cs l).take i)) ∧ Below wS.heap.size wS wr) (fun iv _ => L - (intOf iv).toNat)
    case atStart => exact ⟨0, Nat.zero_le _, rfl, by simpa using HQ8.out, HB8.out⟩
    case round =>
      obtain ⟨i, hiL, rfl, hT, hbr⟩ := hrel
      have hxr := HX.out.below hbr
      have x0 : wr.cell? ⟨Q4, 0, none⟩ = some (.slice ca L cc) := hxr.cell 0
      by_cases hlt : i < L
      · have d2 : decide ((i : Int) < (L : Int)) = true := yb (by omega)
        obtain ⟨b2, o2, hab2, hc2, f0⟩ := RdI.at (HROW.out.keep hbr) HLL.out i hlt
        subst hab2
        rw [ints_get] at f0
        have him : l.getD i 0 ∈ l := by rw [List.getD_eq_getElem?_getD, List.getElem?_eq_getElem (by rw [HNL.out]; exact hlt)]; exact List.getElem_mem _
        obtain ⟨ci, HCI⟩ : ∃ k, Hid (l.getD i 0 = k) := ⟨_, Lib.hid rfl⟩
        rw [HCI.out] at f0 him
        have hcN := HIN.out _ him
        obtain ⟨b3, o3, hab3, hc3, ca0, ca1, ca2, ca3, ca4, ca5⟩ := RdC.at (HRD.out.keep hbr) HNP.out ci hcN
        subst hab3
        have hok : okC (cs.getD ci c0) := HOKP.out _ (by rw [List.getD_eq_getElem?_getD, List.getElem?_eq_getElem (by rw [HNP.out]; exact hcN)]; exact List.getElem_mem _)
        obtain ⟨x, HXX⟩ : ∃ y, Hid ((cs.getD ci c0).dt = y) := ⟨_, Lib.hid rfl⟩
        have hdt := hok.2.1
        rw [HXX.out] at ca1 hdt
        have hni : i < (ndl cs l).length := by unfold ndl; rw [List.length_map, HNL.out]; exact hlt
        have hxe : (ndl cs l).getD i 0 = x := by rw [ndl_get (by rw [HNL.out]; exact hlt), HCI.out, HXX.out]
        have hfre := fresh_at HSIM.out hni
        have htn := take_next (u := u) hni
        rw [hxe] at hfre htn
        have gX := hT.at x.toNat (by rw [sN_len]; omega)
        rw [sN_get _ _ (by omega), show ((x.toNat : Nat) : Int) = x by omega, decide_eq_false hfre] at gX
        have fX := hT.fz x.toNat
        obtain ⟨W9, hW9⟩ : ∃ V : World, V = wr.setCell ⟨Q7, x.toNat, none⟩ (.bool true) := ⟨_, rfl⟩
        have h9 : ArT W9 Q7 (sN (u :: (ndl cs l).take (i + 1))) := by
          have := hT.set x.toNat true
          rw [sN_set _ _ (by omega), show ((x.toNat : Nat) : Int) = x by omega, sN_mem htn] at this
          rw [hW9]; exact this
        have hb9 : Below wS.heap.size wS W9 := by rw [hW9]; exact hbr.setCell (p := ⟨Q7, x.toNat, none⟩) (by rw [HQ7.out]; exact Nat.le_refl _) _
        have H9 := Lib.hid h9
        have HB9 := Lib.hid hb9
        have n1 : (0 : Int) ≤ (i : Int) := by omega
        have n2 : (i : Int) < (L : Int) := by omega
        have n3 : (0 : Int) ≤ x := by omega
        have n4 : x < 17 := by omega
        have n5 : (0 : Int) ≤ (ci : Int) := by omega
        have n6 : (ci : Int) < (NP : Int) := by omega
        have d3 : decide ((ci : Int) < 0) = false := nb (by omega)
        have d4 : decide ((ci : Int) ≥ (NP : Int)) = false := nb (by omega)
        have hwk : IntKind.i64.wrap (i : Int) = (i : Int) := IntWalk.i64_in _ (by omega)
        have hwk1 : IntKind.i64.wrap ((i : Int) + 1) = (i : Int) + 1 := IntWalk.i64_in _ (by omega)
        have hwx : IntKind.i64.wrap x = x := IntWalk.i64_in _ (by omega)
        have hwc : IntKind.i64.wrap (ci : Int) = (ci : Int) := IntWalk.i64_in _ (by omega)
        clear h9 hb9 hfre htn hxe hni hok hdt him hT hxr ca0 ca2 ca3 ca4 ca5 hlt hiL hcN
        go_upto_region 16 with fail
        rw [← hW9]
        clear hW9
        go_wp2_with fail
        go_roundw
        case rel => exact ⟨i + 1, by omega, by go_num, H9.out, HB9.out⟩
        case measure => simp [intOf]; omega
      · obtain rfl : i = L := by omega
        have d2 : decide ((i : Int) < (i : Int)) = false := nb (by omega)
        go_wp2_with fail
        go_ret
        exact ⟨rfl, Below.next HBW.out hbr⟩
end Go.Proofs.Ytgmfifilgbbogaa
