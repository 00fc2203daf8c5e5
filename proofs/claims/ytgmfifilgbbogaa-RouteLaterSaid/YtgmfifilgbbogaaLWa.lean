


/- RouteLater: the law's walk. -/
import Derived.Test.YtgmfifilgbbogaaRXk
import Derived.Test.YtgmfifilgbbogaaRYa
import Derived.Test.YtgmfifilgbbogaaAVa
import Derived.Test.YtgmfifilgbbogaaLAp
import Derived.Test.YtgmfifilgbbogaaOQa
namespace Go.Proofs.Ytgmfifilgbbogaa
open Go.RowKit
set_option linter.unusedSimpArgs false
set_option linter.unusedVariables false
set_option maxRecDepth 100000

set_option maxHeartbeats 8000000 in
theorem llater_any (nv : Value) (nums : List Int) (n dl mo wh : Int) (hb : ∀ x ∈ nums, Ib x) (hn : Ib n) (hdl : Ib dl) (hmo : Ib mo) (hwh : Ib wh) (w : World) (h : RdI .i64 w nv nums) :
    Calls Try.prog 8 #[nv, .int .i64 n, .int .i64 dl, .int .i64 mo, .int .i64 wh] w fun e w' => e = .returned (.bool true) ∧ Below w.heap.size w w' := by
  obtain ⟨a, c, rfl⟩ := h.form
  have HAK := Lib.hid (fun w' (hb' : Below w.heap.size w w') => asked_any (.slice a nums.length c) nums n hb hn w' (h.keep hb'))
  have hq := ask_ok nums n
  obtain ⟨q, hqe⟩ : ∃ q, askV nums n = q := ⟨_, rfl⟩
  rw [hqe] at HAK hq
  obtain ⟨N, hN⟩ : ∃ N, nums.length = N := ⟨_, rfl⟩
  rw [hN] at HAK ⊢
  clear h hb hn hN hqe
  obtain ⟨D, hD⟩ : ∃ D, dl % 20 = D := ⟨_, rfl⟩
  obtain ⟨E, hE⟩ : ∃ E, mo % 300 = E := ⟨_, rfl⟩
  have hD0 : 0 ≤ D ∧ D < 20 := by omega
  have hE0 : 0 ≤ E ∧ E < 300 := by omega
  have HMD := Lib.hid (fun w' => mod_any dl 20 (by decide) (by decide) hdl w')
  have HME := Lib.hid (fun w' => mod_any mo 300 (by decide) (by decide) hmo w')
  rw [hD] at HMD
  rw [hE] at HME
  have HQK := Lib.hid hq
  have htk := hq.tk
  have hsz := hq.sz
  have c1 := hq.chk
  have c2 := hq.chk2 (t := q.tk + D) (n := q.sz) (by omega) (by omega)
  have c3 := hq.chk2 (t := q.tk) (n := q.sz + E) (by omega) (by omega)
  obtain ⟨cs, u, v, t, s⟩ := q
  dsimp only at HAK c1 c2 c3 htk hsz
  have hfr : 1 ≤ u ∧ u ≤ 5 := HQK.out.fr
  have hto : 1 ≤ v ∧ v ≤ 5 := HQK.out.nd
  have hokp : okP cs := HQK.out.okp
  have hwf : ∀ c, c ∈ cs → Wf c := HQK.out.wf
  have hpv : PV cs := HQK.out.pv
  have lA := arr_least (cs := cs) (n := s) (u := u) (t := t) (v := v) hokp hsz.1 (by omega) htk.1 (by omega)
  have lB := arr_least (cs := cs) (n := s) (u := u) (t := t + D) (v := v) hokp hsz.1 (by omega) (by omega) (by omega)
  have lC := arr_least (cs := cs) (n := s + E) (u := u) (t := t) (v := v) hokp (by omega) (by omega) htk.1 (by omega)
  have nB := not_before lA lB (fun r h => later_t (by omega) r h)
  have nC := not_before lA lC (fun r h => later_n hokp (by omega) r h)
  have HLA := Lib.hid lA
  have HWF := Lib.hid hwf
  have HA := Lib.hid (fun pv w' (hr : RdC w' pv cs) => arrival_any pv cs u v t s hwf c1 w' hr)
  have HAB := Lib.hid (fun pv w' (hr : RdC w' pv cs) => arrival_any pv cs u v (t + D) s hwf c2 w' hr)
  have HAC := Lib.hid (fun pv w' (hr : RdC w' pv cs) => arrival_any pv cs u v t (s + E) hwf c3 w' hr)
  obtain ⟨A, hA⟩ : ∃ A, arrE cs s u t v = A := ⟨_, rfl⟩
  obtain ⟨B, hB⟩ : ∃ A, arrE cs s u (t + D) v = A := ⟨_, rfl⟩
  obtain ⟨C, hC⟩ : ∃ A, arrE cs (s + E) u t v = A := ⟨_, rfl⟩
  rw [hA] at nB nC HA HLA
  rw [hB] at nB HAB
  rw [hC] at nC HAC
  have hw1 : IntKind.i64.wrap (t + D) = t + D := IntWalk.i64_in _ (by omega)
  have hw2 : IntKind.i64.wrap (s + E) = s + E := IntWalk.i64_in _ (by omega)
  obtain ⟨NP, hNP⟩ : ∃ k, cs.length = k := ⟨_, rfl⟩
  have HNP := Lib.hid hNP
  have HNB := Lib.hid nB
  have HNC := Lib.hid nC
  clear lA lB lC nB nC hA hB hC hD hE hq c1 c2 c3 hwf
  go_enter Try.func8, Try.ntmps8
  go_wp2_with fail
  refine (known_any w).mono ?_
  rintro e w1 ⟨rfl, hb1⟩
  have HAK1 := Lib.hid (HAK.out w1 hb1)
  go_wp2_with fail
  refine HAK1.out.mono ?_
  rintro e w2 ⟨pv, rfl, hrd, hb2⟩
  obtain ⟨pa, pc, rfl⟩ := hrd.form
  rw [HNP.out] at hrd ⊢
  have HRD := Lib.hid hrd
  have HBW := Lib.hid (Below.next hb1 hb2)
  have HA1 := Lib.hid (HA.out _ w2 hrd)
  clear hrd hb1 hb2 HAK1
  go_wp2_with fail
  refine (HA1).out.mono ?_
  rintro e w3 ⟨rfl, hb3⟩
  replace HRD := Lib.hid (HRD.out.keep hb3)
  replace HBW := Lib.hid (Below.next HBW.out hb3)
  have HMD3 := Lib.hid (HMD.out w3)
  have HA2 := Lib.hid (HAB.out _ w3 HRD.out)
  clear hb3 HA1
  go_wp2_with fail
  refine HMD3.out.mono ?_
  rintro e w4 ⟨rfl, h9⟩
  subst h9
  go_wp2_with fail
  refine (HA2).out.mono ?_
  rintro e w5 ⟨rfl, hb5⟩
  replace HRD := Lib.hid (HRD.out.keep hb5)
  replace HBW := Lib.hid (Below.next HBW.out hb5)
  have HME5 := Lib.hid (HME.out w5)
  have HA3 := Lib.hid (HAC.out _ w5 HRD.out)
  clear hb5 HA2 HMD3
  go_wp2_with fail
  refine HME5.out.mono ?_
  rintro e w6 ⟨rfl, h9⟩
  subst h9
  go_wp2_with fail
  refine (HA3).out.mono ?_
  rintro e w7 ⟨rfl, hb7⟩
  replace HRD := Lib.hid (HRD.out.keep hb7)
  replace HBW := Lib.hid (Below.next HBW.out hb7)
  have HN1 := Lib.hid (lbefore_any B A w7 HNB.out)
  clear hb7 HA3 HME5
  go_wp2_with fail
  refine (HN1).out.mono ?_
  rintro e w8 ⟨rfl, hb8⟩
  replace HRD := Lib.hid (HRD.out.keep hb8)
  replace HBW := Lib.hid (Below.next HBW.out hb8)
  have HN2 := Lib.hid (lbefore_any C A w8 HNC.out)
  clear hb8 HN1
  go_wp2_with fail
  refine (HN2).out.mono ?_
  rintro e w9 ⟨rfl, hb9⟩
  replace HRD := Lib.hid (HRD.out.keep hb9)
  replace HBW := Lib.hid (Below.next HBW.out hb9)
  clear hb9 HN2
  by_cases h0 : NP = 0
  · have d8 : ((NP : Int) == 0) = true := by rw [h0]; rfl
    clear h0 hNP
    go_wp2_with fail
    go_ret
    exact ⟨rfl, HBW.out⟩
  · have d8 : ((NP : Int) == 0) = false := by simpa using h0
    obtain ⟨K, hK⟩ : ∃ K, wh % (NP : Int) = K := ⟨_, rfl⟩
    have hK0 : 0 ≤ K := by rw [← hK]; exact Int.emod_nonneg _ (by omega)
    have hK1 : K < NP := by rw [← hK]; exact Int.emod_lt_of_pos _ (by omega)
    have hlen : cs.length ≤ 12 := HQK.out.len
    have HMW := Lib.hid (mod_any wh NP (by omega) (by omega) hwh w9)
    rw [hK] at HMW
    clear hK h0
    go_wp2_with fail
    refine HMW.out.mono ?_
    rintro e w10 ⟨rfl, h9⟩
    subst h9
    obtain ⟨k, rfl⟩ : ∃ k : Nat, K = (k : Int) := ⟨K.toNat, by omega⟩
    have hk : k < NP := by omega
    have hk2 : k < cs.length := by rw [HNP.out]; exact hk
    have hlp := less_pv (k := k) HQK.out.pv
    have hll := less_len hk2
    have hcl : chkE (lessP cs k) t s [u, v] = 0 := pv_ok hlp (by omega) (by have : 0 ≤ t ∧ t < 50 := HQK.out.tk; omega) (by have : 1 ≤ s ∧ s ≤ 400 := HQK.out.sz; omega) (fun x hx => by
      simp only [List.mem_cons, List.mem_nil_iff, or_false] at hx
      rcases hx with rfl | rfl
      · have : 1 ≤ x ∧ x ≤ 5 := HQK.out.fr; omega
      · have : 1 ≤ x ∧ x ≤ 5 := HQK.out.nd; omega)
    have hlw : ∀ c, c ∈ lessP cs k → Wf c := fun c hc => wf_of_ok (hlp.1 c hc)
    have lD := arr_least (cs := lessP cs k) (n := s) (u := u) (t := t) (v := v) hlp.1 (by have : 1 ≤ s ∧ s ≤ 400 := HQK.out.sz; omega) (by have : 1 ≤ u ∧ u ≤ 5 := HQK.out.fr; omega) (by have : 0 ≤ t ∧ t < 50 := HQK.out.tk; omega) (by have : 1 ≤ v ∧ v ≤ 5 := HQK.out.nd; omega)
    have nD := not_before HLA.out lD (fun r h => later_k hk2 r h)
    have HAL := Lib.hid (fun pv w' (hr : RdC w' pv (lessP cs k)) => arrival_any pv (lessP cs k) u v t s hlw hcl w' hr)
    obtain ⟨D, hD⟩ : ∃ A, arrE (lessP cs k) s u t v = A := ⟨_, rfl⟩
    rw [hD] at nD HAL
    have HND := Lib.hid nD
    clear nD lD hlw hcl hlp hll hD
    obtain ⟨v1, hs1, hr1⟩ := pcut_take HRD.out HNP.out k (by omega)
    obtain ⟨v2, hs2, hr2⟩ := pcut_drop HRD.out HNP.out (k + 1) (by omega)
    rw [show ((k + 1 : Nat) : Int) = (k : Int) + 1 by push_cast; rfl] at hs2
    have HR1 := Lib.hid hr1
    have HR2 := Lib.hid hr2
    have hwk1 : IntKind.i64.wrap ((k : Int) + 1) = (k : Int) + 1 := IntWalk.i64_in _ (by omega)
    have HT : Hid ((cs.take k).length = k) := by unfold Hid; rw [List.length_take]; omega
    have HDL : Hid ((cs.drop (k + 1)).length = NP - (k + 1)) := by unfold Hid; rw [List.length_drop, HNP.out]
    have hN12 : NP ≤ 12 := by have := HNP.out; omega
    have HW9 := Lib.hid HBW.out.size
    clear hr1 hr2 hk2 hlen hK0 hK1
    go_upto_region 11 with fail
    refine wp_region_noPanic ?_
    refine wp_region_held_drew (S := (fun w' => Below w9.heap.size w9 w')) (by kernel_rfl) ((Below.refl _ w9).drew) (fun hHeld => ?_)
    refine reg_tk (v := ?_) 0 98 rfl rfl (by kernel_rfl) (by kernel_rfl) (by kernel_rfl) (fun _ _ _ h => h) (by rfl) ?_ (by assumption) ?_
    rotate_left
    · (intro w hSw; (try dsimp only at hSw); go_simp; (try with_reducible rfl))
    simp only [List.setIfInBounds_toArray, List.set_cons_zero, List.set_cons_succ]
    refine reg_tk (v := ?_) 1 99 rfl rfl (by kernel_rfl) (by kernel_rfl) (by kernel_rfl) (fun _ _ _ h => h) (by rfl) ?_ (by assumption) ?_
    rotate_left
    · (intro w hSw; (try dsimp only at hSw); go_simp; (try with_reducible rfl))
    simp only [List.setIfInBounds_toArray, List.set_cons_zero, List.set_cons_succ]
    refine reg_tk (v := v1) 2 100 rfl rfl (by kernel_rfl) (by kernel_rfl) (by kernel_rfl) (fun _ _ _ h => h) (by rfl) (fun w3 hS => by have g := hs1; go_simp) (by assumption) ?_
    simp only [List.setIfInBounds_toArray, List.set_cons_zero, List.set_cons_succ]
    refine reg_tk (v := ?_) 4 102 rfl rfl (by kernel_rfl) (by kernel_rfl) (by kernel_rfl) (fun _ _ _ h => h) (by rfl) ?_ (by assumption) ?_
    rotate_left
    · (intro w hSw; (try dsimp only at hSw); go_simp; (try with_reducible rfl))
    simp only [List.setIfInBounds_toArray, List.set_cons_zero, List.set_cons_succ]
    refine reg_tk (v := ?_) 5 103 rfl rfl (by kernel_rfl) (by kernel_rfl) (by kernel_rfl) (fun _ _ _ h => h) (by rfl) ?_ (by assumption) ?_
    rotate_left
    · (intro w hSw; (try dsimp only at hSw); go_simp; (try with_reducible rfl))
    simp only [List.setIfInBounds_toArray, List.set_cons_zero, List.set_cons_succ]
    refine reg_tk (v := ?_) 6 104 rfl rfl (by kernel_rfl) (by kernel_rfl) (by kernel_rfl) (fun _ _ _ h => h) (by rfl) ?_ (by assumption) ?_
    rotate_left
    · (intro w hSw; (try dsimp only at hSw); go_simp; (try with_reducible rfl))
    simp only [List.setIfInBounds_toArray, List.set_cons_zero, List.set_cons_succ]
    refine reg_tk (v := v2) 7 105 rfl rfl (by kernel_rfl) (by kernel_rfl) (by kernel_rfl) (fun _ _ _ h => h) (by rfl) (fun w3 hS => by have g := hs2; go_simp) (by assumption) ?_
    simp only [List.setIfInBounds_toArray, List.set_cons_zero, List.set_cons_succ]
    refine reg_tk (v := ?_) 9 107 rfl rfl (by kernel_rfl) (by kernel_rfl) (by kernel_rfl) (fun _ _ _ h => h) (by rfl) ?_ (by assumption) ?_
    rotate_left
    · (intro w hSw; (try dsimp only at hSw); go_simp; (try with_reducible rfl))
    simp only [List.setIfInBounds_toArray, List.set_cons_zero, List.set_cons_succ]
    refine reg_tk (v := ?_) 10 108 rfl rfl (by kernel_rfl) (by kernel_rfl) (by kernel_rfl) (fun _ _ _ h => h) (by rfl) ?_ (by assumption) ?_
    rotate_left
    · (intro w hSw; (try dsimp only at hSw); go_simp; (try with_reducible rfl))
    simp only [List.setIfInBounds_toArray, List.set_cons_zero, List.set_cons_succ]
    refine reg_tk (v := ?_) 11 109 rfl rfl (by kernel_rfl) (by kernel_rfl) (by kernel_rfl) (fun _ _ _ h => h) (by rfl) ?_ (by assumption) ?_
    rotate_left
    · (intro w hSw; (try dsimp only at hSw); go_simp; (try with_reducible rfl))
    simp only [List.setIfInBounds_toArray, List.set_cons_zero, List.set_cons_succ]
    refine reg_tk (v := ?_) 12 110 rfl rfl (by kernel_rfl) (by kernel_rfl) (by kernel_rfl) (fun _ _ _ h => h) (by rfl) ?_ (by assumption) ?_
    rotate_left
    · (intro w hSw; (try dsimp only at hSw); go_simp; (try with_reducible rfl))
    simp only [List.setIfInBounds_toArray, List.set_cons_zero, List.set_cons_succ]
    refine wpAnyH_ready (rs := [3]) (by kernel_rfl) (by simp) ?_
    refine AllReadyH.cons rfl (fun K hK => ?_) AllReadyH.nil
    go_simp
    refine (ownPlan_own v1 (cs.take k) (by rw [HT.out]; omega) _ (HR1.out.keep (Below.refl _ w9).drew)).mono ?_
    rintro x w10 ⟨a, c, rfl, hown, hb⟩
    rw [HT.out] at hown ⊢
    have hB := Below.next (Below.refl _ w9).drew hb
    have HOWN := Lib.hid hown
    have HR3 := Lib.hid (HR2.out.keep hB)
    clear hown
    refine hK.out _ _ hB (fun hHeld2 => ?_)
    clear hK K hHeld
    have hHeld := hHeld2
    clear hHeld2
    try simp only [Act.put, List.setIfInBounds_toArray, List.set_cons_zero, List.set_cons_succ]
    refine wpAnyH_ready (rs := [8]) (by kernel_rfl) (by simp) ?_
    refine AllReadyH.cons rfl (fun K hK => ?_) AllReadyH.nil
    refine wp_app (.tmp 101) (.tmp 105) 22 rfl w9.heap.size 52 _ 6 48 ECt _ k (ccs (cs.take k)) rfl HOWN.out _ (NP - (k + 1)) (ccs (cs.drop (k + 1))) rfl (by have := HR3.out; unfold RdC at this; rwa [HDL.out] at this) (ccs_one _) (by unfold maxLen; omega) (by omega) (by have := hB.size; omega) ?_
    intro a' c' w11 hown3 hg3 hb3
    have hB3 : Below w9.heap.size w9 w11 := hB.trans hb3
    have hrd : RdC w11 (.slice a' (k + (NP - (k + 1))) c') (lessP cs k) := by
      have := RdS.of_owns hown3 (by decide)
      unfold RdC lessP
      rw [ccs_app, List.length_append, HT.out, HDL.out]
      exact this
    obtain ⟨M, hM⟩ : ∃ M, k + (NP - (k + 1)) = M := ⟨_, rfl⟩
    rw [hM] at hrd ⊢
    have HA9 := Lib.hid (HAL.out _ w11 hrd)
    clear hown3 hg3 hrd hM
    show K (Act.put _ (some 106) _) _
    refine hK.out _ _ hB3 (fun hHeld2 => ?_)
    clear hK K hHeld
    have hHeld := hHeld2
    clear hHeld2
    try simp only [Act.put, List.setIfInBounds_toArray, List.set_cons_zero, List.set_cons_succ]
    refine wpAnyH_ready (rs := [13]) (by kernel_rfl) (by simp) ?_
    refine AllReadyH.cons rfl (fun K hK => ?_) AllReadyH.nil
    go_simp
    refine HA9.out.mono ?_
    rintro e w12 ⟨rfl, hb12⟩
    have hB4 := Below.next hB3 hb12
    refine hK.out _ _ hB4 (fun hHeld2 => ?_)
    clear hK K hHeld
    have hHeld := hHeld2
    clear hHeld2
    try simp only [Act.put, List.setIfInBounds_toArray, List.set_cons_zero, List.set_cons_succ]
    refine reg_tk (v := ?_) 14 97 rfl rfl (by kernel_rfl) (by kernel_rfl) (by kernel_rfl) (fun _ _ _ h => h) (by rfl) ?_ (by assumption) ?_
    rotate_left
    · (intro w hSw; (try dsimp only at hSw); go_simp; (try with_reducible rfl))
    simp only [List.setIfInBounds_toArray, List.set_cons_zero, List.set_cons_succ]
    refine reg_tk (v := ?_) 15 112 rfl rfl (by kernel_rfl) (by kernel_rfl) (by kernel_rfl) (fun _ _ _ h => h) (by rfl) ?_ (by assumption) ?_
    rotate_left
    · (intro w hSw; (try dsimp only at hSw); go_simp; (try with_reducible rfl))
    simp only [List.setIfInBounds_toArray, List.set_cons_zero, List.set_cons_succ]
    refine reg_tk (v := ?_) 16 113 rfl rfl (by kernel_rfl) (by kernel_rfl) (by kernel_rfl) (fun _ _ _ h => h) (by rfl) ?_ (by assumption) ?_
    rotate_left
    · (intro w hSw; (try dsimp only at hSw); go_simp; (try with_reducible rfl))
    simp only [List.setIfInBounds_toArray, List.set_cons_zero, List.set_cons_succ]
    refine reg_tk (v := ?_) 17 24 rfl rfl (by kernel_rfl) (by kernel_rfl) (by kernel_rfl) (fun _ _ _ h => h) (by rfl) ?_ (by assumption) ?_
    rotate_left
    · (intro w hSw; (try dsimp only at hSw); go_simp; (try with_reducible rfl))
    simp only [List.setIfInBounds_toArray, List.set_cons_zero, List.set_cons_succ]
    refine reg_tk (v := ?_) 18 25 rfl rfl (by kernel_rfl) (by kernel_rfl) (by kernel_rfl) (fun _ _ _ h => h) (by rfl) ?_ (by assumption) ?_
    rotate_left
    · (intro w hSw; (try dsimp only at hSw); go_simp; (try with_reducible rfl))
    simp only [List.setIfInBounds_toArray, List.set_cons_zero, List.set_cons_succ]
    refine wpAnyH_done (by kernel_rfl) ?_ _
    refine NoPanic.normal ?_
    have HBX := Lib.hid (Below.next HBW.out hB4)
    clear hHeld hB hB3 hB4 hb12 hb hb3
    have HN3 := Lib.hid (lbefore_any D A w12 HND.out)
    go_wp2_with fail
    refine HN3.out.mono ?_
    rintro e w13 ⟨rfl, hb13⟩
    go_wp2_with fail
    go_ret
    exact ⟨rfl, Below.next HBX.out hb13⟩
end Go.Proofs.Ytgmfifilgbbogaa
