


/- RouteBest: the law's walk. -/
import Derived.Test.YtgmfifilgbbogaaRUa
namespace Go.Proofs.Ytgmfifilgbbogaa
open Go.RowKit
set_option linter.unusedSimpArgs false
set_option linter.unusedVariables false
set_option maxRecDepth 100000

set_option maxHeartbeats 4000000 in
theorem lawBest (cs : List Ct) (pv : Value) (u v t n : Int) (hwf : ∀ c, c ∈ cs → Wf c) (w : World) (hr : RdC w pv cs) :
    Calls Try.prog 3 #[pv, .int .i64 u, .int .i64 v, .int .i64 t, .int .i64 n] w fun e w' => e = .returned (.bool true) ∧ Below w.heap.size w w' := by
  obtain ⟨a0, n0, rfl⟩ := hr.form
  obtain ⟨N, hN⟩ : ∃ N, cs.length = N := ⟨_, rfl⟩
  rw [hN] at hr ⊢
  have HR := Lib.hid hr
  have HN := Lib.hid hN
  by_cases hc : (40 < N ∧ N ≤ 200) ∨ 205 < N
  · have d1 : decide ((N : Int) > 40) = true := yb (by omega)
    by_cases h2 : N ≤ 200
    · have d2 : decide ((N : Int) ≤ 200) = true := yb (by omega)
      clear hr hN
      go_enter Try.func3, Try.ntmps3
      go_wp2_with fail
      refine (awake_any w).mono ?_
      rintro e w2 ⟨rfl, hb⟩
      go_wp2_with fail
      go_ret
      exact ⟨rfl, hb⟩
    · have d2 : decide ((N : Int) ≤ 200) = false := nb (by omega)
      have d3 : decide ((N : Int) > 205) = true := yb (by omega)
      clear hr hN
      go_enter Try.func3, Try.ntmps3
      go_wp2_with fail
      refine (awake_any w).mono ?_
      rintro e w2 ⟨rfl, hb⟩
      go_wp2_with fail
      go_ret
      exact ⟨rfl, hb⟩
  · have hcl : cs.length ≤ 1000000 := by omega
    have HOW := Lib.hid (ownPlan_any (.slice a0 N n0) cs hcl w hr)
    have d3 : decide ((N : Int) > 205) = false := nb (by omega)
    have hcond : Hid (¬ (40 < N ∧ N ≤ 200)) := Lib.hid (fun h => hc (.inl h))
    obtain ⟨er, arr, l, hq⟩ := bestq_ex cs u v t n
    have HQ := Lib.hid hq
    obtain ⟨bI, eI, HIV⟩ : ∃ b y, Hid (isV cs u v t n = (b, y)) := ⟨_, _, Lib.hid rfl⟩
    obtain ⟨lR, eR, HRV⟩ : ∃ l y, Hid (reachV cs u t n = (l, y)) := ⟨_, _, Lib.hid rfl⟩
    have HRL : Hid (lR.length ≤ 1000000) := Lib.hid (by
      have h1 := HRV.out
      unfold reachV at h1
      split at h1
      · simp only [Prod.mk.injEq] at h1
        rw [← h1.1]; simp
      · rename_i hz
        have hz : chkE cs t n [u] = 0 := by simpa using hz
        obtain ⟨hp, hqq, hno⟩ := chkE_ok hz
        simp only [Prod.mk.injEq] at h1
        rw [← h1.1, List.length_drop, rchL_len (planOk hp).1 hqq.2.2.1 (hno u (by simp)) hqq.1 16]
        decide)
    have HWF := Lib.hid hwf
    have HLEN := Lib.hid hcl
    clear hr hN hq hwf hcl hc
    by_cases h40 : N ≤ 40
    · have d1 : decide ((N : Int) > 40) = false := nb (by omega)
      clear h40
      go_enter Try.func3, Try.ntmps3
      go_wp2_with fail
      refine HOW.out.mono ?_
      rintro e w1 ⟨iv, rfl, hin, hb1⟩
      obtain ⟨ai, ni, rfl⟩ := hin.form
      rw [HN.out] at hin ⊢
      have HB1 := Lib.hid (best_any (.slice ai N ni) cs u v t n er arr l HWF.out HQ.out w1 hin)
      have HIN := Lib.hid hin
      have HBW := Lib.hid hb1
      clear hin hb1 HOW
      go_wp2_with fail
      refine HB1.out.mono ?_
      rintro e w2 ⟨⟨rv, rfl, hrt⟩, hb2⟩
      obtain ⟨cv, rfl, hrow⟩ := hrt.rd
      obtain ⟨ca, cc, rfl⟩ := hrow.form
      obtain ⟨L, hL⟩ : ∃ L, (ints l).length = L := ⟨_, rfl⟩
      rw [hL] at hrow ⊢
      have HROW := Lib.hid hrow
      clear hrt hrow
      obtain ⟨Q3, HQ9⟩ : ∃ Q, Hid ((w2).heap.size = Q) := ⟨_, Lib.hid rfl⟩
      obtain ⟨W3, HW9⟩ : ∃ V : World, Hid (V = (w2).alloc (.cells #[.slice ca L cc, .int .i64 arr] 27)) := ⟨_, Lib.hid rfl⟩
      have hb3 : Below (w2).heap.size w2 W3 := by rw [HW9.out]; exact (by repeat (first | assumption | exact Below.refl _ _ | apply Below.al | apply below_drewN | apply Below.drew | refine Below.next ?_ (by assumption)))
      have hx3 : BoxN W3 Q3 27 #[.slice ca L cc, .int .i64 arr] := by rw [HW9.out, ← HQ9.out]; exact BoxN.new _ _ _
      go_upto_region 5 with fail
      rw [← HW9.out, HQ9.out]
      clear HW9 HQ9
      replace HROW := Lib.hid (HROW.out.keep hb3)
      replace HIN := Lib.hid ((HIN.out.keep hb2).keep hb3)
      replace HBW := Lib.hid (Below.next (Below.next HBW.out hb2) hb3)
      have HX := Lib.hid hx3
      have HB2 := Lib.hid (rbest_any (.slice a0 N n0) cs u v t n er arr l HQ.out W3 (HR.out.keep HBW.out))
      clear hb2 hb3 hx3 HB1
      go_wp2_with fail
      refine HB2.out.mono ?_
      rintro e w4 ⟨⟨rv, rfl, hrt⟩, hb4⟩
      obtain ⟨cv, rfl, hrow⟩ := hrt.rd
      obtain ⟨ca2, cc2, rfl⟩ := hrow.form
      rw [hL] at hrow ⊢
      have HROW2 := Lib.hid hrow
      clear hrt hrow hL
      obtain ⟨Q5, HQ9⟩ : ∃ Q, Hid ((w4).heap.size = Q) := ⟨_, Lib.hid rfl⟩
      obtain ⟨W5, HW9⟩ : ∃ V : World, Hid (V = (w4).alloc (.cells #[.slice ca2 L cc2, .int .i64 arr] 27)) := ⟨_, Lib.hid rfl⟩
      have hb5 : Below (w4).heap.size w4 W5 := by rw [HW9.out]; exact (by repeat (first | assumption | exact Below.refl _ _ | apply Below.al | apply below_drewN | apply Below.drew | refine Below.next ?_ (by assumption)))
      have hx5 : BoxN W5 Q5 27 #[.slice ca2 L cc2, .int .i64 arr] := by rw [HW9.out, ← HQ9.out]; exact BoxN.new _ _ _
      go_upto_region 6 with fail
      rw [← HW9.out, HQ9.out]
      clear HW9 HQ9
      have hb45 := Below.next hb4 hb5
      replace HROW := Lib.hid (HROW.out.keep hb45)
      replace HROW2 := Lib.hid (HROW2.out.keep hb5)
      replace HIN := Lib.hid (HIN.out.keep hb45)
      replace HBW := Lib.hid (Below.next HBW.out hb45)
      have hx3 := HX.out.below hb45
      have p0 : W5.cell? ⟨Q3, 0, none⟩ = some (.slice ca L cc) := hx3.cell 0
      have p1 : W5.cell? ⟨Q3, 1, none⟩ = some (.int .i64 arr) := hx3.cell 1
      have q0 : W5.cell? ⟨Q5, 0, none⟩ = some (.slice ca2 L cc2) := hx5.cell 0
      have q1 : W5.cell? ⟨Q5, 1, none⟩ = some (.int .i64 arr) := hx5.cell 1
      have HS := Lib.hid (sameRoute_eq (.agg #[.slice ca L cc, .int .i64 arr]) (.agg #[.slice ca2 L cc2, .int .i64 arr]) arr (ints l) W5 ⟨_, rfl, HROW.out⟩ ⟨_, rfl, HROW2.out⟩)
      have e1 : (er != er) = false := by simp
      clear hb4 hb5 hb45 hx3 hx5 HX HB2
      go_wp2_with fail
      refine HS.out.mono ?_
      rintro e w6 ⟨rfl, hb6⟩
      replace HIN := Lib.hid (HIN.out.keep hb6)
      replace HBW := Lib.hid (Below.next HBW.out hb6)
      have HI1 := Lib.hid (is_any (.slice ai N ni) cs u v t n HWF.out w6 HIN.out)
      rw [HIV.out] at HI1
      clear hb6 p0 p1 q0 q1 HS HROW HROW2
      go_wp2_with fail
      refine HI1.out.mono ?_
      rintro e w7 ⟨rfl, hb7⟩
      replace HIN := Lib.hid (HIN.out.keep hb7)
      replace HBW := Lib.hid (Below.next HBW.out hb7)
      have HI2 := Lib.hid (ris_any (.slice a0 N n0) cs u v t n w7 (HR.out.keep HBW.out))
      rw [HIV.out] at HI2
      clear hb7 HI1
      go_wp2_with fail
      refine HI2.out.mono ?_
      rintro e w8 ⟨rfl, hb8⟩
      replace HIN := Lib.hid (HIN.out.keep hb8)
      replace HBW := Lib.hid (Below.next HBW.out hb8)
      have HR1 := Lib.hid (reachq_any (.slice ai N ni) cs u t n HWF.out w8 HIN.out)
      rw [HRV.out] at HR1
      clear hb8 HI2
      go_wp2_with fail
      refine HR1.out.mono ?_
      rintro e w9 ⟨s1, rfl, hs1, hb9⟩
      replace HIN := Lib.hid (HIN.out.keep hb9)
      replace HBW := Lib.hid (Below.next HBW.out hb9)
      have HR2 := Lib.hid (rreachq_any (.slice a0 N n0) cs u t n w9 (HR.out.keep HBW.out))
      rw [HRV.out] at HR2
      have HS1 := Lib.hid hs1
      clear hb9 HR1 hs1
      go_wp2_with fail
      refine HR2.out.mono ?_
      rintro e w10 ⟨s2, rfl, hs2, hb10⟩
      replace HIN := Lib.hid (HIN.out.keep hb10)
      replace HBW := Lib.hid (Below.next HBW.out hb10)
      have HSI := Lib.hid (sameInts_eq s1 s2 lR HRL.out w10 (HS1.out.keep hb10) hs2)
      have e2 : (bI == bI) = true := by simp
      have e3 : (eI == eI) = true := by simp
      have e4 : (eR == eR) = true := by simp
      clear hb10 HR2 hs2
      go_wp2_with fail
      refine HSI.out.mono ?_
      rintro e w11 ⟨rfl, hb11⟩
      replace HIN := Lib.hid (HIN.out.keep hb11)
      replace HBW := Lib.hid (Below.next HBW.out hb11)
      have HSP := Lib.hid (samePlan_eq (.slice ai N ni) (.slice a0 N n0) cs HLEN.out w11 HIN.out (HR.out.keep HBW.out))
      clear hb11 HSI
      go_wp2_with fail
      refine HSP.out.mono ?_
      rintro e w12 ⟨rfl, hb12⟩
      go_wp2_with fail
      refine (awake_any w12).mono ?_
      rintro e w13 ⟨rfl, hb13⟩
      go_wp2_with fail
      go_ret
      exact ⟨rfl, Below.next (Below.next HBW.out hb12) hb13⟩
    · have d1 : decide ((N : Int) > 40) = true := yb (by omega)
      have d2 : decide ((N : Int) ≤ 200) = false := nb (fun h => hcond.out ⟨by omega, by omega⟩)
      clear h40
      go_enter Try.func3, Try.ntmps3
      go_wp2_with fail
      refine HOW.out.mono ?_
      rintro e w1 ⟨iv, rfl, hin, hb1⟩
      obtain ⟨ai, ni, rfl⟩ := hin.form
      rw [HN.out] at hin ⊢
      have HB1 := Lib.hid (best_any (.slice ai N ni) cs u v t n er arr l HWF.out HQ.out w1 hin)
      have HIN := Lib.hid hin
      have HBW := Lib.hid hb1
      clear hin hb1 HOW
      go_wp2_with fail
      refine HB1.out.mono ?_
      rintro e w2 ⟨⟨rv, rfl, hrt⟩, hb2⟩
      obtain ⟨cv, rfl, hrow⟩ := hrt.rd
      obtain ⟨ca, cc, rfl⟩ := hrow.form
      obtain ⟨L, hL⟩ : ∃ L, (ints l).length = L := ⟨_, rfl⟩
      rw [hL] at hrow ⊢
      have HROW := Lib.hid hrow
      clear hrt hrow
      obtain ⟨Q3, HQ9⟩ : ∃ Q, Hid ((w2).heap.size = Q) := ⟨_, Lib.hid rfl⟩
      obtain ⟨W3, HW9⟩ : ∃ V : World, Hid (V = (w2).alloc (.cells #[.slice ca L cc, .int .i64 arr] 27)) := ⟨_, Lib.hid rfl⟩
      have hb3 : Below (w2).heap.size w2 W3 := by rw [HW9.out]; exact (by repeat (first | assumption | exact Below.refl _ _ | apply Below.al | apply below_drewN | apply Below.drew | refine Below.next ?_ (by assumption)))
      have hx3 : BoxN W3 Q3 27 #[.slice ca L cc, .int .i64 arr] := by rw [HW9.out, ← HQ9.out]; exact BoxN.new _ _ _
      go_upto_region 5 with fail
      rw [← HW9.out, HQ9.out]
      clear HW9 HQ9
      replace HROW := Lib.hid (HROW.out.keep hb3)
      replace HIN := Lib.hid ((HIN.out.keep hb2).keep hb3)
      replace HBW := Lib.hid (Below.next (Below.next HBW.out hb2) hb3)
      have HX := Lib.hid hx3
      have HB2 := Lib.hid (rbest_any (.slice a0 N n0) cs u v t n er arr l HQ.out W3 (HR.out.keep HBW.out))
      clear hb2 hb3 hx3 HB1
      go_wp2_with fail
      refine HB2.out.mono ?_
      rintro e w4 ⟨⟨rv, rfl, hrt⟩, hb4⟩
      obtain ⟨cv, rfl, hrow⟩ := hrt.rd
      obtain ⟨ca2, cc2, rfl⟩ := hrow.form
      rw [hL] at hrow ⊢
      have HROW2 := Lib.hid hrow
      clear hrt hrow hL
      obtain ⟨Q5, HQ9⟩ : ∃ Q, Hid ((w4).heap.size = Q) := ⟨_, Lib.hid rfl⟩
      obtain ⟨W5, HW9⟩ : ∃ V : World, Hid (V = (w4).alloc (.cells #[.slice ca2 L cc2, .int .i64 arr] 27)) := ⟨_, Lib.hid rfl⟩
      have hb5 : Below (w4).heap.size w4 W5 := by rw [HW9.out]; exact (by repeat (first | assumption | exact Below.refl _ _ | apply Below.al | apply below_drewN | apply Below.drew | refine Below.next ?_ (by assumption)))
      have hx5 : BoxN W5 Q5 27 #[.slice ca2 L cc2, .int .i64 arr] := by rw [HW9.out, ← HQ9.out]; exact BoxN.new _ _ _
      go_upto_region 6 with fail
      rw [← HW9.out, HQ9.out]
      clear HW9 HQ9
      have hb45 := Below.next hb4 hb5
      replace HROW := Lib.hid (HROW.out.keep hb45)
      replace HROW2 := Lib.hid (HROW2.out.keep hb5)
      replace HIN := Lib.hid (HIN.out.keep hb45)
      replace HBW := Lib.hid (Below.next HBW.out hb45)
      have hx3 := HX.out.below hb45
      have p0 : W5.cell? ⟨Q3, 0, none⟩ = some (.slice ca L cc) := hx3.cell 0
      have p1 : W5.cell? ⟨Q3, 1, none⟩ = some (.int .i64 arr) := hx3.cell 1
      have q0 : W5.cell? ⟨Q5, 0, none⟩ = some (.slice ca2 L cc2) := hx5.cell 0
      have q1 : W5.cell? ⟨Q5, 1, none⟩ = some (.int .i64 arr) := hx5.cell 1
      have HS := Lib.hid (sameRoute_eq (.agg #[.slice ca L cc, .int .i64 arr]) (.agg #[.slice ca2 L cc2, .int .i64 arr]) arr (ints l) W5 ⟨_, rfl, HROW.out⟩ ⟨_, rfl, HROW2.out⟩)
      have e1 : (er != er) = false := by simp
      clear hb4 hb5 hb45 hx3 hx5 HX HB2
      go_wp2_with fail
      refine HS.out.mono ?_
      rintro e w6 ⟨rfl, hb6⟩
      replace HIN := Lib.hid (HIN.out.keep hb6)
      replace HBW := Lib.hid (Below.next HBW.out hb6)
      have HI1 := Lib.hid (is_any (.slice ai N ni) cs u v t n HWF.out w6 HIN.out)
      rw [HIV.out] at HI1
      clear hb6 p0 p1 q0 q1 HS HROW HROW2
      go_wp2_with fail
      refine HI1.out.mono ?_
      rintro e w7 ⟨rfl, hb7⟩
      replace HIN := Lib.hid (HIN.out.keep hb7)
      replace HBW := Lib.hid (Below.next HBW.out hb7)
      have HI2 := Lib.hid (ris_any (.slice a0 N n0) cs u v t n w7 (HR.out.keep HBW.out))
      rw [HIV.out] at HI2
      clear hb7 HI1
      go_wp2_with fail
      refine HI2.out.mono ?_
      rintro e w8 ⟨rfl, hb8⟩
      replace HIN := Lib.hid (HIN.out.keep hb8)
      replace HBW := Lib.hid (Below.next HBW.out hb8)
      have HR1 := Lib.hid (reachq_any (.slice ai N ni) cs u t n HWF.out w8 HIN.out)
      rw [HRV.out] at HR1
      clear hb8 HI2
      go_wp2_with fail
      refine HR1.out.mono ?_
      rintro e w9 ⟨s1, rfl, hs1, hb9⟩
      replace HIN := Lib.hid (HIN.out.keep hb9)
      replace HBW := Lib.hid (Below.next HBW.out hb9)
      have HR2 := Lib.hid (rreachq_any (.slice a0 N n0) cs u t n w9 (HR.out.keep HBW.out))
      rw [HRV.out] at HR2
      have HS1 := Lib.hid hs1
      clear hb9 HR1 hs1
      go_wp2_with fail
      refine HR2.out.mono ?_
      rintro e w10 ⟨s2, rfl, hs2, hb10⟩
      replace HIN := Lib.hid (HIN.out.keep hb10)
      replace HBW := Lib.hid (Below.next HBW.out hb10)
      have HSI := Lib.hid (sameInts_eq s1 s2 lR HRL.out w10 (HS1.out.keep hb10) hs2)
      have e2 : (bI == bI) = true := by simp
      have e3 : (eI == eI) = true := by simp
      have e4 : (eR == eR) = true := by simp
      clear hb10 HR2 hs2
      go_wp2_with fail
      refine HSI.out.mono ?_
      rintro e w11 ⟨rfl, hb11⟩
      replace HIN := Lib.hid (HIN.out.keep hb11)
      replace HBW := Lib.hid (Below.next HBW.out hb11)
      have HSP := Lib.hid (samePlan_eq (.slice ai N ni) (.slice a0 N n0) cs HLEN.out w11 HIN.out (HR.out.keep HBW.out))
      clear hb11 HSI
      go_wp2_with fail
      refine HSP.out.mono ?_
      rintro e w12 ⟨rfl, hb12⟩
      go_wp2_with fail
      refine (awake_any w12).mono ?_
      rintro e w13 ⟨rfl, hb13⟩
      go_wp2_with fail
      go_ret
      exact ⟨rfl, Below.next (Below.next HBW.out hb12) hb13⟩
end Go.Proofs.Ytgmfifilgbbogaa
