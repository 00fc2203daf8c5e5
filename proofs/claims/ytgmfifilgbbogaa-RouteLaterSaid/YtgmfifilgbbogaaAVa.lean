


/- RouteLater: arrival, before. -/
import Derived.Test.YtgmfifilgbbogaaRUa
import Derived.Test.YtgmfifilgbbogaaTBp
namespace Go.Proofs.Ytgmfifilgbbogaa
open Go.RowKit
set_option linter.unusedSimpArgs false
set_option linter.unusedVariables false
set_option maxRecDepth 100000

set_option maxHeartbeats 2000000 in
theorem arrival_any (pv : Value) (cs : List Ct) (u v t n : Int) (hwf : ∀ c, c ∈ cs → Wf c) (hc : chkE cs t n [u, v] = 0) (w : World) (hr : RdC w pv cs) :
    Calls Try.prog 34 #[pv, .int .i64 u, .int .i64 v, .int .i64 t, .int .i64 n] w fun e w' => e = .returned (.tuple #[.int .i64 (arrE cs n u t v), .bool true]) ∧ Below w.heap.size w w' := by
  obtain ⟨pa, pc, rfl⟩ := hr.form
  obtain ⟨N, hN⟩ : ∃ N, cs.length = N := ⟨_, rfl⟩
  rw [hN] at hr ⊢
  obtain ⟨hp, hq, hno⟩ := chkE_ok hc
  have hu := hno u (by simp)
  have hv := hno v (by simp)
  have hbq := bestq_V cs u v t n
  obtain ⟨⟨er, arr, l⟩, he⟩ : ∃ x, bestV cs u v t n = x := ⟨_, rfl⟩
  rw [he] at hbq
  dsimp only at hbq
  clear he
  have HQ := Lib.hid hbq
  have HR := Lib.hid hr
  have HWF := Lib.hid hwf
  obtain ⟨L, hL⟩ : ∃ k, (ints l).length = k := ⟨_, rfl⟩
  have HL := Lib.hid hL
  clear hr hwf hN hL
  rcases hbq with ⟨h1, _⟩ | ⟨_, hneg, rfl, rfl, rfl⟩ | ⟨_, rfl, harr, kk, hB⟩
  · exact absurd hc h1
  · have hm1 : arrE cs n u t v = -1 := arr_neg (planOk hp).1 hq.2.2.1 hu hq.1 (by omega) hneg
    rw [hm1]
    clear hm1 hneg hc hp hq hno hu hv
    go_enter Try.func34, Try.ntmps34
    have HB1 := Lib.hid (best_any (.slice pa N pc) cs u v t n 15 0 [] HWF.out HQ.out w HR.out)
    go_wp2_with fail
    refine HB1.out.mono ?_
    rintro e w3 ⟨⟨rv, rfl, hrt⟩, hb3⟩
    obtain ⟨cv, rfl, hrow⟩ := hrt.rd
    obtain ⟨ca, cc, rfl⟩ := hrow.form
    rw [HL.out] at hrow ⊢
    clear hrt hrow
    obtain ⟨Q4, HQ9⟩ : ∃ Q, Hid ((w3).heap.size = Q) := ⟨_, Lib.hid rfl⟩
    obtain ⟨W4, HW9⟩ : ∃ V : World, Hid (V = (w3).alloc (.cells #[.slice ca L cc, .int .i64 0] 27)) := ⟨_, Lib.hid rfl⟩
    have hb4 : Below (w3).heap.size w3 W4 := by rw [HW9.out]; exact (by repeat (first | assumption | exact Below.refl _ _ | apply Below.al | apply below_drewN | apply Below.drew | refine Below.next ?_ (by assumption)))
    have hx4 : BoxN W4 Q4 27 #[.slice ca L cc, .int .i64 0] := by rw [HW9.out, ← HQ9.out]; exact BoxN.new _ _ _
    go_upto_region 2 with fail
    rw [← HW9.out, HQ9.out]
    clear HW9 HQ9
    have x1 : W4.cell? ⟨Q4, 1, none⟩ = some (.int .i64 0) := hx4.cell 1
    have HBW := Lib.hid (Below.next hb3 hb4)
    clear hb3 hb4 hx4 HB1
    go_wp2_with fail
    go_ret2
    exact ⟨rfl, HBW.out⟩
  · rw [← harr]
    clear hB harr hc hp hq hno hu hv
    go_enter Try.func34, Try.ntmps34
    have HB1 := Lib.hid (best_any (.slice pa N pc) cs u v t n 0 arr l HWF.out HQ.out w HR.out)
    go_wp2_with fail
    refine HB1.out.mono ?_
    rintro e w3 ⟨⟨rv, rfl, hrt⟩, hb3⟩
    obtain ⟨cv, rfl, hrow⟩ := hrt.rd
    obtain ⟨ca, cc, rfl⟩ := hrow.form
    rw [HL.out] at hrow ⊢
    clear hrt hrow
    obtain ⟨Q4, HQ9⟩ : ∃ Q, Hid ((w3).heap.size = Q) := ⟨_, Lib.hid rfl⟩
    obtain ⟨W4, HW9⟩ : ∃ V : World, Hid (V = (w3).alloc (.cells #[.slice ca L cc, .int .i64 arr] 27)) := ⟨_, Lib.hid rfl⟩
    have hb4 : Below (w3).heap.size w3 W4 := by rw [HW9.out]; exact (by repeat (first | assumption | exact Below.refl _ _ | apply Below.al | apply below_drewN | apply Below.drew | refine Below.next ?_ (by assumption)))
    have hx4 : BoxN W4 Q4 27 #[.slice ca L cc, .int .i64 arr] := by rw [HW9.out, ← HQ9.out]; exact BoxN.new _ _ _
    go_upto_region 2 with fail
    rw [← HW9.out, HQ9.out]
    clear HW9 HQ9
    have x1 : W4.cell? ⟨Q4, 1, none⟩ = some (.int .i64 arr) := hx4.cell 1
    have HBW := Lib.hid (Below.next hb3 hb4)
    clear hb3 hb4 hx4 HB1
    go_wp2_with fail
    go_ret2
    exact ⟨rfl, HBW.out⟩
theorem lbefore_any (a b : Int) (w : World) (h : ¬ (0 ≤ a ∧ (b < 0 ∨ a < b))) : Calls Try.prog 35 #[.int .i64 a, .int .i64 b] w fun e w' => e = .returned (.bool false) ∧ Below w.heap.size w w' := by
  by_cases h1 : 0 ≤ a
  · have d1 : decide (a ≥ 0) = true := yb h1
    have d2 : decide (b < 0) = false := nb (by omega)
    have d3 : decide (a < b) = false := nb (by omega)
    clear h h1
    go_enter Try.func35, Try.ntmps35
    go_wp2_with fail
    go_ret
    exact ⟨rfl, (by repeat (first | assumption | exact Below.refl _ _ | apply Below.al | apply below_drewN | apply Below.drew | refine Below.next ?_ (by assumption)))⟩
  · have d1 : decide (a ≥ 0) = false := nb h1
    clear h h1
    go_enter Try.func35, Try.ntmps35
    go_wp2_with fail
    go_ret
    exact ⟨rfl, (by repeat (first | assumption | exact Below.refl _ _ | apply Below.al | apply below_drewN | apply Below.drew | refine Below.next ?_ (by assumption)))⟩
end Go.Proofs.Ytgmfifilgbbogaa
