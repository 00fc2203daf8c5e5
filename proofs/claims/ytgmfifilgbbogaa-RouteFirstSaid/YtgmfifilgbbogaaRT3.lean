


/- Routes: the law's best, fails, awake. -/
import Derived.Test.YtgmfifilgbbogaaRSq
import Derived.Test.YtgmfifilgbbogaaRC2
namespace Go.Proofs.Ytgmfifilgbbogaa
open Go.RowKit
set_option linter.unusedSimpArgs false
set_option linter.unusedVariables false
set_option maxRecDepth 100000

set_option maxHeartbeats 2000000 in
theorem lbest_any (u v t n arr : Int) (l : List Nat) (hb : bestV exP u v t n = (0, arr, l)) (lv : Value) (w : World) (hl : RdI .i64 w lv (ints l)) :
    Calls Try.prog 28 #[.int .i64 u, .int .i64 v, .int .i64 t, .int .i64 n, .int .i64 arr, lv] w fun e w' => e = .returned (.bool true) ∧ Below w.heap.size w w' := by
  obtain ⟨a1, n1, rfl⟩ := hl.form
  obtain ⟨N, hN⟩ : ∃ N, (ints l).length = N := ⟨_, rfl⟩
  rw [hN] at hl ⊢
  have hq := bestq_V exP u v t n
  rw [hb] at hq
  have HQ := Lib.hid hq
  have HL := Lib.hid hl
  clear hb hq hl
  go_enter Try.func28, Try.ntmps28
  go_wp2_with fail
  refine (shown_any w).mono ?_
  rintro e w1 ⟨b, rfl, hrd, hb1⟩
  have HB := Lib.hid (best_any _ exP u v t n 0 arr l exP_wf HQ.out w1 hrd)
  have HL1 := Lib.hid (HL.out.keep hb1)
  clear hrd
  go_wp2_with fail
  refine HB.out.mono ?_
  rintro e w2 ⟨⟨rv, rfl, hrt⟩, hb2⟩
  have hrd2 := hrt.rd
  obtain ⟨cv, rfl, hrow⟩ := hrd2
  obtain ⟨ca, cc, rfl⟩ := hrow.form
  rw [hN] at hrt hrow ⊢
  obtain ⟨Q, HQs⟩ : ∃ Q, Hid (w2.heap.size = Q) := ⟨_, Lib.hid rfl⟩
  obtain ⟨W3, hW3⟩ : ∃ V : World, V = w2.alloc (.cells #[.slice ca N cc, .int .i64 arr] 27) := ⟨_, rfl⟩
  have hb3 : Below w2.heap.size w2 W3 := by rw [hW3]; exact (by repeat (first | assumption | exact Below.refl _ _ | apply Below.al | apply below_drewN | apply Below.drew | refine Below.next ?_ (by assumption)))
  have hbx : BoxN W3 Q 27 #[.slice ca N cc, .int .i64 arr] := by rw [hW3, ← HQs.out]; exact BoxN.new w2 _ _
  have p0 : W3.cell? ⟨Q, 0, none⟩ = some (.slice ca N cc) := hbx.cell 0
  have p1 : W3.cell? ⟨Q, 1, none⟩ = some (.int .i64 arr) := hbx.cell 1
  have hB3 := Below.next (Below.next hb1 hb2) hb3
  have HS := Lib.hid (sameRoute_eq (.agg #[.slice ca N cc, .int .i64 arr]) (.agg #[.slice a1 N n1, .int .i64 arr]) arr (ints l) W3 ⟨_, rfl, hrow.keep hb3⟩ ⟨_, rfl, (HL1.out.keep hb2).keep hb3⟩)
  clear hrt hrow hb1 hb2 hb3 hbx
  go_upto_region 2 with fail
  rw [← hW3, HQs.out]
  clear hW3
  go_wp2_with fail
  refine HS.out.mono ?_
  rintro e w4 ⟨rfl, hb4⟩
  go_wp2_with fail
  go_ret
  exact ⟨rfl, Below.next hB3 hb4⟩
set_option maxHeartbeats 2000000 in
theorem lfails_any (u v t n : Int) (hb : bestV exP u v t n = (15, 0, [])) (w : World) :
    Calls Try.prog 29 #[.int .i64 u, .int .i64 v, .int .i64 t, .int .i64 n] w fun e w' => e = .returned (.bool true) ∧ Below w.heap.size w w' := by
  have hq := bestq_V exP u v t n
  rw [hb] at hq
  have HQ := Lib.hid hq
  clear hb hq
  go_enter Try.func29, Try.ntmps29
  go_wp2_with fail
  refine (shown_any w).mono ?_
  rintro e w1 ⟨b, rfl, hrd, hb1⟩
  have HB := Lib.hid (best_any _ exP u v t n 15 0 [] exP_wf HQ.out w1 hrd)
  clear hrd
  go_wp2_with fail
  refine HB.out.mono ?_
  rintro e w2 ⟨⟨rv, rfl, hrt⟩, hb2⟩
  have hrd2 := hrt.rd
  obtain ⟨cv, rfl, hrow⟩ := hrd2
  obtain ⟨ca, cc, rfl⟩ := hrow.form
  have hrow : RdI .i64 w2 (.slice ca 0 cc) [] := hrow
  obtain ⟨Q, HQs⟩ : ∃ Q, Hid (w2.heap.size = Q) := ⟨_, Lib.hid rfl⟩
  obtain ⟨W3, hW3⟩ : ∃ V : World, V = w2.alloc (.cells #[.slice ca 0 cc, .int .i64 0] 27) := ⟨_, rfl⟩
  have hb3 : Below w2.heap.size w2 W3 := by rw [hW3]; exact (by repeat (first | assumption | exact Below.refl _ _ | apply Below.al | apply below_drewN | apply Below.drew | refine Below.next ?_ (by assumption)))
  have hbx : BoxN W3 Q 27 #[.slice ca 0 cc, .int .i64 0] := by rw [hW3, ← HQs.out]; exact BoxN.new w2 _ _
  have p0 : W3.cell? ⟨Q, 0, none⟩ = some (.slice ca 0 cc) := hbx.cell 0
  have p1 : W3.cell? ⟨Q, 1, none⟩ = some (.int .i64 0) := hbx.cell 1
  have hB3 := Below.next (Below.next hb1 hb2) hb3
  have HS := Lib.hid (sameRoute_eq (.agg #[.slice ca 0 cc, .int .i64 0]) (.agg #[.slice none 0 0, .int .i64 0]) 0 [] W3 ⟨_, rfl, hrow.keep hb3⟩ ⟨_, rfl, RdI.nil .i64 _⟩)
  clear hrt hrow hb1 hb2 hb3 hbx
  go_upto_region 2 with fail
  rw [← hW3, HQs.out]
  clear hW3
  go_wp2_with fail
  refine HS.out.mono ?_
  rintro e w4 ⟨rfl, hb4⟩
  go_wp2_with fail
  go_ret
  exact ⟨rfl, Below.next hB3 hb4⟩
end Go.Proofs.Ytgmfifilgbbogaa
