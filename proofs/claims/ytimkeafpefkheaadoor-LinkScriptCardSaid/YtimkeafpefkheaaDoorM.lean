

/- Links: a fault happens (the reference's text): drop. -/
import Derived.Test.YtimkeafpefkheaaDoorLu
namespace Go.Proofs.YtimkeafpefkheaaDoor
open Go.RowKit
set_option linter.unusedSimpArgs false
set_option linter.unusedVariables false
set_option maxRecDepth 100000

/-- what the reference's Apply has returned where the check, the kind and the place were right -/
def RaR (w : World) (l : List Fr) (t : Tr) (x : Ending) (w' : World) : Prop := ∃ v, x = .returned (.tuple #[v, .int .i64 (if fitT l t = false then 2 else 0)]) ∧ RdT w' v (if fitT l t = false then [] else apL l t) ∧ Fresh w.heap.size v ∧ Below w.heap.size w w'
set_option maxHeartbeats 2000000 in
theorem rap_1 (v : Value) (l : List Fr) (hz : Szs l) (hen : (chkL l).1 = 0) (i : Nat) (j b : Int) (hi : i < l.length) (w : World) (h : RdT w v l) :
    Calls Tryd.prog 21 #[v, (⟨1, (i : Int), j, b⟩ : Tr).v] w (RaR w l ⟨1, (i : Int), j, b⟩) := by
  unfold RaR
  rw [show apL l ⟨1, (i : Int), j, b⟩ = lessV l i by simp [apL], show fitT l ⟨1, (i : Int), j, b⟩ = unV ⟨1, (i : Int), j, b⟩ by simp [fitT, unV]]
  obtain ⟨f, hf⟩ : ∃ f, unV ⟨1, (i : Int), j, b⟩ = f := ⟨_, rfl⟩
  rw [hf]
  have HF := Lib.hid hf
  clear hf
  obtain ⟨n, hen'⟩ : ∃ n, chkL l = (0, n) := ⟨(chkL l).2, by rw [← hen]⟩
  have HEN := Lib.hid hen'
  have HZ := Lib.hid hz
  have hcz := chkL_zero hen
  obtain ⟨a0, n0, rfl⟩ := h.form
  obtain ⟨N, hN⟩ : ∃ N, l.length = N := ⟨_, rfl⟩
  have HN := Lib.hid hN
  have HR2 : Hid (RdT w (.slice a0 N n0) l) := by unfold Hid; rw [← hN]; exact h
  have HSZ : Hid (∀ j, j < l.length → (l.getD j e0).size ≤ 1200) := fun j hj => (hcz.2 j hj).2
  have hl := hcz.1
  rw [hN] at hl hi ⊢
  clear h hN hcz hen hen' hz
  obtain ⟨W, hW⟩ : ∃ W : World, W = w.alloc (.cells #[.int .i64 1, .int .i64 (i : Int), .int .i64 j, .int .i64 b] 36) := ⟨_, rfl⟩
  have hB : Below w.heap.size w W := by rw [hW]; exact (by repeat (first | assumption | exact Below.refl _ _ | apply Below.al | apply below_drewN | apply Below.drew | refine Below.next ?_ (by assumption)))
  have b0 : BoxN W w.heap.size 36 #[.int .i64 1, .int .i64 (i : Int), .int .i64 j, .int .i64 b] := by rw [hW]; exact BoxN.new w _ _
  have t0 : W.cell? ⟨w.heap.size, 0, none⟩ = some (.int .i64 1) := b0.cell 0
  have t1 : W.cell? ⟨w.heap.size, 1, none⟩ = some (.int .i64 (i : Int)) := b0.cell 1
  have t2 : W.cell? ⟨w.heap.size, 2, none⟩ = some (.int .i64 j) := b0.cell 2
  have t3 : W.cell? ⟨w.heap.size, 3, none⟩ = some (.int .i64 b) := b0.cell 3
  have HRW := Lib.hid (HR2.out.keep hB)
  clear b0
  obtain ⟨bk, off, rfl, hcap, hc⟩ := RdT.at HRW.out HN.out i hi
  obtain ⟨s, hs⟩ : ∃ s, l.getD i e0 = s := ⟨_, rfl⟩
  rw [hs] at hc
  have HS := Lib.hid hs
  clear hs
  have d4 : decide ((i : Int) < 0) = false := nb (by omega)
  have d5 : decide ((N : Int) ≤ (i : Int)) = false := nb (by omega)
  have d5' : decide (N ≤ i) = false := nb (by omega)
  have i1 : (0 : Int) ≤ (i : Int) := by omega
  have i2 : (i : Int) < (N : Int) := by omega
  have hwk : IntKind.i64.wrap (i : Int) = (i : Int) := IntWalk.i64_in _ (by omega)
  go_enter Tryd.func21, Tryd.ntmps21
  go_upto_region 1 with fail
  rw [← hW]
  clear hW
  go_wp2_with fail
  refine (rcheck_is _ l HZ.out 0 n HEN.out _ HRW.out).mono ?_
  rintro x w1 ⟨rfl, rfl⟩
  go_wp2_with fail
  refine (rown_any _ l (by rw [HN.out]; omega) _ HRW.out).mono ?_
  rintro x w2 ⟨a, c, rfl, hown, hb⟩
  rw [HN.out] at hown ⊢
  have tW0 := t0
  have tW1 := t1
  have tW2 := t2
  have tW3 := t3
  have t0 := cell_later hb t0
  have t1 := cell_later hb t1
  have t2 := cell_later hb t2
  have t3 := cell_later hb t3
  have hc := cell_later hb hc
  have HR3 := Lib.hid (HRW.out.keep hb)
  have hB2 := Below.next hB hb
  have HOWN := Lib.hid hown
  clear hown
  go_wp2_with fail
  refine (without_any _ l (by rw [HN.out]; omega) i (by rw [HN.out]; exact hi) _ HR3.out).mono ?_
  rintro x w3 ⟨a', c', rfl, hrd, hfr, hb3⟩
  have HFR := Lib.hid (hfr.mono hB2.size)
  clear hfr
  have t0 := cell_later hb3 t0
  have t1 := cell_later hb3 t1
  have t2 := cell_later hb3 t2
  have t3 := cell_later hb3 t3
  have HRD := Lib.hid hrd
  have hB3 := Below.next hB2 hb3
  clear hrd
  go_wp2_with fail
  refine (unused_any ⟨1, (i : Int), j, b⟩ _).mono ?_
  rw [HF.out]
  rintro x w4 ⟨rfl, hb4⟩
  have HRD2 := Lib.hid (HRD.out.keep hb4)
  have hB4 := Below.next hB3 hb4
  clear hb4
  cases f
  · go_wp2_with fail
    go_ret2
    exact ⟨_, rfl, RdT.nil _, Fresh.nil _ _ _, hB4⟩
  · go_wp2_with fail
    go_ret2
    exact ⟨_, rfl, HRD2.out, HFR.out, hB4⟩
end Go.Proofs.YtimkeafpefkheaaDoor
