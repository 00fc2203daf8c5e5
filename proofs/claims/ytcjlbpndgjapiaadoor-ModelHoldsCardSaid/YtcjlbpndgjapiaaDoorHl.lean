




/- ModelHolds, in the law. -/
import Derived.Test.YtcjlbpndgjapiaaDoorAc
namespace Go.Proofs.YtcjlbpndgjapiaaDoor
open Go.RowKit
set_option linter.unusedSimpArgs false
set_option linter.unusedVariables false
set_option maxRecDepth 100000

set_option maxHeartbeats 4000000 in
theorem holdslaw_any (v u : Value) (ws : List Bd) (l : List Oc) (i : Idn) (hi : IdW i) (w : World) (h : Wd w v u ws l) : Calls Tryd.prog 4 #[v, u, i.v] w fun e w' => e = .returned (.bool true) ∧ Below w.heap.size w w' := by
  obtain ⟨W, hW⟩ : ∃ W : World, W = w.alloc (.cells #[.int .i64 i.nd, .int .u64 i.sq, .int .i64 i.off] 26) := ⟨_, rfl⟩
  have hB : Below w.heap.size w W := by rw [hW]; exact (by repeat (first | assumption | exact Below.refl _ _ | apply Below.al | apply below_drewN | apply Below.drew | refine Below.next ?_ (by assumption)))
  have bI : BoxN W w.heap.size 26 #[.int .i64 i.nd, .int .u64 i.sq, .int .i64 i.off] := by rw [hW]; exact BoxN.new w _ _
  have h0 : W.cell? ⟨w.heap.size, 0, none⟩ = some (.int .i64 i.nd) := bI.cell 0
  have h1 : W.cell? ⟨w.heap.size, 1, none⟩ = some (.int .u64 i.sq) := bI.cell 1
  have h2 : W.cell? ⟨w.heap.size, 2, none⟩ = some (.int .i64 i.off) := bI.cell 2
  clear bI
  have HW := Lib.hid (h.keep hB)
  have HR : Hid (Wr W v u ws l) := Lib.hid ⟨HW.out.rb, HW.out.ro⟩
  have HB := Lib.hid hB
  have HI := Lib.hid hi
  obtain ⟨Q, hQ⟩ : ∃ Q, w.heap.size = Q := ⟨_, rfl⟩
  have HQ := Lib.hid hQ
  rw [hQ] at h0 h1 h2
  obtain ⟨z, hz⟩ : ∃ z, ofE ws l i = z := ⟨_, rfl⟩
  obtain ⟨y, hy⟩ : ∃ y, fatE ws l = y := ⟨_, rfl⟩
  have HZ := Lib.hid hz
  have HY := Lib.hid hy
  have d0 : (z != z) = false := by simp
  have d1 : (y == y) = true := by simp
  clear hB h hi hQ hz hy
  go_enter Tryd.func4, Tryd.ntmps4
  go_upto_region 1 with fail
  rw [← hW, HQ.out]
  clear hW
  go_wp2_with fail
  refine (large_any v u ws l W HR.out.rb HR.out.ro).mono ?_
  rintro e w1 ⟨r, rfl, _, hb⟩
  have k0 := cell_later hb h0
  have k1 := cell_later hb h1
  have k2 := cell_later hb h2
  replace HW := Lib.hid (HW.out.keep hb)
  replace HR := Lib.hid (HR.out.keep hb)
  replace HB := Lib.hid (Below.next HB.out hb)
  clear hb h0 h1 h2
  cases r with
  | true =>
    go_wp2_with fail
    refine (awake_any w1 HW.out.sd HW.out.fc).mono ?_
    rintro e w2 ⟨rfl, hb⟩
    replace HB := Lib.hid (Below.next HB.out hb)
    clear hb k0 k1 k2
    go_wp2_with fail
    go_ret
    exact ⟨rfl, HB.out⟩
  | false =>
    go_wp2_with fail
    refine (holders_any v u ws l i HI.out w1 HW.out).mono ?_
    rw [HZ.out]
    rintro e w2 ⟨x2, rfl, hr2, hb⟩
    replace HW := Lib.hid (HW.out.keep hb)
    replace HR := Lib.hid (HR.out.keep hb)
    have k0 := cell_later hb k0
    have k1 := cell_later hb k1
    have k2 := cell_later hb k2
    replace HB := Lib.hid (Below.next HB.out hb)
    have H2 := Lib.hid hr2
    clear hb hr2
    go_wp2_with fail
    refine (rholders_any v u ws l i w2 HR.out).mono ?_
    rw [HZ.out]
    rintro e w3 ⟨x3, rfl, hr3, hb⟩
    replace HW := Lib.hid (HW.out.keep hb)
    replace HR := Lib.hid (HR.out.keep hb)
    have k0 := cell_later hb k0
    have k1 := cell_later hb k1
    have k2 := cell_later hb k2
    replace HB := Lib.hid (Below.next HB.out hb)
    replace H2 := Lib.hid (H2.out.keep hb)
    have H3 := Lib.hid hr3
    clear hb hr3
    go_wp2_with fail
    refine (sameInts_eq x2 x3 _ w3 H2.out H3.out).mono ?_
    rintro e w4 ⟨rfl, hb⟩
    replace HW := Lib.hid (HW.out.keep hb)
    replace HR := Lib.hid (HR.out.keep hb)
    have k0 := cell_later hb k0
    have k1 := cell_later hb k1
    have k2 := cell_later hb k2
    replace HB := Lib.hid (Below.next HB.out hb)
    clear hb H2 H3
    obtain ⟨c, hc⟩ : ∃ c, cpV ws l i = c := ⟨_, rfl⟩
    have HC := Lib.hid hc
    have d2 : (c != c) = false := by simp
    clear hc
    go_wp2_with fail
    refine (copies_any v u ws l i HI.out w4 HW.out).mono ?_
    rw [HZ.out, HC.out]
    rintro e w5 ⟨rfl, hb⟩
    replace HW := Lib.hid (HW.out.keep hb)
    replace HR := Lib.hid (HR.out.keep hb)
    have k0 := cell_later hb k0
    have k1 := cell_later hb k1
    have k2 := cell_later hb k2
    replace HB := Lib.hid (Below.next HB.out hb)
    clear hb
    go_wp2_with fail
    refine (rcopies_any v u ws l i w5 HR.out).mono ?_
    rw [HZ.out, HC.out]
    rintro e w6 ⟨rfl, hb⟩
    replace HW := Lib.hid (HW.out.keep hb)
    replace HR := Lib.hid (HR.out.keep hb)
    have k0 := cell_later hb k0
    have k1 := cell_later hb k1
    have k2 := cell_later hb k2
    replace HB := Lib.hid (Below.next HB.out hb)
    clear hb k0 k1 k2
    go_wp2_with fail
    refine (lost_any v u ws l w6 HW.out).mono ?_
    rw [HY.out]
    rintro e w7 ⟨x7, rfl, hr7, hb⟩
    replace HW := Lib.hid (HW.out.keep hb)
    replace HR := Lib.hid (HR.out.keep hb)
    replace HB := Lib.hid (Below.next HB.out hb)
    have H7 := Lib.hid hr7
    clear hb hr7
    go_wp2_with fail
    refine (rlost_any v u ws l w7 HR.out).mono ?_
    rw [HY.out]
    rintro e w8 ⟨x8, rfl, hr8, hb⟩
    replace HW := Lib.hid (HW.out.keep hb)
    replace HR := Lib.hid (HR.out.keep hb)
    replace HB := Lib.hid (Below.next HB.out hb)
    replace H7 := Lib.hid (H7.out.keep hb)
    have H8 := Lib.hid hr8
    clear hb hr8
    go_wp2_with fail
    refine (delivered_any v u ws l w8 HW.out).mono ?_
    rw [HY.out]
    rintro e w9 ⟨x9, rfl, hr9, hb⟩
    replace HW := Lib.hid (HW.out.keep hb)
    replace HR := Lib.hid (HR.out.keep hb)
    replace HB := Lib.hid (Below.next HB.out hb)
    replace H7 := Lib.hid (H7.out.keep hb)
    replace H8 := Lib.hid (H8.out.keep hb)
    have H9 := Lib.hid hr9
    clear hb hr9
    go_wp2_with fail
    refine (rdelivered_any v u ws l w9 HR.out).mono ?_
    rw [HY.out]
    rintro e w10 ⟨x10, rfl, hr10, hb⟩
    replace HW := Lib.hid (HW.out.keep hb)
    replace HB := Lib.hid (Below.next HB.out hb)
    replace H7 := Lib.hid (H7.out.keep hb)
    replace H8 := Lib.hid (H8.out.keep hb)
    replace H9 := Lib.hid (H9.out.keep hb)
    have H10 := Lib.hid hr10
    clear hb hr10
    go_wp2_with fail
    refine (sameD_eq x7 x8 _ w10 H7.out H8.out).mono ?_
    rintro e w11 ⟨rfl, hb⟩
    replace HW := Lib.hid (HW.out.keep hb)
    replace HB := Lib.hid (Below.next HB.out hb)
    replace H9 := Lib.hid (H9.out.keep hb)
    replace H10 := Lib.hid (H10.out.keep hb)
    clear hb H7 H8
    go_wp2_with fail
    refine (sameD_eq x9 x10 _ w11 H9.out H10.out).mono ?_
    rintro e w12 ⟨rfl, hb⟩
    replace HW := Lib.hid (HW.out.keep hb)
    replace HB := Lib.hid (Below.next HB.out hb)
    clear hb H9 H10
    go_wp2_with fail
    refine (awake_any w12 HW.out.sd HW.out.fc).mono ?_
    rintro e w13 ⟨rfl, hb⟩
    replace HB := Lib.hid (Below.next HB.out hb)
    clear hb
    go_wp2_with fail
    go_ret
    exact ⟨rfl, HB.out⟩
end Go.Proofs.YtcjlbpndgjapiaaDoor
