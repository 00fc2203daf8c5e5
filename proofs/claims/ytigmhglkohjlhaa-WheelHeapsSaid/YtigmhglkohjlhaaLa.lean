


/- Timers: two laws' walks: what is made, what is put in and taken out. -/
import Derived.Test.YtigmhglkohjlhaaAw
namespace Go.Proofs.Ytigmhglkohjlhaa
open Go.RowKit
set_option linter.unusedSimpArgs false
set_option linter.unusedVariables false
set_option maxRecDepth 100000

theorem large_any (v : Value) (l : List Tm) (w : World) (h : RdM w v l) : Calls Try.prog 22 #[v] w fun e w' => e = .returned (.bool (decide (60 < l.length ∧ l.length < 1000 ∨ 1001 < l.length))) ∧ w = w' := by
  obtain ⟨a, n, rfl⟩ := h.form
  obtain ⟨N, hN⟩ : ∃ N, l.length = N := ⟨_, rfl⟩
  rw [hN]
  clear h hN
  obtain ⟨R, hR⟩ : ∃ R, decide (60 < N ∧ N < 1000 ∨ 1001 < N) = R := ⟨_, rfl⟩
  rw [hR]
  by_cases h1 : 60 < N
  · have d1 : decide ((60 : Int) < (N : Int)) = true := yb (by omega)
    by_cases h2 : N < 1000
    · have d2 : decide ((N : Int) < (1000 : Int)) = true := yb (by omega)
      have hX : R = true := by rw [← hR]; exact yb (by omega)
      clear h1 h2 hR
      go_enter Try.func22, Try.ntmps22
      go_wp2_with fail
      go_ret
      exact ⟨by rw [hX]; rfl, rfl⟩
    · have d2 : decide ((N : Int) < (1000 : Int)) = false := nb (by omega)
      by_cases h3 : 1001 < N
      · have d3 : decide ((1001 : Int) < (N : Int)) = true := yb (by omega)
        have hX : R = true := by rw [← hR]; exact yb (by omega)
        clear h1 h2 h3 hR
        go_enter Try.func22, Try.ntmps22
        go_wp2_with fail
        go_ret
        exact ⟨by rw [hX]; rfl, rfl⟩
      · have d3 : decide ((1001 : Int) < (N : Int)) = false := nb (by omega)
        have hX : R = false := by rw [← hR]; exact nb (by omega)
        clear h1 h2 h3 hR
        go_enter Try.func22, Try.ntmps22
        go_wp2_with fail
        go_ret
        exact ⟨by rw [hX]; rfl, rfl⟩
  · have d1 : decide ((60 : Int) < (N : Int)) = false := nb (by omega)
    have d3 : decide ((1001 : Int) < (N : Int)) = false := nb (by omega)
    have hX : R = false := by rw [← hR]; exact nb (by omega)
    clear h1 hR
    go_enter Try.func22, Try.ntmps22
    go_wp2_with fail
    go_ret
    exact ⟨by rw [hX]; rfl, rfl⟩
set_option maxHeartbeats 1000000 in
theorem lmakes_any (v : Value) (l : List Tm) (w : World) (h : RdM w v l) : Calls Try.prog 3 #[v] w fun e w' => e = .returned (.bool true) ∧ Below w.heap.size w w' := by
  obtain ⟨a0, n0, rfl⟩ := h.form
  obtain ⟨N, hN⟩ : ∃ N, l.length = N := ⟨_, rfl⟩
  have HR : Hid (RdM w (.slice a0 N n0) l) := by rw [hN] at h; exact h
  rw [hN]
  have hB := Below.refl w.heap.size w
  clear h
  by_cases h1 : 60 < N
  · have d1 : decide ((60 : Int) < (N : Int)) = true := yb (by omega)
    clear h1 hN
    go_enter Try.func3, Try.ntmps3
    go_wp2_with fail
    refine (awake_any _).mono ?_
    rintro e w1 ⟨rfl, hb⟩
    have hB := Below.next hB hb
    clear hb
    go_wp2_with fail
    go_ret
    exact ⟨rfl, hB⟩
  · have d1 : decide ((60 : Int) < (N : Int)) = false := nb (by omega)
    have hl : l.length ≤ 1000000 := by omega
    clear h1 hN
    obtain ⟨L, E, hR⟩ : ∃ L E, mkL l = (L, E) := ⟨_, _, rfl⟩
    have HM := Lib.hid hR
    have d2 : (E == E) = true := by simp
    clear hR
    go_enter Try.func3, Try.ntmps3
    go_wp2_with fail
    refine (own_any _ l hl _ HR.out).mono ?_
    rintro e w1 ⟨a, c, rfl, ho, hb⟩
    have hB := Below.next hB hb
    have HO := Lib.hid (OM.rd ho)
    have HR := Lib.hid (RdL.keep hb HR.out)
    clear ho hb
    go_wp2_with fail
    refine (make_any _ l hl _ HO.out).mono ?_
    rw [HM.out]
    rintro e w2 ⟨v1, rfl, h1, hb⟩
    have hB := Below.next hB hb
    obtain ⟨a1, c1, rfl⟩ := h1.form
    have H2 := Lib.hid h1
    clear h1
    have HR := Lib.hid (RdL.keep hb HR.out)
    clear hb HO
    go_wp2_with fail
    refine (rmake_any _ l hl _ HR.out).mono ?_
    rw [HM.out]
    rintro e w3 ⟨v1, rfl, h1, hb⟩
    have hB := Below.next hB hb
    obtain ⟨a1, c1, rfl⟩ := h1.form
    have H3 := Lib.hid h1
    clear h1
    have H2 := Lib.hid (RdL.keep hb H2.out)
    clear hb HR
    go_wp2_with fail
    refine (same_eq _ _ L _ H2.out H3.out).mono ?_
    rintro e w4 ⟨rfl, hb⟩
    have hB := Below.next hB hb
    clear H2 H3
    clear hb
    go_wp2_with fail
    refine (awake_any _).mono ?_
    rintro e w5 ⟨rfl, hb⟩
    have hB := Below.next hB hb
    clear hb
    go_wp2_with fail
    go_ret
    exact ⟨rfl, hB⟩
set_option maxHeartbeats 2000000 in
theorem lchanges_any (v : Value) (l : List Tm) (t s : Tm) (w : World) (h : RdM w v l) : Calls Try.prog 5 #[v, t.v, .int .i64 s.kd, s.iv] w fun e w' => e = .returned (.bool true) ∧ Below w.heap.size w w' := by
  obtain ⟨W, hW⟩ : ∃ W : World, W = (w.alloc (.cells #[.int .i64 t.tk, .int .i64 t.kd, .int .i64 t.nd, .int .u64 t.sq, .int .i64 t.of] 41)).alloc (.cells #[.int .i64 s.nd, .int .u64 s.sq, .int .i64 s.of] 39) := ⟨_, rfl⟩
  have hB : Below w.heap.size w W := by rw [hW]; exact (by repeat (first | assumption | exact Below.refl _ _ | apply Below.al | apply below_drewN | apply Below.drew | refine Below.next ?_ (by assumption)))
  have HR := Lib.hid (RdL.keep hB h)
  have bT : BoxN W w.heap.size 41 #[.int .i64 t.tk, .int .i64 t.kd, .int .i64 t.nd, .int .u64 t.sq, .int .i64 t.of] := by rw [hW]; exact (BoxN.new w _ _).below (Below.al (Below.refl _ _) _)
  have bI : BoxN W (w.heap.size + 1) 39 #[.int .i64 s.nd, .int .u64 s.sq, .int .i64 s.of] := by
    rw [hW]; unfold BoxN; have := heap_last (w.alloc (.cells #[.int .i64 t.tk, .int .i64 t.kd, .int .i64 t.nd, .int .u64 t.sq, .int .i64 t.of] 41)) (.cells #[.int .i64 s.nd, .int .u64 s.sq, .int .i64 s.of] 39); rwa [World.size_alloc] at this
  have HBT := Lib.hid bT
  have HBI := Lib.hid bI
  obtain ⟨B, hBig⟩ : ∃ B, decide (60 < l.length ∧ l.length < 1000 ∨ 1001 < l.length) = B := ⟨_, rfl⟩
  have HBIG := Lib.hid hBig
  clear bT bI h hBig
  obtain ⟨E, I, hC⟩ : ∃ E I, chkW l = (E, I) := ⟨_, _, rfl⟩
  obtain ⟨L1, E1, hA⟩ : ∃ L E, addW l t = (L, E) := ⟨_, _, rfl⟩
  obtain ⟨L2, E2, hX⟩ : ∃ L E, canW l s = (L, E) := ⟨_, _, rfl⟩
  have HC := Lib.hid hC
  have HA := Lib.hid hA
  have HX := Lib.hid hX
  have q1 : (E == E) = true := by simp
  have q2 : (I == I) = true := by simp
  have q3 : (E1 == E1) = true := by simp
  have q4 : (E2 == E2) = true := by simp
  clear hC hA hX
  go_enter Try.func5, Try.ntmps5
  go_upto_region 1 with fail
  rw [← hW]
  clear hW
  go_wp2_with fail
  refine (large_any _ l _ HR.out).mono ?_
  rw [HBIG.out]
  rintro e w0 ⟨rfl, rfl⟩
  by_cases hb0 : B = true
  · subst hb0
    go_wp2_with fail
    refine (awake_any _).mono ?_
    rintro e w1 ⟨rfl, hb⟩
    have hB := Below.next hB hb
    clear hb
    go_wp2_with fail
    go_ret
    exact ⟨rfl, hB⟩
  · obtain rfl : B = false := by simpa using hb0
    have hl : l.length ≤ 1000000 := by
      have := HBIG.out
      simp only [decide_eq_false_iff_not] at this
      omega
    clear hb0
    go_wp2_with fail
    refine (own_any _ l hl _ HR.out).mono ?_
    rintro e w1 ⟨a, c, rfl, ho, hb⟩
    have hB := Below.next hB hb
    have HO := Lib.hid (OM.rd ho)
    have HBT := Lib.hid (HBT.out.below hb)
    have HBI := Lib.hid (HBI.out.below hb)
    have HR := Lib.hid (RdL.keep hb HR.out)
    clear ho hb
    go_wp2_with fail
    refine (check_is _ l E I HC.out _ HO.out).mono ?_
    rintro e w2 ⟨rfl, hb⟩
    have hB := Below.next hB hb
    have HBT := Lib.hid (HBT.out.below hb)
    have HBI := Lib.hid (HBI.out.below hb)
    have HR := Lib.hid (RdL.keep hb HR.out)
    have HO := Lib.hid (RdL.keep hb HO.out)
    clear hb
    go_wp2_with fail
    refine (rcheck_is _ l E I HC.out _ HR.out).mono ?_
    rintro e w3 ⟨rfl, hb⟩
    have hB := Below.next hB hb
    have bT := HBT.out.below hb
    have HBI := Lib.hid (HBI.out.below hb)
    have HR := Lib.hid (RdL.keep hb HR.out)
    have HO := Lib.hid (RdL.keep hb HO.out)
    have x0 : w3.cell? ⟨w.heap.size, 0, none⟩ = some (.int .i64 t.tk) := (bT.cell 0).trans rfl
    have x1 : w3.cell? ⟨w.heap.size, 1, none⟩ = some (.int .i64 t.kd) := (bT.cell 1).trans rfl
    have x2 : w3.cell? ⟨w.heap.size, 2, none⟩ = some (.int .i64 t.nd) := (bT.cell 2).trans rfl
    have x3 : w3.cell? ⟨w.heap.size, 3, none⟩ = some (.int .u64 t.sq) := (bT.cell 3).trans rfl
    have x4 : w3.cell? ⟨w.heap.size, 4, none⟩ = some (.int .i64 t.of) := (bT.cell 4).trans rfl
    clear hb bT
    go_wp2_with fail
    refine (add_any _ l t _ HO.out).mono ?_
    rw [HA.out]
    rintro e w4 ⟨v1, rfl, h1, hb⟩
    have hB := Below.next hB hb
    obtain ⟨a1, c1, rfl⟩ := h1.form
    have H4 := Lib.hid h1
    clear h1
    have x0 := cell_later hb x0
    have x1 := cell_later hb x1
    have x2 := cell_later hb x2
    have x3 := cell_later hb x3
    have x4 := cell_later hb x4
    have HBI := Lib.hid (HBI.out.below hb)
    have HR := Lib.hid (RdL.keep hb HR.out)
    have HO := Lib.hid (RdL.keep hb HO.out)
    clear hb
    go_wp2_with fail
    refine (radd_any _ l t _ HR.out).mono ?_
    rw [HA.out]
    rintro e w5 ⟨v1, rfl, h1, hb⟩
    have hB := Below.next hB hb
    obtain ⟨a1, c1, rfl⟩ := h1.form
    have H5 := Lib.hid h1
    clear h1
    have bI := HBI.out.below hb
    have HR := Lib.hid (RdL.keep hb HR.out)
    have HO := Lib.hid (RdL.keep hb HO.out)
    have H4 := Lib.hid (RdL.keep hb H4.out)
    have d0 : w5.cell? ⟨w.heap.size + 1, 0, none⟩ = some (.int .i64 s.nd) := (bI.cell 0).trans rfl
    have d1 : w5.cell? ⟨w.heap.size + 1, 1, none⟩ = some (.int .u64 s.sq) := (bI.cell 1).trans rfl
    have d2 : w5.cell? ⟨w.heap.size + 1, 2, none⟩ = some (.int .i64 s.of) := (bI.cell 2).trans rfl
    clear hb x0 x1 x2 x3 x4 bI
    go_wp2_with fail
    refine (cancel_any _ l s _ HO.out).mono ?_
    rw [HX.out]
    rintro e w6 ⟨v1, rfl, h1, hb⟩
    have hB := Below.next hB hb
    obtain ⟨a1, c1, rfl⟩ := h1.form
    have H6 := Lib.hid h1
    clear h1
    have d0 := cell_later hb d0
    have d1 := cell_later hb d1
    have d2 := cell_later hb d2
    have HR := Lib.hid (RdL.keep hb HR.out)
    have HO := Lib.hid (RdL.keep hb HO.out)
    have H4 := Lib.hid (RdL.keep hb H4.out)
    have H5 := Lib.hid (RdL.keep hb H5.out)
    clear hb
    go_wp2_with fail
    refine (rcancel_any _ l s _ HR.out).mono ?_
    rw [HX.out]
    rintro e w7 ⟨v1, rfl, h1, hb⟩
    have hB := Below.next hB hb
    obtain ⟨a1, c1, rfl⟩ := h1.form
    have H7 := Lib.hid h1
    clear h1
    have HR := Lib.hid (RdL.keep hb HR.out)
    have HO := Lib.hid (RdL.keep hb HO.out)
    have H4 := Lib.hid (RdL.keep hb H4.out)
    have H5 := Lib.hid (RdL.keep hb H5.out)
    have H6 := Lib.hid (RdL.keep hb H6.out)
    clear hb d0 d1 d2
    go_wp2_with fail
    refine (same_eq _ _ L1 _ H4.out H5.out).mono ?_
    rintro e w8 ⟨rfl, hb⟩
    have hB := Below.next hB hb
    clear H4 H5
    have HR := Lib.hid (RdL.keep hb HR.out)
    have HO := Lib.hid (RdL.keep hb HO.out)
    have H6 := Lib.hid (RdL.keep hb H6.out)
    have H7 := Lib.hid (RdL.keep hb H7.out)
    clear hb
    go_wp2_with fail
    refine (same_eq _ _ L2 _ H6.out H7.out).mono ?_
    rintro e w9 ⟨rfl, hb⟩
    have hB := Below.next hB hb
    clear H6 H7
    have HR := Lib.hid (RdL.keep hb HR.out)
    have HO := Lib.hid (RdL.keep hb HO.out)
    clear hb
    go_wp2_with fail
    refine (same_eq _ _ l _ HO.out HR.out).mono ?_
    rintro e wa ⟨rfl, hb⟩
    have hB := Below.next hB hb
    clear HO HR
    clear hb
    go_wp2_with fail
    refine (awake_any _).mono ?_
    rintro e wb ⟨rfl, hb⟩
    have hB := Below.next hB hb
    clear hb
    go_wp2_with fail
    go_ret
    exact ⟨rfl, hB⟩
end Go.Proofs.Ytigmhglkohjlhaa
