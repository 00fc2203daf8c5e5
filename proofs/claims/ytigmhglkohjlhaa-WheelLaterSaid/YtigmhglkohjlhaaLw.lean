



/- Timers: the laws' walks: what is due; put in and cancelled; the order of putting in; two ticks one after the other. -/
import Derived.Test.YtigmhglkohjlhaaLa
import Derived.Test.YtigmhglkohjlhaaSo
import Derived.Test.YtigmhglkohjlhaaPl
namespace Go.Proofs.Ytigmhglkohjlhaa
open Go.RowKit
set_option linter.unusedSimpArgs false
set_option linter.unusedVariables false
set_option maxRecDepth 100000

set_option maxHeartbeats 2000000 in
theorem ldue_any (v : Value) (l : List Tm) (now : Int) (w : World) (h : RdM w v l) : Calls Try.prog 9 #[v, .int .i64 now] w fun e w' => e = .returned (.bool true) ∧ Below w.heap.size w w' := by
  have hB := Below.refl w.heap.size w
  have HR := Lib.hid h
  obtain ⟨B, hBig⟩ : ∃ B, decide (60 < l.length ∧ l.length < 1000 ∨ 1001 < l.length) = B := ⟨_, rfl⟩
  have HBIG := Lib.hid hBig
  obtain ⟨t, is, E, hN⟩ : ∃ t is E, nxtW l = (t, is, E) := ⟨_, _, _, rfl⟩
  obtain ⟨L1, L2, E2, hD⟩ : ∃ L1 L2 E2, dueW l now = (L1, L2, E2) := ⟨_, _, _, rfl⟩
  obtain ⟨L3, E3, hS⟩ : ∃ L E, sortW l = (L, E) := ⟨_, _, rfl⟩
  have HN := Lib.hid hN
  have HD := Lib.hid hD
  have HS := Lib.hid hS
  have q1 : (E != E) = false := by simp
  have q2 : (E2 == E2) = true := by simp
  have q3 : (E3 == E3) = true := by simp
  have p0 : (t.tk == t.tk) = true := by simp
  have p1 : (t.kd == t.kd) = true := by simp
  have p2 : (t.nd == t.nd) = true := by simp
  have p3 : (t.sq == t.sq) = true := by simp
  have p4 : (t.of == t.of) = true := by simp
  have p5 : (is == is) = true := by simp
  have p6 : (is != is) = false := by simp
  clear h hBig hN hD hS
  go_enter Try.func9, Try.ntmps9
  go_wp2_with fail
  refine (large_any _ l _ HR.out).mono ?_
  rw [HBIG.out]
  rintro e w0 ⟨rfl, rfl⟩
  by_cases hb0 : B = true
  · subst hb0
    go_wp2_with fail
    refine (awake_any _).mono ?_
    rintro e w1 ⟨rfl, hb⟩
    have hB := Below.next hB hb
    clear hb
    go_wp2_with fail
    go_ret
    exact ⟨rfl, hB⟩
  · obtain rfl : B = false := by simpa using hb0
    have hl : l.length ≤ 1000000 := by
      have := HBIG.out
      simp only [decide_eq_false_iff_not] at this
      omega
    clear hb0
    go_wp2_with fail
    refine (own_any _ l hl _ HR.out).mono ?_
    rintro e w1 ⟨a, c, rfl, ho, hb⟩
    have hB := Below.next hB hb
    have HO := Lib.hid (OM.rd ho)
    have HR := Lib.hid (RdL.keep hb HR.out)
    clear ho hb
    go_wp2_with fail
    refine (next_any _ l _ HO.out).mono ?_
    rw [HN.out]
    rintro e w2 ⟨rfl, hb⟩
    have hB := Below.next hB hb
    have HR := Lib.hid (RdL.keep hb HR.out)
    have HO := Lib.hid (RdL.keep hb HO.out)
    clear hb
    obtain ⟨W2, hW2⟩ : ∃ W : World, W = w2.alloc (.cells #[.int .i64 t.tk, .int .i64 t.kd, .int .i64 t.nd, .int .u64 t.sq, .int .i64 t.of] 41) := ⟨_, rfl⟩
    have hb : Below w2.heap.size w2 W2 := by rw [hW2]; exact (by repeat (first | assumption | exact Below.refl _ _ | apply Below.al | apply below_drewN | apply Below.drew | refine Below.next ?_ (by assumption)))
    have bA : BoxN W2 w2.heap.size 41 #[.int .i64 t.tk, .int .i64 t.kd, .int .i64 t.nd, .int .u64 t.sq, .int .i64 t.of] := by rw [hW2]; exact BoxN.new _ _ _
    have hB := Below.next hB hb
    have HR := Lib.hid (RdL.keep hb HR.out)
    have HO := Lib.hid (RdL.keep hb HO.out)
    clear hb
    go_upto_region 5 with fail
    rw [← hW2]
    clear hW2
    go_wp2_with fail
    refine (rnext_any _ l _ HR.out).mono ?_
    rw [HN.out]
    rintro e w3 ⟨rfl, hb⟩
    have hB := Below.next hB hb
    have HR := Lib.hid (RdL.keep hb HR.out)
    have HO := Lib.hid (RdL.keep hb HO.out)
    have bA := bA.below hb
    clear hb
    obtain ⟨W3, hW3⟩ : ∃ W : World, W = w3.alloc (.cells #[.int .i64 t.tk, .int .i64 t.kd, .int .i64 t.nd, .int .u64 t.sq, .int .i64 t.of] 41) := ⟨_, rfl⟩
    have hb : Below w3.heap.size w3 W3 := by rw [hW3]; exact (by repeat (first | assumption | exact Below.refl _ _ | apply Below.al | apply below_drewN | apply Below.drew | refine Below.next ?_ (by assumption)))
    have bB : BoxN W3 w3.heap.size 41 #[.int .i64 t.tk, .int .i64 t.kd, .int .i64 t.nd, .int .u64 t.sq, .int .i64 t.of] := by rw [hW3]; exact BoxN.new _ _ _
    have hB := Below.next hB hb
    have HR := Lib.hid (RdL.keep hb HR.out)
    have HO := Lib.hid (RdL.keep hb HO.out)
    have bA := bA.below hb
    have x0 : W3.cell? ⟨w2.heap.size, 0, none⟩ = some (.int .i64 t.tk) := (bA.cell 0).trans rfl
    have x1 : W3.cell? ⟨w2.heap.size, 1, none⟩ = some (.int .i64 t.kd) := (bA.cell 1).trans rfl
    have x2 : W3.cell? ⟨w2.heap.size, 2, none⟩ = some (.int .i64 t.nd) := (bA.cell 2).trans rfl
    have x3 : W3.cell? ⟨w2.heap.size, 3, none⟩ = some (.int .u64 t.sq) := (bA.cell 3).trans rfl
    have x4 : W3.cell? ⟨w2.heap.size, 4, none⟩ = some (.int .i64 t.of) := (bA.cell 4).trans rfl
    have z0 : W3.cell? ⟨w3.heap.size, 0, none⟩ = some (.int .i64 t.tk) := (bB.cell 0).trans rfl
    have z1 : W3.cell? ⟨w3.heap.size, 1, none⟩ = some (.int .i64 t.kd) := (bB.cell 1).trans rfl
    have z2 : W3.cell? ⟨w3.heap.size, 2, none⟩ = some (.int .i64 t.nd) := (bB.cell 2).trans rfl
    have z3 : W3.cell? ⟨w3.heap.size, 3, none⟩ = some (.int .u64 t.sq) := (bB.cell 3).trans rfl
    have z4 : W3.cell? ⟨w3.heap.size, 4, none⟩ = some (.int .i64 t.of) := (bB.cell 4).trans rfl
    clear hb bA bB
    go_upto_region 6 with fail
    rw [← hW3]
    clear hW3
    go_wp2_with fail
    refine (due_any _ l now _ HO.out).mono ?_
    rw [HD.out]
    rintro e w4 ⟨v1, v2, rfl, h1, h2, hb⟩
    have hB := Below.next hB hb
    obtain ⟨a1, c1, rfl⟩ := h1.form
    obtain ⟨a2, c2, rfl⟩ := h2.form
    have H4 := Lib.hid h1
    have G4 := Lib.hid h2
    clear h1 h2
    have HR := Lib.hid (RdL.keep hb HR.out)
    have HO := Lib.hid (RdL.keep hb HO.out)
    clear hb x0 x1 x2 x3 x4 z0 z1 z2 z3 z4
    go_wp2_with fail
    refine (rdue_any _ l now _ HR.out).mono ?_
    rw [HD.out]
    rintro e w5 ⟨v1, v2, rfl, h1, h2, hb⟩
    have hB := Below.next hB hb
    obtain ⟨a1, c1, rfl⟩ := h1.form
    obtain ⟨a2, c2, rfl⟩ := h2.form
    have H5 := Lib.hid h1
    have G5 := Lib.hid h2
    clear h1 h2
    have HR := Lib.hid (RdL.keep hb HR.out)
    have HO := Lib.hid (RdL.keep hb HO.out)
    have H4 := Lib.hid (RdL.keep hb H4.out)
    have G4 := Lib.hid (RdL.keep hb G4.out)
    clear hb
    go_wp2_with fail
    refine (sorted_any _ l _ HO.out).mono ?_
    rw [HS.out]
    rintro e w6 ⟨v1, rfl, h1, hb⟩
    have hB := Below.next hB hb
    obtain ⟨a1, c1, rfl⟩ := h1.form
    have H6 := Lib.hid h1
    clear h1
    have HR := Lib.hid (RdL.keep hb HR.out)
    have HO := Lib.hid (RdL.keep hb HO.out)
    have H4 := Lib.hid (RdL.keep hb H4.out)
    have G4 := Lib.hid (RdL.keep hb G4.out)
    have H5 := Lib.hid (RdL.keep hb H5.out)
    have G5 := Lib.hid (RdL.keep hb G5.out)
    clear hb
    go_wp2_with fail
    refine (rsorted_any _ l _ HR.out).mono ?_
    rw [HS.out]
    rintro e w7 ⟨v1, rfl, h1, hb⟩
    have hB := Below.next hB hb
    obtain ⟨a1, c1, rfl⟩ := h1.form
    have H7 := Lib.hid h1
    clear h1
    have HR := Lib.hid (RdL.keep hb HR.out)
    have HO := Lib.hid (RdL.keep hb HO.out)
    have H4 := Lib.hid (RdL.keep hb H4.out)
    have G4 := Lib.hid (RdL.keep hb G4.out)
    have H5 := Lib.hid (RdL.keep hb H5.out)
    have G5 := Lib.hid (RdL.keep hb G5.out)
    have H6 := Lib.hid (RdL.keep hb H6.out)
    clear hb
    go_wp2_with fail
    refine (same_eq _ _ L1 _ H4.out H5.out).mono ?_
    rintro e w8 ⟨rfl, hb⟩
    have hB := Below.next hB hb
    clear H4 H5
    have HR := Lib.hid (RdL.keep hb HR.out)
    have HO := Lib.hid (RdL.keep hb HO.out)
    have G4 := Lib.hid (RdL.keep hb G4.out)
    have G5 := Lib.hid (RdL.keep hb G5.out)
    have H6 := Lib.hid (RdL.keep hb H6.out)
    have H7 := Lib.hid (RdL.keep hb H7.out)
    clear hb
    go_wp2_with fail
    refine (same_eq _ _ L2 _ G4.out G5.out).mono ?_
    rintro e w9 ⟨rfl, hb⟩
    have hB := Below.next hB hb
    clear G4 G5
    have HR := Lib.hid (RdL.keep hb HR.out)
    have HO := Lib.hid (RdL.keep hb HO.out)
    have H6 := Lib.hid (RdL.keep hb H6.out)
    have H7 := Lib.hid (RdL.keep hb H7.out)
    clear hb
    go_wp2_with fail
    refine (same_eq _ _ L3 _ H6.out H7.out).mono ?_
    rintro e wa ⟨rfl, hb⟩
    have hB := Below.next hB hb
    clear H6 H7
    have HR := Lib.hid (RdL.keep hb HR.out)
    have HO := Lib.hid (RdL.keep hb HO.out)
    clear hb
    go_wp2_with fail
    refine (same_eq _ _ l _ HO.out HR.out).mono ?_
    rintro e wb ⟨rfl, hb⟩
    have hB := Below.next hB hb
    clear HO HR
    clear hb
    go_wp2_with fail
    refine (awake_any _).mono ?_
    rintro e wc ⟨rfl, hb⟩
    have hB := Below.next hB hb
    clear hb
    go_wp2_with fail
    go_ret
    exact ⟨rfl, hB⟩
end Go.Proofs.Ytigmhglkohjlhaa
