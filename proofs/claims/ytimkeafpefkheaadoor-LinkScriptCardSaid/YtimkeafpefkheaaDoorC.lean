

/- Links: Push in both texts. -/
import Derived.Test.YtimkeafpefkheaaDoorB
namespace Go.Proofs.YtimkeafpefkheaaDoor
open Go.RowKit
set_option linter.unusedSimpArgs false
set_option linter.unusedVariables false
set_option maxRecDepth 100000

/-- what Push has returned -/
def PuR (w : World) (r : List Fr × Bool × Int) (x : Ending) (w' : World) : Prop := ∃ v, x = .returned (.tuple #[v, .bool r.2.1, .int .i64 r.2.2]) ∧ RdT w' v r.1 ∧ Below w.heap.size w w'
set_option maxHeartbeats 1000000 in
theorem push_any (v : Value) (l : List Fr) (hz : Szs l) (f : Fr) (hf : f.size ≤ 9223372036854775807) (w : World) (h : RdT w v l) :
    Calls Tryd.prog 15 #[v, .string f] w (PuR w (pushV l f)) := by
  obtain ⟨e, n, hen⟩ : ∃ e n, chkL l = (e, n) := ⟨_, _, rfl⟩
  obtain ⟨o, ho⟩ : ∃ o, oneE f = o := ⟨_, rfl⟩
  have HEN := Lib.hid hen
  have HO := Lib.hid ho
  have HR := Lib.hid h
  have HZ := Lib.hid hz
  clear h hz
  unfold pushV
  rw [hen, ho]
  clear hen ho
  dsimp only
  by_cases h1 : e = 0
  · obtain rfl := h1
    rw [if_neg (by simp)]
    have hl := (chkL_zero (l := l) (by rw [HEN.out])).1
    by_cases h2 : o = 0
    · obtain rfl := h2
      rw [if_neg (by simp)]
      obtain ⟨a0, n0, rfl⟩ := HR.out.form
      obtain ⟨N, hN⟩ : ∃ N, l.length = N := ⟨_, rfl⟩
      have HN := Lib.hid hN
      have HR2 : Hid (RdT w (.slice a0 N n0) l) := by unfold Hid; rw [← hN]; exact HR.out
      rw [hN] at hl ⊢
      clear HR hN
      by_cases h3 : N = 64
      · rw [if_pos h3]
        have d3 : ((N : Int) == 64) = true := by simp [h3]
        have d3' : (N == 64) = true := by simp [h3]
        clear h3
        go_enter Tryd.func15, Tryd.ntmps15
        go_wp2_with fail
        refine (check_is _ l HZ.out 0 n HEN.out _ HR2.out).mono ?_
        rintro x w1 ⟨rfl, rfl⟩
        go_wp2_with fail
        refine (one_is f hf 0 HO.out _).mono ?_
        rintro x w1 ⟨rfl, rfl⟩
        go_wp2_with fail
        refine (clone_any _ l (by rw [HN.out]; omega) _ HR2.out).mono ?_
        rintro x w1 ⟨a, c, rfl, hown, hb⟩
        rw [HN.out] at hown ⊢
        have hR : RdT w1 (.slice a N c) l := by have := RdS.of_owns hown (by decide); unfold RdT; rw [HN.out]; exact this
        have HRR := Lib.hid hR
        clear hR hown
        go_wp2_with fail
        go_ret3
        exact ⟨_, rfl, HRR.out, hb⟩
      · rw [if_neg h3]
        have d3 : ((N : Int) == 64) = false := by simp; omega
        have d3' : (N == 64) = false := by simp [h3]
        have hl2 : N < 64 := by omega
        clear h3 hl
        go_enter Tryd.func15, Tryd.ntmps15
        go_wp2_with fail
        refine (check_is _ l HZ.out 0 n HEN.out _ HR2.out).mono ?_
        rintro x w1 ⟨rfl, rfl⟩
        go_wp2_with fail
        refine (one_is f hf 0 HO.out _).mono ?_
        rintro x w1 ⟨rfl, rfl⟩
        go_wp2_with fail
        refine (clone_any _ l (by rw [HN.out]; omega) _ HR2.out).mono ?_
        rintro x w1 ⟨a, c, rfl, hown, hB1⟩
        rw [HN.out] at hown ⊢
        have HOWN := Lib.hid (hown.alloc (.cells #[.string f] 9))
        have HF1 : Hid (RdS (w1.alloc (.cells #[.string f] 9)) 1 (.slice (some ⟨w1.heap.size, 0, none⟩) 1 1) 1 (tcs [f])) := RdS.box1 w1 _ _
        have hz1 : w.heap.size ≤ w1.heap.size := hB1.size
        clear hown
        go_wp2_with (at_builtin; refine wpList_app rfl (.tmp 29) (.tmp 31) 22 rfl w.heap.size 9 (.string ⟨#[]⟩) 1 16 ET _ N (tcs l) rfl HOWN.out _ 1 (tcs [f]) rfl HF1.out (tcs_one _) ?_ ?_ ?_ ?_)
        · unfold maxLen; omega
        · omega
        · simp; omega
        intro a3 c3 w3 hown3 hg3 hb3
        have hR : RdT w3 (.slice a3 (N + 1) c3) (l ++ [f]) := by
          have := RdS.of_owns hown3 (by decide)
          unfold RdT
          rw [List.length_append, HN.out, tcs_append]
          exact this
        have HRR := Lib.hid hR
        have hB3 : Below w.heap.size w w3 := Below.trans (Below.al hB1 _) hb3
        clear hown3 hg3 hR
        go_wp2_with fail
        go_ret3
        exact ⟨_, rfl, HRR.out, hB3⟩
    · rw [if_pos h2]
      have d2 : (o != 0) = true := by simpa using h2
      clear h2
      go_enter Tryd.func15, Tryd.ntmps15
      go_wp2_with fail
      refine (check_is _ l HZ.out 0 n HEN.out _ HR.out).mono ?_
      rintro x w1 ⟨rfl, rfl⟩
      go_wp2_with fail
      refine (one_is f hf o HO.out _).mono ?_
      rintro x w1 ⟨rfl, rfl⟩
      go_wp2_with fail
      go_ret3
      exact ⟨_, rfl, RdT.nil _, Below.refl _ _⟩
  · rw [if_pos h1]
    have d1 : (e != 0) = true := by simpa using h1
    clear h1
    go_enter Tryd.func15, Tryd.ntmps15
    go_wp2_with fail
    refine (check_is _ l HZ.out e n HEN.out _ HR.out).mono ?_
    rintro x w1 ⟨rfl, rfl⟩
    go_wp2_with fail
    go_ret3
    exact ⟨_, rfl, RdT.nil _, Below.refl _ _⟩
set_option maxHeartbeats 1000000 in
theorem rpush_any (v : Value) (l : List Fr) (hz : Szs l) (f : Fr) (hf : f.size ≤ 9223372036854775807) (w : World) (h : RdT w v l) :
    Calls Tryd.prog 16 #[v, .string f] w (PuR w (pushV l f)) := by
  obtain ⟨e, n, hen⟩ : ∃ e n, chkL l = (e, n) := ⟨_, _, rfl⟩
  have HEN := Lib.hid hen
  have HR := Lib.hid h
  have HZ := Lib.hid hz
  clear h hz
  unfold pushV
  rw [hen]
  clear hen
  dsimp only
  by_cases h1 : e = 0
  · obtain rfl := h1
    rw [if_neg (by simp)]
    have hl := (chkL_zero (l := l) (by rw [HEN.out])).1
    unfold oneE
    by_cases h20 : f.size = 0
    · rw [if_pos h20, if_pos (by simp)]
      have e2 := emp_yes h20
      clear h20
      go_enter Tryd.func16, Tryd.ntmps16
      go_wp2_with fail
      refine (rcheck_is _ l HZ.out 0 n HEN.out _ HR.out).mono ?_
      rintro x w1 ⟨rfl, rfl⟩
      go_wp2_with fail
      go_ret3
      exact ⟨_, rfl, RdT.nil _, Below.refl _ _⟩
    have e2 := emp_no h20
    by_cases h21 : 1200 < f.size
    · rw [if_neg h20, if_pos h21, if_pos (by simp)]
      have d2 : decide (1200 < (f.size : Int)) = true := yb (by omega)
      clear h20 h21
      go_enter Tryd.func16, Tryd.ntmps16
      go_wp2_with fail
      refine (rcheck_is _ l HZ.out 0 n HEN.out _ HR.out).mono ?_
      rintro x w1 ⟨rfl, rfl⟩
      go_wp2_with fail
      go_ret3
      exact ⟨_, rfl, RdT.nil _, Below.refl _ _⟩
    rw [if_neg h20, if_neg h21, if_neg (by simp)]
    have d2 : decide (1200 < (f.size : Int)) = false := nb (by omega)
    clear h20 h21
    obtain ⟨a0, n0, rfl⟩ := HR.out.form
    obtain ⟨N, hN⟩ : ∃ N, l.length = N := ⟨_, rfl⟩
    have HN := Lib.hid hN
    have HR2 : Hid (RdT w (.slice a0 N n0) l) := by unfold Hid; rw [← hN]; exact HR.out
    rw [hN] at hl ⊢
    clear HR hN
    by_cases h3 : N = 64
    · rw [if_pos h3]
      have d3 : ((N : Int) == 64) = true := by simp [h3]
      have d3' : (N == 64) = true := by simp [h3]
      clear h3
      go_enter Tryd.func16, Tryd.ntmps16
      go_wp2_with fail
      refine (rcheck_is _ l HZ.out 0 n HEN.out _ HR2.out).mono ?_
      rintro x w1 ⟨rfl, rfl⟩
      go_wp2_with fail
      refine (rown_any _ l (by rw [HN.out]; omega) _ HR2.out).mono ?_
      rintro x w1 ⟨a, c, rfl, hown, hb⟩
      rw [HN.out] at hown ⊢
      have hR : RdT w1 (.slice a N c) l := by have := RdS.of_owns hown (by decide); unfold RdT; rw [HN.out]; exact this
      have HRR := Lib.hid hR
      clear hR hown
      go_wp2_with fail
      go_ret3
      exact ⟨_, rfl, HRR.out, hb⟩
    · rw [if_neg h3]
      have d3 : ((N : Int) == 64) = false := by simp; omega
      have d3' : (N == 64) = false := by simp [h3]
      have hl2 : N < 64 := by omega
      clear h3 hl
      go_enter Tryd.func16, Tryd.ntmps16
      go_wp2_with fail
      refine (rcheck_is _ l HZ.out 0 n HEN.out _ HR2.out).mono ?_
      rintro x w1 ⟨rfl, rfl⟩
      go_wp2_with fail
      refine (rown_any _ l (by rw [HN.out]; omega) _ HR2.out).mono ?_
      rintro x w1 ⟨a, c, rfl, hown, hB1⟩
      rw [HN.out] at hown ⊢
      have HOWN := Lib.hid (hown.alloc (.cells #[.string f] 9))
      have HF1 : Hid (RdS (w1.alloc (.cells #[.string f] 9)) 1 (.slice (some ⟨w1.heap.size, 0, none⟩) 1 1) 1 (tcs [f])) := RdS.box1 w1 _ _
      have hz1 : w.heap.size ≤ w1.heap.size := hB1.size
      clear hown
      go_wp2_with (at_builtin; refine wpList_app rfl (.tmp 32) (.tmp 34) 22 rfl w.heap.size 9 (.string ⟨#[]⟩) 1 16 ET _ N (tcs l) rfl HOWN.out _ 1 (tcs [f]) rfl HF1.out (tcs_one _) ?_ ?_ ?_ ?_)
      · unfold maxLen; omega
      · omega
      · simp; omega
      intro a3 c3 w3 hown3 hg3 hb3
      have hR : RdT w3 (.slice a3 (N + 1) c3) (l ++ [f]) := by
        have := RdS.of_owns hown3 (by decide)
        unfold RdT
        rw [List.length_append, HN.out, tcs_append]
        exact this
      have HRR := Lib.hid hR
      have hB3 : Below w.heap.size w w3 := Below.trans (Below.al hB1 _) hb3
      clear hown3 hg3 hR
      go_wp2_with fail
      go_ret3
      exact ⟨_, rfl, HRR.out, hB3⟩
  · rw [if_pos h1]
    have d1 : (e != 0) = true := by simpa using h1
    clear h1
    go_enter Tryd.func16, Tryd.ntmps16
    go_wp2_with fail
    refine (rcheck_is _ l HZ.out e n HEN.out _ HR.out).mono ?_
    rintro x w1 ⟨rfl, rfl⟩
    go_wp2_with fail
    go_ret3
    exact ⟨_, rfl, RdT.nil _, Below.refl _ _⟩
end Go.Proofs.YtimkeafpefkheaaDoor
