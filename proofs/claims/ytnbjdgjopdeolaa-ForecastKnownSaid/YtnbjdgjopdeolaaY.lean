

/- VolumeKnown: the walk of the law: the chapter's examples. -/
import Derived.Test.YtnbjdgjopdeolaaW
namespace Go.Proofs.Ytnbjdgjopdeolaa
open Go.RowKit Go.Shelf
set_option linter.unusedSimpArgs false
set_option linter.unusedVariables false
set_option maxRecDepth 100000

abbrev exD : Ct := ⟨1, 2, 20, 21, 100, 0⟩
abbrev exL : List Ct := [exC, exD]
theorem exL_wf : ∀ c, c ∈ exL → Wf c := by
  intro c hc
  simp [exL] at hc
  rcases hc with rfl | rfl <;> (unfold Wf; decide)
theorem second_any (w : World) : Calls Try.prog 50 #[] w fun e w' => e = .returned exD.v ∧ Below w.heap.size w w' := by
  go_enter Try.func50, Try.ntmps50
  go_wp2
  exact bodyPost_ret (v := exD.v) (by simp [results, Try.results50, go_sem]) rfl ⟨rfl, (by repeat (first | assumption | exact Below.refl _ _ | apply Below.al | apply below_drewN | apply Below.drew | refine Below.next ?_ (by assumption)))⟩

theorem ends_fine (t n x y : Int) (hx : x ≠ 0) (hk : Bk exC 0 t n x y 0) (w : World) : Calls Try.prog 46 #[.int .i64 t, .int .i64 n, .int .i64 x] w fun e w' => e = .returned (.bool true) ∧ Below w.heap.size w w' := by
  have e1 : (x == 0) = false := by simpa using hx
  have e2 : (x == x) = true := by simp
  clear hx
  go_enter Try.func46, Try.ntmps46
  go_wp2_with (first
    | (go_at_call 49; refine (first_any _).mono ?_; rintro e w1 ⟨rfl, hb⟩)
    | (go_at_call 20; refine (finish_any exC t n x y 0 hk _).mono ?_; rintro e w1 ⟨rfl, hb⟩)
    | fail)
  go_ret
  exact ⟨rfl, (by repeat (first | assumption | exact Below.refl _ _ | apply Below.al | apply below_drewN | apply Below.drew | refine Below.next ?_ (by assumption)))⟩
theorem ends_late (t n y : Int) (hk : Bk exC 0 t n 0 y 16) (w : World) : Calls Try.prog 46 #[.int .i64 t, .int .i64 n, .int .i64 0] w fun e w' => e = .returned (.bool true) ∧ Below w.heap.size w w' := by
  go_enter Try.func46, Try.ntmps46
  go_wp2_with (first
    | (go_at_call 49; refine (first_any _).mono ?_; rintro e w1 ⟨rfl, hb⟩)
    | (go_at_call 20; refine (finish_any exC t n 0 y 16 hk _).mono ?_; rintro e w1 ⟨rfl, hb⟩)
    | fail)
  go_ret
  exact ⟨rfl, (by repeat (first | assumption | exact Below.refl _ _ | apply Below.al | apply below_drewN | apply Below.drew | refine Below.next ?_ (by assumption)))⟩
theorem leftL_yes (b t x : Int) (hk : Lf exC b t x 0) (w : World) : Calls Try.prog 48 #[.int .i64 b, .int .i64 t, .int .i64 x] w fun e w' => e = .returned (.bool true) ∧ Below w.heap.size w w' := by
  have e2 : (x == x) = true := by simp
  go_enter Try.func48, Try.ntmps48
  go_wp2_with (first
    | (go_at_call 49; refine (first_any _).mono ?_; rintro e w1 ⟨rfl, hb⟩)
    | (go_at_call 24; refine (left_any exC b t x 0 hk _).mono ?_; rintro e w1 ⟨rfl, hb⟩)
    | fail)
  go_ret
  exact ⟨rfl, (by repeat (first | assumption | exact Below.refl _ _ | apply Below.al | apply below_drewN | apply Below.drew | refine Below.next ?_ (by assumption)))⟩
theorem b1 : Bk exC 0 0 3 11 3 0 := Bk.fine exC_ok (by decide) (by decide) (by decide) (by decide) (by decide)
theorem b2 : Bk exC 0 12 1 13 7 0 := Bk.fine exC_ok (by decide) (by decide) (by decide) (by decide) (by decide)
theorem b3 : Bk exC 0 0 30 20 30 0 := Bk.fine exC_ok (by decide) (by decide) (by decide) (by decide) (by decide)
theorem b4 : Bk exC 0 0 31 0 0 16 := Bk.late exC_ok (by decide) (by decide) (by decide) (by decide) (by decide)
theorem b5 : Bk exC 0 20 1 0 0 16 := Bk.late exC_ok (by decide) (by decide) (by decide) (by decide) (by decide)
theorem b6 : Bk exC 0 12 5 14 11 0 := Bk.fine exC_ok (by decide) (by decide) (by decide) (by decide) (by decide)
theorem b7 : Bk exC 4 10 1 12 5 0 := Bk.fine exC_ok (by decide) (by decide) (by decide) (by decide) (by decide)
theorem b8 : Lf exC 0 12 24 0 := Lf.fine exC_ok (by decide) (by decide) (by decide)
theorem b9 : Lf exC 30 0 0 0 := Lf.fine exC_ok (by decide) (by decide) (by decide)
theorem b10 : Lf exC 31 0 0 2 := Lf.big exC_ok (by decide) (by decide) (by decide)
theorem v1 : Bwv exL 1 2 14 21 = (118, 0) := by decide
theorem v2 : Bwv exL 2 1 0 99 = (0, 0) := by decide
theorem v3 : Bwv exL 1 2 16 16 = (0, 0) := by decide
theorem v4 : Crv exL [0, 0] 1 2 12 50 = ([30, 26], 21, 0) := by decide
theorem v5 : Crv exL [0, 0] 1 2 12 125 = ([], 0, 16) := by decide
theorem v6 : ovL exL [31, 0] = [0] := by decide
theorem v7 : bkE exL [31, 0] = 0 := by decide
theorem v8 : ovL exL [0] = [] := by decide
theorem v9 : bkE exL [0] = 3 := by decide

theorem rds_block (W : World) (xs : List Value) (T : TypeId) (size n : Nat) (hl : xs.length = n * size) (hn : n ≤ maxLen) (hsz : 0 < size) : RdS (W.alloc (.cells xs.toArray T)) size (.slice (some ⟨W.heap.size, 0, none⟩) n n) n xs :=
  RdS.of_owns (owns_block (W.alloc (.cells xs.toArray T)) W.heap.size T size n xs W.heap.size (Nat.le_refl _) (heap_last W _) hl hn) hsz
theorem rdi_block (W : World) (xs : List Int) (T : TypeId) (hn : xs.length ≤ maxLen) : RdI .i64 (W.alloc (.cells (ic .i64 xs).toArray T)) (.slice (some ⟨W.heap.size, 0, none⟩) xs.length xs.length) xs :=
  rds_block W (ic .i64 xs) T 1 xs.length (by simp) hn (by decide)
theorem rdc_block (W : World) (cs : List Ct) (T : TypeId) (hn : cs.length ≤ maxLen) : RdC (W.alloc (.cells (ccs cs).toArray T)) (.slice (some ⟨W.heap.size, 0, none⟩) cs.length cs.length) cs :=
  rds_block W (ccs cs) T 6 cs.length (ccs_length cs) hn (by decide)

theorem bel_al {W W' : World} {o : Obj} (h : Below (W.alloc o).heap.size (W.alloc o) W') (_ : True) : Below W.heap.size W W' := ((Below.refl _ W).alloc (Nat.le_refl _) o).trans (h.mono (by simp))
set_option maxHeartbeats 2000000 in
theorem known_any (w : World) : Calls Try.prog 8 #[] w fun e w' => e = .returned (.bool true) ∧ Below w.heap.size w w' := by
  have hB : Below w.heap.size w w := Below.refl _ _
  go_enter Try.func8, Try.ntmps8
  go_wp2_with fail
  refine (ends_fine 0 3 11 3 (by decide) b1 _).mono ?_
  rintro e w1 ⟨rfl, hb⟩
  have hB := Below.next hB hb
  obtain ⟨wn, rfl⟩ : ∃ wn, wn = w1 := ⟨_, rfl⟩
  clear hb
  go_wp2_with fail
  refine (ends_fine 12 1 13 7 (by decide) b2 _).mono ?_
  rintro e w1 ⟨rfl, hb⟩
  have hB := Below.next hB hb
  obtain ⟨wn, rfl⟩ : ∃ wn, wn = w1 := ⟨_, rfl⟩
  clear hb
  go_wp2_with fail
  refine (ends_fine 0 30 20 30 (by decide) b3 _).mono ?_
  rintro e w1 ⟨rfl, hb⟩
  have hB := Below.next hB hb
  obtain ⟨wn, rfl⟩ : ∃ wn, wn = w1 := ⟨_, rfl⟩
  clear hb
  go_wp2_with fail
  refine (ends_late 0 31 0 b4 _).mono ?_
  rintro e w1 ⟨rfl, hb⟩
  have hB := Below.next hB hb
  obtain ⟨wn, rfl⟩ : ∃ wn, wn = w1 := ⟨_, rfl⟩
  clear hb
  go_wp2_with fail
  refine (ends_late 20 1 0 b5 _).mono ?_
  rintro e w1 ⟨rfl, hb⟩
  have hB := Below.next hB hb
  obtain ⟨wn, rfl⟩ : ∃ wn, wn = w1 := ⟨_, rfl⟩
  clear hb
  go_wp2_with fail
  refine (books_yes 0 12 5 14 11 b6 _).mono ?_
  rintro e w1 ⟨rfl, hb⟩
  have hB := Below.next hB hb
  obtain ⟨wn, rfl⟩ : ∃ wn, wn = w1 := ⟨_, rfl⟩
  clear hb
  go_wp2_with fail
  refine (books_yes 4 10 1 12 5 b7 _).mono ?_
  rintro e w1 ⟨rfl, hb⟩
  have hB := Below.next hB hb
  obtain ⟨wn, rfl⟩ : ∃ wn, wn = w1 := ⟨_, rfl⟩
  clear hb
  go_wp2_with fail
  refine (leftL_yes 0 12 24 b8 _).mono ?_
  rintro e w1 ⟨rfl, hb⟩
  have hB := Below.next hB hb
  obtain ⟨wn, rfl⟩ : ∃ wn, wn = w1 := ⟨_, rfl⟩
  clear hb
  go_wp2_with fail
  refine (leftL_yes 30 0 0 b9 _).mono ?_
  rintro e w1 ⟨rfl, hb⟩
  have hB := Below.next hB hb
  obtain ⟨wn, rfl⟩ : ∃ wn, wn = w1 := ⟨_, rfl⟩
  clear hb
  go_wp2_with fail
  refine (first_any _).mono ?_
  rintro e w1 ⟨rfl, hb⟩
  have hB := Below.next hB hb
  obtain ⟨wn, rfl⟩ : ∃ wn, wn = w1 := ⟨_, rfl⟩
  clear hb
  go_wp2_with fail
  refine (left_any exC 31 0 0 2 b10 _).mono ?_
  rintro e w1 ⟨rfl, hb⟩
  have hB := Below.next hB hb
  obtain ⟨wn, rfl⟩ : ∃ wn, wn = w1 := ⟨_, rfl⟩
  clear hb
  go_wp2_with fail
  refine (first_any _).mono ?_
  rintro e w1 ⟨rfl, hb⟩
  have hB := Below.next hB hb
  obtain ⟨wn, rfl⟩ : ∃ wn, wn = w1 := ⟨_, rfl⟩
  clear hb
  go_wp2_with fail
  refine (second_any _).mono ?_
  rintro e w1 ⟨rfl, hb⟩
  have hB := Below.next hB hb
  obtain ⟨wn, rfl⟩ : ∃ wn, wn = w1 := ⟨_, rfl⟩
  clear hb
  obtain ⟨wl, hwl⟩ : ∃ wl : World, wl = wn.alloc (.cells #[.int .i64 1, .int .i64 2, .int .i64 10, .int .i64 20, .int .i64 3, .int .i64 0, .int .i64 1, .int .i64 2, .int .i64 20, .int .i64 21, .int .i64 100, .int .i64 0] 23) := ⟨_, rfl⟩
  have hl : RdC wl (.slice (some ⟨wn.heap.size, 0, none⟩) 2 2) exL := by rw [hwl]; exact rdc_block wn exL 23 (by decide)
  have hB : Below w.heap.size w wl := by rw [hwl]; exact Below.al hB _
  obtain ⟨L0, hL0⟩ : ∃ L0, L0 = wn.heap.size := ⟨_, rfl⟩
  go_wp2_with fail
  rw [← hwl, ← hL0]
  rw [← hL0] at hl
  clear hwl hL0
  refine (between_any exL _ 1 2 14 21 118 0 exL_wf v1 _ hl).mono ?_
  rintro e w1 ⟨rfl, hb⟩
  have hl := hl.keep hb
  have hB := Below.next hB hb
  obtain ⟨wn, rfl⟩ : ∃ wn, wn = w1 := ⟨_, rfl⟩
  clear hb
  go_wp2_with fail
  refine (between_any exL _ 2 1 0 99 0 0 exL_wf v2 _ hl).mono ?_
  rintro e w1 ⟨rfl, hb⟩
  have hl := hl.keep hb
  have hB := Below.next hB hb
  obtain ⟨wn, rfl⟩ : ∃ wn, wn = w1 := ⟨_, rfl⟩
  clear hb
  go_wp2_with fail
  refine (between_any exL _ 1 2 16 16 0 0 exL_wf v3 _ hl).mono ?_
  rintro e w1 ⟨rfl, hb⟩
  have hl := hl.keep hb
  have hB := Below.next hB hb
  obtain ⟨wn, rfl⟩ : ∃ wn, wn = w1 := ⟨_, rfl⟩
  clear hb
  go_wp2_with fail
  refine (carry_any exL _ [0, 0] _ 1 2 12 50 exL_wf 0 21 [30, 26] v4 _ (hl.keep (by repeat (first | assumption | exact Below.refl _ _ | apply Below.al | apply below_drewN | apply Below.drew | refine Below.next ?_ (by assumption)))) (rdi_block wn [0, 0] 3 (by decide))).mono ?_
  rintro e w1 ⟨r1, rfl, hr1, hb⟩
  have hl := hl.keep (bel_al hb trivial)
  have hB := Below.next hB (bel_al hb trivial)
  obtain ⟨wn, rfl⟩ : ∃ wn, wn = w1 := ⟨_, rfl⟩
  clear hb
  go_wp2_with fail
  refine (carry_any exL _ [0, 0] _ 1 2 12 125 exL_wf 16 0 [] v5 _ (hl.keep (by repeat (first | assumption | exact Below.refl _ _ | apply Below.al | apply below_drewN | apply Below.drew | refine Below.next ?_ (by assumption)))) (rdi_block wn [0, 0] 3 (by decide))).mono ?_
  rintro e w1 ⟨r2, rfl, hr2, hb⟩
  have hr1 := hr1.keep (bel_al hb trivial)
  have hl := hl.keep (bel_al hb trivial)
  have hB := Below.next hB (bel_al hb trivial)
  obtain ⟨wn, rfl⟩ : ∃ wn, wn = w1 := ⟨_, rfl⟩
  clear hb
  go_wp2_with fail
  refine (vOver_any exL _ [31, 0] _ exL_wf _ (hl.keep (by repeat (first | assumption | exact Below.refl _ _ | apply Below.al | apply below_drewN | apply Below.drew | refine Below.next ?_ (by assumption)))) (rdi_block wn [31, 0] 3 (by decide))).mono ?_
  rw [v6, v7]
  rintro e w1 ⟨r3, rfl, hr3, _, hb⟩
  have hr1 := hr1.keep (bel_al hb trivial)
  have hl := hl.keep (bel_al hb trivial)
  have hB := Below.next hB (bel_al hb trivial)
  obtain ⟨wn, rfl⟩ : ∃ wn, wn = w1 := ⟨_, rfl⟩
  clear hb
  go_wp2_with fail
  refine (vOver_any exL _ [0] _ exL_wf _ (hl.keep (by repeat (first | assumption | exact Below.refl _ _ | apply Below.al | apply below_drewN | apply Below.drew | refine Below.next ?_ (by assumption)))) (rdi_block wn [0] 3 (by decide))).mono ?_
  rw [v8, v9]
  rintro e w1 ⟨r4, rfl, hr4, _, hb⟩
  have hr1 := hr1.keep (bel_al hb trivial)
  have hr3 := hr3.keep (bel_al hb trivial)
  have hl := hl.keep (bel_al hb trivial)
  have hB := Below.next hB (bel_al hb trivial)
  obtain ⟨wn, rfl⟩ : ∃ wn, wn = w1 := ⟨_, rfl⟩
  clear hb
  go_wp2_with fail
  refine (sameInts_eq _ _ [30, 26] (by decide) _ (hr1.keep (by repeat (first | assumption | exact Below.refl _ _ | apply Below.al | apply below_drewN | apply Below.drew | refine Below.next ?_ (by assumption)))) (rdi_block wn [30, 26] 3 (by decide))).mono ?_
  rintro e w1 ⟨rfl, hb⟩
  have hr3 := hr3.keep (bel_al hb trivial)
  have hl := hl.keep (bel_al hb trivial)
  have hB := Below.next hB (bel_al hb trivial)
  obtain ⟨wn, rfl⟩ : ∃ wn, wn = w1 := ⟨_, rfl⟩
  clear hb
  go_wp2_with fail
  refine (awake_any _).mono ?_
  rintro e w1 ⟨rfl, hb⟩
  have hr3 := hr3.keep hb
  have hB := Below.next hB hb
  obtain ⟨wn, rfl⟩ : ∃ wn, wn = w1 := ⟨_, rfl⟩
  clear hb
  go_wp2_with fail
  refine (sameInts_eq _ _ [0] (by decide) _ (hr3.keep (by repeat (first | assumption | exact Below.refl _ _ | apply Below.al | apply below_drewN | apply Below.drew | refine Below.next ?_ (by assumption)))) (rdi_block wn [0] 3 (by decide))).mono ?_
  rintro e w1 ⟨rfl, hb⟩
  have hB : Below w.heap.size w w1 := (by repeat (first | assumption | exact Below.refl _ _ | apply Below.al | apply below_drewN | apply Below.drew | refine Below.next ?_ (by assumption)))
  clear hb
  go_wp2_with fail
  go_ret
  exact ⟨rfl, hB⟩
end Go.Proofs.Ytnbjdgjopdeolaa
