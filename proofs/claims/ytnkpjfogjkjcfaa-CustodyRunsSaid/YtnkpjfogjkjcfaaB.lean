


/- Custody: the program's looks at a world: nodes, copies, tags; lists of tags. -/
import Derived.Test.YtnkpjfogjkjcfaaA
namespace Go.Proofs.Ytnkpjfogjkjcfaa
open Go.RowKit
set_option linter.unusedSimpArgs false
set_option linter.unusedVariables false
set_option maxRecDepth 100000

/-- the parts of a world in memory, behind a pointer -/
structure BW (w : World) (b T : Nat) (cv fv : Value) (q : List Cq) (X : Wd) : Prop where
  box : BoxN w b T #[.int .i64 X.ds, cv, fv]
  pt : PtW w cv fv q X
theorem BW.keep {W w1 : World} {b T : Nat} {cv fv : Value} {q : List Cq} {X : Wd} (hb : Below W.heap.size W w1) (h : BW W b T cv fv q X) : BW w1 b T cv fv q X := ⟨h.box.below hb, h.pt.keep hb⟩
abbrev ptr (b : Nat) : Value := .pointer (some ⟨b, 0, none⟩)
theorem is_any (w : World) (b T : Nat) (cv fv : Value) (q : List Cq) (X : Wd) (n : Int) (h : BW w b T cv fv q X) : Calls Try.prog 46 #[ptr b, .int .i64 n] w fun e w' => e = .returned (.bool (decide (isN X n))) ∧ w' = w := by
  obtain ⟨a, c, rfl⟩ := h.pt.rows.form
  have hl := h.pt.len
  have h1 : w.cell? ⟨b, 1, none⟩ = some (.slice a q.length c) := (h.box.cell 1).trans rfl
  obtain ⟨N, hN⟩ : ∃ N, q.length = N := ⟨_, rfl⟩
  obtain ⟨r, hr⟩ : ∃ r, decide (1 ≤ n ∧ n ≤ (N : Int)) = r := ⟨_, rfl⟩
  rw [show decide (isN X n) = r by rw [← hr]; apply decide_eq_decide.2; unfold isN; rw [← hl, hN]]
  rw [hN] at h1
  clear h hl hN
  by_cases c1 : 1 ≤ n
  · have d1 := yb c1
    by_cases c2 : n ≤ (N : Int)
    · have d2 := yb c2
      obtain rfl : r = true := by rw [← hr]; exact yb ⟨c1, c2⟩
      clear hr c1 c2
      go_enter Try.func46, Try.ntmps46
      go_wp2_with fail
      go_ret
      exact ⟨rfl, rfl⟩
    · have d2 := nb c2
      obtain rfl : r = false := by rw [← hr]; exact nb (by omega)
      clear hr c1 c2
      go_enter Try.func46, Try.ntmps46
      go_wp2_with fail
      go_ret
      exact ⟨rfl, rfl⟩
  · have d1 := nb c1
    obtain rfl : r = false := by rw [← hr]; exact nb (by omega)
    clear hr c1
    go_enter Try.func46, Try.ntmps46
    go_wp2_with fail
    go_ret
    exact ⟨rfl, rfl⟩
theorem PtW.addr {w : World} {cv fv : Value} {q : List Cq} {X : Wd} (h : PtW w cv fv q X) {n : Int} (hn : isN X n) : ∃ g o c, cv = .slice (some ⟨g, o, none⟩) X.cs.length c := by
  unfold isN at hn
  obtain ⟨a, c, rfl⟩ := h.rows.form
  obtain ⟨g, o, rfl, _⟩ := RdC.at h.rows rfl 0 (by rw [h.len]; omega)
  exact ⟨g, o, c, by rw [h.len]⟩
/-- the node's row -/
theorem PtW.node {w : World} {g o c : Nat} {fv : Value} {q : List Cq} {X : Wd} (h : PtW w (.slice (some ⟨g, o, none⟩) X.cs.length c) fv q X) (i : Nat) (hi : i < X.cs.length) : CA w g (o + i * 6) (gq q i) := by
  obtain ⟨g', o', he, _, hr⟩ := RdC.at h.rows h.len i hi
  cases he
  exact hr
theorem at_any (w : World) (b T g o c : Nat) (fv : Value) (q : List Cq) (X : Wd) (i : Nat) (hi : i < X.cs.length) (h : BW w b T (.slice (some ⟨g, o, none⟩) X.cs.length c) fv q X) : Calls Try.prog 43 #[ptr b, .int .i64 ((i : Int) + 1)] w fun e w' => e = .returned (.pointer (some ⟨g, o + i * 6, none⟩)) ∧ w' = w := by
  have h1 : w.cell? ⟨b, 1, none⟩ = some (.slice (some ⟨g, o, none⟩) X.cs.length c) := (h.box.cell 1).trans rfl
  have hm := h.pt.rows.2.1
  rw [h.pt.len] at hm
  unfold maxLen at hm
  obtain ⟨N, hN⟩ : ∃ N, X.cs.length = N := ⟨_, rfl⟩
  rw [hN] at h1 hi hm
  clear h hN
  have hw1 : IntKind.i64.wrap ((i : Int) + 1 - 1) = (i : Int) := by rw [show (i : Int) + 1 - 1 = (i : Int) by omega]; exact IntWalk.i64_in _ (by omega)
  have i1 : (0 : Int) ≤ (i : Int) := by omega
  have i2 : (i : Int) < (N : Int) := by omega
  have hwi : IntKind.i64.wrap (i : Int) = (i : Int) := IntWalk.i64_in _ (by omega)
  go_enter Try.func43, Try.ntmps43
  go_wp2_with fail
  go_ret
  exact ⟨rfl, rfl⟩
set_option maxHeartbeats 1000000 in
theorem tag_any (w : World) (b T : Nat) (cv fv : Value) (q : List Cq) (X : Wd) (t : Tg) (n : Int) (h : BW w b T cv fv q X) : Calls Try.prog 66 #[ptr b, t.v, .int .i64 n] w fun e w' => e = .returned (.bool (decide (tagOK X t n))) ∧ Below w.heap.size w w' := by
  obtain ⟨r, hr⟩ : ∃ r, decide (tagOK X t n) = r := ⟨_, rfl⟩
  rw [hr]
  unfold tagOK at hr
  obtain ⟨W, hW⟩ : ∃ W : World, W = w.alloc (.cells #[.int .i64 t.nd, .int .i64 t.of] 80) := ⟨_, rfl⟩
  have hB : Below w.heap.size w W := by rw [hW]; exact (by repeat (first | assumption | exact Below.refl _ _ | apply Below.al | apply below_drewN | apply Below.drew | refine Below.next ?_ (by assumption)))
  have bT : BoxN W w.heap.size 80 #[.int .i64 t.nd, .int .i64 t.of] := by rw [hW]; exact BoxN.new _ _ _
  have t0 : W.cell? ⟨w.heap.size, 0, none⟩ = some (.int .i64 t.nd) := bT.cell 0
  have t1 : W.cell? ⟨w.heap.size, 1, none⟩ = some (.int .i64 t.of) := bT.cell 1
  have hh := h.keep hB
  have HI := Lib.hid (fun m => is_any (W.drewN m) b T cv fv q X t.nd (hh.keep (below_drewN (Below.refl _ _) _)))
  clear bT
  by_cases c1 : isN X t.nd
  · rw [yb c1] at HI
    by_cases c2 : t.nd = n
    · obtain rfl : r = false := by rw [← hr]; exact nb (fun hx => hx.2.1 c2)
      have d2 : (t.nd != n) = false := by simp [c2]
      clear hr c1 c2 h hh
      go_enter Try.func66, Try.ntmps66
      go_upto_region 1 with fail
      rw [← hW]
      clear hW
      go_quiet (first | (go_at_call 46; exact Calls.quiet_of_same (HI.out _)) | (go_at_call 43; exact Calls.quiet_of_same (HA.out _)))
      go_wp2_with fail
      go_ret
      exact ⟨rfl, below_drewN hB _⟩
    · have d2 : (t.nd != n) = true := by simp [c2]
      by_cases c3 : 0 ≤ t.of
      · have d3 := yb c3
        obtain ⟨g, o, c, rfl⟩ := hh.pt.addr c1
        obtain ⟨i, hi, hti, he⟩ := atC_get c1
        have HA := Lib.hid (fun m => at_any (W.drewN m) b T g o c fv q X i hi (hh.keep (below_drewN (Below.refl _ _) _)))
        have g3 := (PtW.node hh.pt i hi).2.2.2.1
        have hnx := (hh.pt.cop i).nx
        obtain ⟨y, HY⟩ : ∃ y, Hid (gq q i = y) := ⟨_, rfl⟩
        rw [HY.out] at g3 hnx
        rw [← hti] at HA
        by_cases c4 : t.of < (gc X.cs i).nx
        · obtain rfl : r = true := by rw [← hr]; exact yb ⟨c1, c2, c3, by rw [he]; exact c4⟩
          rw [← hnx] at c4
          have d4 := yb c4
          clear hr c1 c2 c3 c4 h hh hnx he hti hi
          go_enter Try.func66, Try.ntmps66
          go_upto_region 1 with fail
          rw [← hW]
          clear hW
          go_quiet (first | (go_at_call 46; exact Calls.quiet_of_same (HI.out _)) | (go_at_call 43; exact Calls.quiet_of_same (HA.out _)))
          go_wp2_with fail
          go_ret
          exact ⟨rfl, below_drewN hB _⟩
        · obtain rfl : r = false := by rw [← hr]; exact nb (fun hx => c4 (by rw [← he]; exact hx.2.2.2))
          rw [← hnx] at c4
          have d4 := nb c4
          clear hr c1 c2 c3 c4 h hh hnx he hti hi
          go_enter Try.func66, Try.ntmps66
          go_upto_region 1 with fail
          rw [← hW]
          clear hW
          go_quiet (first | (go_at_call 46; exact Calls.quiet_of_same (HI.out _)) | (go_at_call 43; exact Calls.quiet_of_same (HA.out _)))
          go_wp2_with fail
          go_ret
          exact ⟨rfl, below_drewN hB _⟩
      · have d3 := nb c3
        obtain rfl : r = false := by rw [← hr]; exact nb (fun hx => c3 hx.2.2.1)
        clear hr c1 c2 c3 h hh
        go_enter Try.func66, Try.ntmps66
        go_upto_region 1 with fail
        rw [← hW]
        clear hW
        go_quiet (first | (go_at_call 46; exact Calls.quiet_of_same (HI.out _)) | (go_at_call 43; exact Calls.quiet_of_same (HA.out _)))
        go_wp2_with fail
        go_ret
        exact ⟨rfl, below_drewN hB _⟩
  · rw [nb c1] at HI
    obtain rfl : r = false := by rw [← hr]; exact nb (fun hx => c1 hx.1)
    clear hr c1 h hh
    go_enter Try.func66, Try.ntmps66
    go_upto_region 1 with fail
    rw [← hW]
    clear hW
    go_quiet (first | (go_at_call 46; exact Calls.quiet_of_same (HI.out _)) | (go_at_call 43; exact Calls.quiet_of_same (HA.out _)))
    go_wp2_with fail
    go_ret
    exact ⟨rfl, below_drewN hB _⟩
/-- ascends -/
theorem ascends_any (v : Value) (l : List Tg) (w : World) (h : RdG w v l) : Calls Try.prog 64 #[v] w fun e w' => e = .returned (.bool (decide (asc l))) ∧ Below w.heap.size w w' := by
  obtain ⟨a0, n0, rfl⟩ := h.form
  have hmx := h.2.1
  unfold maxLen at hmx
  obtain ⟨N, hN⟩ : ∃ N, l.length = N := ⟨_, rfl⟩
  rw [hN] at h hmx ⊢
  have HN := Lib.hid hN
  have HR := Lib.hid h
  obtain ⟨r, hr⟩ : ∃ r, decide (asc l) = r := ⟨_, rfl⟩
  rw [hr]
  have HF := Lib.hid hr
  clear hN h hr
  go_enter Try.func64, Try.ntmps64
  go_wp2_with fail
  go_loopw [3] (fun i wr => ∃ k : Nat, 1 ≤ k ∧ (k ≤ N ∨ k = 1) ∧ i = .int .i64 k ∧ Below w.heap.size w wr ∧ ∀ j, 0 < j → j < k → ltG (gt l (j - 1)) (gt l j)) (fun i _ => N - (intOf i).toNat)
  case atStart => exact ⟨1, Nat.le_refl _, .inr rfl, rfl, Below.refl _ _, fun j _ hj => by omega⟩
  case round =>
    obtain ⟨k, hk1, hkN, rfl, hB, hz0⟩ := hrel
    have HZ0 := Lib.hid hz0
    clear hz0
    by_cases hlt : k < N
    · have d2 : decide ((k : Int) < (N : Int)) = true := yb (by omega)
      obtain ⟨p, rfl⟩ : ∃ p, k = p + 1 := ⟨k - 1, by omega⟩
      obtain ⟨b1, o1, rfl, hc1, g0, g1⟩ := RdG.at (HR.out.keep hB) HN.out (p + 1) hlt
      obtain ⟨b2, o2, he2, _, p0, p1⟩ := RdG.at (HR.out.keep hB) HN.out p (by omega)
      cases he2
      obtain ⟨y, HY⟩ : ∃ y, Hid (gt l (p + 1) = y) := ⟨_, rfl⟩
      obtain ⟨x, HX⟩ : ∃ x, Hid (gt l p = x) := ⟨_, rfl⟩
      rw [HY.out] at g0 g1
      rw [HX.out] at p0 p1
      have i1 : (0 : Int) ≤ (p : Int) + 1 := by omega
      have i2 : (p : Int) + 1 < (N : Int) := by omega
      have hwk : IntKind.i64.wrap ((p : Int) + 1) = (p : Int) + 1 := IntWalk.i64_in _ (by omega)
      have hwk2 : IntKind.i64.wrap ((p : Int) + 1 + 1) = (p : Int) + 1 + 1 := IntWalk.i64_in _ (by omega)
      have j1 : (0 : Int) ≤ (p : Int) := by omega
      have j2 : (p : Int) < (N : Int) := by omega
      have hwp : IntKind.i64.wrap (p : Int) = (p : Int) := IntWalk.i64_in _ (by omega)
      have hwq : IntKind.i64.wrap ((p : Int) + 1 - 1) = (p : Int) := by rw [show (p : Int) + 1 - 1 = (p : Int) by omega]; exact hwp
      have hnp : ((p : Int) + 1).toNat = p + 1 := by omega
      have d2 : decide ((p : Int) + 1 < (N : Int)) = true := yb (by omega)
      go_upto_region 4 with fail
      refine wp_region_calm (fun w' => Below wr.heap.size wr w') 99 (by kernel_rfl) ((Below.refl _ wr).drew) ?_
      refine cm_run 0 10 (v := ?_) rfl rfl (by kernel_rfl) (by kernel_rfl) (by kernel_rfl) (by kernel_rfl) (by kernel_rfl) (fun _ _ _ h => h) (by rfl) ?_ ?_
      rotate_left
      · (intro wS hS; skip; go_simp; (try with_reducible rfl))
      simp only [List.setIfInBounds_toArray, List.set_cons_zero, List.set_cons_succ]
      refine cm_run 1 11 (v := ?_) rfl rfl (by kernel_rfl) (by kernel_rfl) (by kernel_rfl) (by kernel_rfl) (by kernel_rfl) (fun _ _ _ h => h) (by rfl) ?_ ?_
      rotate_left
      · (intro wS hS; skip; go_simp; (try with_reducible rfl))
      simp only [List.setIfInBounds_toArray, List.set_cons_zero, List.set_cons_succ]
      refine cm_run 2 12 (v := ?_) rfl rfl (by kernel_rfl) (by kernel_rfl) (by kernel_rfl) (by kernel_rfl) (by kernel_rfl) (fun _ _ _ h => h) (by rfl) ?_ ?_
      rotate_left
      · (intro wS hS; skip; go_simp; (try with_reducible rfl))
      simp only [List.setIfInBounds_toArray, List.set_cons_zero, List.set_cons_succ]
      refine cm_run 3 13 (v := ?_) rfl rfl (by kernel_rfl) (by kernel_rfl) (by kernel_rfl) (by kernel_rfl) (by kernel_rfl) (fun _ _ _ h => h) (by rfl) ?_ ?_
      rotate_left
      · (intro wS hS; skip; go_simp; (try with_reducible rfl))
      simp only [List.setIfInBounds_toArray, List.set_cons_zero, List.set_cons_succ]
      refine cm_run 4 14 (v := ?_) rfl rfl (by kernel_rfl) (by kernel_rfl) (by kernel_rfl) (by kernel_rfl) (by kernel_rfl) (fun _ _ _ h => h) (by rfl) ?_ ?_
      rotate_left
      · (intro wS hS; (have x0 := cell_later hS p0; have x1 := cell_later hS p1); go_simp; (try with_reducible rfl))
      simp only [List.setIfInBounds_toArray, List.set_cons_zero, List.set_cons_succ]
      refine cm_run 5 15 (v := ?_) rfl rfl (by kernel_rfl) (by kernel_rfl) (by kernel_rfl) (by kernel_rfl) (by kernel_rfl) (fun _ _ _ h => h) (by rfl) ?_ ?_
      rotate_left
      · (intro wS hS; skip; go_simp; (try with_reducible rfl))
      simp only [List.setIfInBounds_toArray, List.set_cons_zero, List.set_cons_succ]
      refine cm_run 6 16 (v := ?_) rfl rfl (by kernel_rfl) (by kernel_rfl) (by kernel_rfl) (by kernel_rfl) (by kernel_rfl) (fun _ _ _ h => h) (by rfl) ?_ ?_
      rotate_left
      · (intro wS hS; skip; go_simp; (try with_reducible rfl))
      simp only [List.setIfInBounds_toArray, List.set_cons_zero, List.set_cons_succ]
      refine cm_run 7 17 (v := ?_) rfl rfl (by kernel_rfl) (by kernel_rfl) (by kernel_rfl) (by kernel_rfl) (by kernel_rfl) (fun _ _ _ h => h) (by rfl) ?_ ?_
      rotate_left
      · (intro wS hS; skip; go_simp; (try with_reducible rfl))
      simp only [List.setIfInBounds_toArray, List.set_cons_zero, List.set_cons_succ]
      refine cm_run 8 18 (v := ?_) rfl rfl (by kernel_rfl) (by kernel_rfl) (by kernel_rfl) (by kernel_rfl) (by kernel_rfl) (fun _ _ _ h => h) (by rfl) ?_ ?_
      rotate_left
      · (intro wS hS; (have x0 := cell_later hS g0; have x1 := cell_later hS g1); go_simp; (try with_reducible rfl))
      simp only [List.setIfInBounds_toArray, List.set_cons_zero, List.set_cons_succ]
      refine cm_call 9 19 76 (v := .int .i64 (cmpG x y)) (args := ?_) rfl rfl (by kernel_rfl) (by kernel_rfl) (by kernel_rfl) (by kernel_rfl) (by kernel_rfl) (fun _ _ _ h => h) (by rfl) ?_ ?_ ?_
      rotate_left 1
      · (intro wS hS; go_simp; (try with_reducible rfl))
      · (intro wS hS; refine (compare_any x y _).mono ?_; (rintro e w2 ⟨rfl, hb⟩; exact ⟨rfl, Below.next hS hb⟩))
      simp only [List.setIfInBounds_toArray, List.set_cons_zero, List.set_cons_succ]
      by_cases hs : ltG x y
      · have d3 : decide (0 ≤ cmpG x y) = false := nb (fun h => (cmpG_ge x y).1 h hs)
        have HS := Lib.hid hs
        clear hs
        refine cm_run 10 20 (v := ?_) rfl rfl (by kernel_rfl) (by kernel_rfl) (by kernel_rfl) (by kernel_rfl) (by kernel_rfl) (fun _ _ _ h => h) (by rfl) ?_ ?_
        rotate_left
        · (intro wS hS; skip; go_simp; (try with_reducible rfl))
        simp only [List.setIfInBounds_toArray, List.set_cons_zero, List.set_cons_succ]
        refine cm_done (by kernel_rfl) ?_
        intro wS hS
        refine NoPanic.normal ?_
        have hB1 := Below.next hB hS
        clear hS p0 p1 g0 g1
        go_wp2_with fail
        go_roundw
        case rel => exact ⟨p + 1 + 1, by omega, by omega, by go_num, hB1, fun j hj0 hj => by
          by_cases hjk : j = p + 1
          · subst hjk; rw [HY.out, Nat.add_sub_cancel, HX.out]; exact HS.out
          · exact HZ0.out j hj0 (by omega)⟩
        case measure => simp [intOf]; omega
      · have d3 : decide (0 ≤ cmpG x y) = true := yb ((cmpG_ge x y).2 hs)
        obtain rfl : r = false := by
          rw [← HF.out]
          refine nb (fun h => hs ?_)
          have := h (p + 1) (by omega) (by rw [HN.out]; exact hlt)
          rwa [HY.out, Nat.add_sub_cancel, HX.out] at this
        clear hs
        refine cm_run 10 20 (v := ?_) rfl rfl (by kernel_rfl) (by kernel_rfl) (by kernel_rfl) (by kernel_rfl) (by kernel_rfl) (fun _ _ _ h => h) (by rfl) ?_ ?_
        rotate_left
        · (intro wS hS; skip; go_simp; (try with_reducible rfl))
        simp only [List.setIfInBounds_toArray, List.set_cons_zero, List.set_cons_succ]
        refine cm_done (by kernel_rfl) ?_
        intro wS hS
        refine NoPanic.normal ?_
        have hB1 := Below.next hB hS
        clear hS p0 p1 g0 g1
        go_wp2_with fail
        go_ret
        exact ⟨rfl, hB1⟩
    · have d2 : decide ((k : Int) < (N : Int)) = false := nb (by omega)
      obtain rfl : r = true := by rw [← HF.out]; exact yb (fun j h0 hj => HZ0.out j h0 (by rw [HN.out] at hj; omega))
      go_wp2_with fail
      go_ret
      exact ⟨rfl, hB⟩
end Go.Proofs.Ytnkpjfogjkjcfaa
