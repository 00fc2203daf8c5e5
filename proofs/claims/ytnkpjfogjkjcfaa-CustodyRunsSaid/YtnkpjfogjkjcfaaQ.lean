


/- Custody: which error a move has, in both texts. -/
import Derived.Test.YtnkpjfogjkjcfaaP
import Derived.Test.YtnkpjfogjkjcfaaG
namespace Go.Proofs.Ytnkpjfogjkjcfaa
open Go.RowKit
set_option linter.unusedSimpArgs false
set_option linter.unusedVariables false
set_option maxRecDepth 100000

abbrev Mv.v (m : Mv) : Value := .agg #[.int .i64 m.kd, .int .i64 m.nd, .int .i64 m.ot, .int .i64 m.n]
set_option maxHeartbeats 2000000 in
theorem wrongM_any (w : World) (p T : Nat) (cv fv : Value) (q : List Cq) (X : Wd) (m : Mv) (er : Int) (her : ftE X m = er) (h : BW w p T cv fv q X) : Calls Try.prog 55 #[ptr p, m.v] w fun e w' => e = .returned (.int .i64 er) ∧ Below w.heap.size w w' := by
  obtain ⟨k, nd, ot, n⟩ := m
  show Calls Try.prog 55 #[ptr p, .agg #[.int .i64 k, .int .i64 nd, .int .i64 ot, .int .i64 n]] w _
  obtain ⟨W, hW⟩ : ∃ W : World, W = w.alloc (.cells #[.int .i64 k, .int .i64 nd, .int .i64 ot, .int .i64 n] 40) := ⟨_, rfl⟩
  have hB0 : Below w.heap.size w W := by rw [hW]; exact (by repeat (first | assumption | exact Below.refl _ _ | apply Below.al | apply below_drewN | apply Below.drew | refine Below.next ?_ (by assumption)))
  have bM : BoxN W w.heap.size 40 #[.int .i64 k, .int .i64 nd, .int .i64 ot, .int .i64 n] := by rw [hW]; exact BoxN.new _ _ _
  have m0 : W.cell? ⟨w.heap.size, 0, none⟩ = some (.int .i64 k) := bM.cell 0
  have m1 : W.cell? ⟨w.heap.size, 1, none⟩ = some (.int .i64 nd) := bM.cell 1
  have m2 : W.cell? ⟨w.heap.size, 2, none⟩ = some (.int .i64 ot) := bM.cell 2
  have m3 : W.cell? ⟨w.heap.size, 3, none⟩ = some (.int .i64 n) := bM.cell 3
  have hh := h.keep hB0
  obtain ⟨fa, fc, hfv⟩ := h.pt.frs.form
  obtain ⟨F, hF⟩ : ∃ F, X.fr.length = F := ⟨_, rfl⟩
  have b2 : W.cell? ⟨p, 2, none⟩ = some (.slice fa F fc) := by rw [← hF, ← hfv]; exact hh.box.cell 2
  have HI1 := Lib.hid (is_any W p T cv fv q X nd hh)
  have HI2 := Lib.hid (is_any W p T cv fv q X ot hh)
  have HHH := Lib.hid hh
  have HFV := Lib.hid hfv
  clear bM h hfv hh
  have HER : Hid (ftE X ⟨k, nd, ot, n⟩ = er) := Lib.hid her
  have key : ∀ x : Int, ftE X ⟨k, nd, ot, n⟩ = x → er = x := fun x hx => HER.out.symm.trans hx
  clear her
  by_cases hk : k = 1
  · subst hk
    by_cases c1 : isN X nd
    · have r1 := yb c1
      rw [r1] at HI1
      by_cases c2 : isN X ot
      · have r2 := yb c2
        rw [r2] at HI2
        by_cases c3 : ot = nd
        · have r3 : (ot == nd) = true := by simp [c3]
          obtain rfl := key 2 (by simp [ftE, c1, c2, c3])
          clear key HER c1 c2 c3
          go_enter Try.func55, Try.ntmps55
          go_upto_region 1 with fail
          rw [← hW]
          clear hW
          go_wp2_with fail
          refine (HI1.out).mono ?_
          rintro e w9 ⟨rfl, h9⟩
          obtain rfl := h9.symm
          clear h9
          go_wp2_with fail
          refine (HI2.out).mono ?_
          rintro e w9 ⟨rfl, h9⟩
          obtain rfl := h9.symm
          clear h9
          go_wp2_with fail
          go_ret
          exact ⟨rfl, hB0⟩
        · have r3 : (ot == nd) = false := by simp [c3]
          obtain ⟨g, o, cc, hcv⟩ := HHH.out.pt.addr c1
          have hh := HHH.out
          subst hcv
          obtain ⟨i, hi, hni, he⟩ := atC_get c1
          obtain ⟨y, HY⟩ : ∃ y, Hid (gq q i = y) := ⟨_, rfl⟩
          obtain ⟨c, HC0⟩ : ∃ c, Hid (gc X.cs i = c) := ⟨_, rfl⟩
          have HC : Hid (atC X nd = c) := Lib.hid (by rw [he]; exact HC0.out)
          have hrow := PtW.node hh.pt i hi
          have hst := (hh.pt.cop i).st
          have hnx := (hh.pt.cop i).nx
          rw [HY.out] at hrow hst hnx
          rw [HC0.out] at hst hnx
          obtain ⟨a0, a1, a2, a3, a4, a5⟩ := hrow
          have HA := Lib.hid (at_any W p T g o cc fv q X i hi hh)
          have HA2 := Lib.hid (fun z => at_any (W.drewN z) p T g o cc fv q X i hi (hh.keep (below_drewN (Below.refl _ _) _)))
          rw [← hni] at HA HA2
          clear hh hi hni he
          by_cases c4 : c.st = 1
          · have r4 : (y.st != 1) = false := by simp [hst, c4]
            by_cases c5 : 64 ≤ F
            · have r5 : decide ((64 : Int) ≤ (F : Int)) = true := yb (by omega)
              obtain rfl := key 5 (by simp [ftE, c1, c2, c3, HC.out, c4, hF, c5])
              clear key HER c1 c2 c3 c4 c5 hst hnx
              go_enter Try.func55, Try.ntmps55
              go_upto_region 1 with fail
              rw [← hW]
              clear hW
              go_wp2_with fail
              refine (HI1.out).mono ?_
              rintro e w9 ⟨rfl, h9⟩
              obtain rfl := h9.symm
              clear h9
              go_wp2_with fail
              refine (HI2.out).mono ?_
              rintro e w9 ⟨rfl, h9⟩
              obtain rfl := h9.symm
              clear h9
              go_wp2_with fail
              refine (HA.out).mono ?_
              rintro e w9 ⟨rfl, h9⟩
              obtain rfl := h9.symm
              clear h9
              go_wp2_with fail
              go_quiet (fail)
              go_wp2_with fail
              go_ret
              exact ⟨rfl, below_drewN hB0 _⟩
            · have r5 : decide ((64 : Int) ≤ (F : Int)) = false := nb (by omega)
              by_cases c6 : c.nx = 1099511627776
              · have r6 : (y.nx == 1099511627776) = true := by simp [hnx, c6]
                obtain rfl := key 5 (by simp [ftE, c1, c2, c3, HC.out, c4, hF, c5, c6])
                clear key HER c1 c2 c3 c4 c5 c6 hst hnx
                go_enter Try.func55, Try.ntmps55
                go_upto_region 1 with fail
                rw [← hW]
                clear hW
                go_wp2_with fail
                refine (HI1.out).mono ?_
                rintro e w9 ⟨rfl, h9⟩
                obtain rfl := h9.symm
                clear h9
                go_wp2_with fail
                refine (HI2.out).mono ?_
                rintro e w9 ⟨rfl, h9⟩
                obtain rfl := h9.symm
                clear h9
                go_wp2_with fail
                refine (HA.out).mono ?_
                rintro e w9 ⟨rfl, h9⟩
                obtain rfl := h9.symm
                clear h9
                go_wp2_with fail
                go_quiet (fail)
                go_wp2_with fail
                refine (HA2.out _).mono ?_
                rintro e w9 ⟨rfl, h9⟩
                obtain rfl := h9.symm
                clear h9
                go_wp2_with fail
                go_ret
                exact ⟨rfl, below_drewN hB0 _⟩
              · have r6 : (y.nx == 1099511627776) = false := by simp [hnx, c6]
                obtain rfl := key 0 (by simp [ftE, c1, c2, c3, HC.out, c4, hF, c5, c6])
                clear key HER c1 c2 c3 c4 c5 c6 hst hnx
                go_enter Try.func55, Try.ntmps55
                go_upto_region 1 with fail
                rw [← hW]
                clear hW
                go_wp2_with fail
                refine (HI1.out).mono ?_
                rintro e w9 ⟨rfl, h9⟩
                obtain rfl := h9.symm
                clear h9
                go_wp2_with fail
                refine (HI2.out).mono ?_
                rintro e w9 ⟨rfl, h9⟩
                obtain rfl := h9.symm
                clear h9
                go_wp2_with fail
                refine (HA.out).mono ?_
                rintro e w9 ⟨rfl, h9⟩
                obtain rfl := h9.symm
                clear h9
                go_wp2_with fail
                go_quiet (fail)
                go_wp2_with fail
                refine (HA2.out _).mono ?_
                rintro e w9 ⟨rfl, h9⟩
                obtain rfl := h9.symm
                clear h9
                go_wp2_with fail
                go_ret
                exact ⟨rfl, below_drewN hB0 _⟩
          · have r4 : (y.st != 1) = true := by simp [hst, c4]
            obtain rfl := key 12 (by simp [ftE, c1, c2, c3, HC.out, c4])
            clear key HER c1 c2 c3 c4 hst hnx
            go_enter Try.func55, Try.ntmps55
            go_upto_region 1 with fail
            rw [← hW]
            clear hW
            go_wp2_with fail
            refine (HI1.out).mono ?_
            rintro e w9 ⟨rfl, h9⟩
            obtain rfl := h9.symm
            clear h9
            go_wp2_with fail
            refine (HI2.out).mono ?_
            rintro e w9 ⟨rfl, h9⟩
            obtain rfl := h9.symm
            clear h9
            go_wp2_with fail
            refine (HA.out).mono ?_
            rintro e w9 ⟨rfl, h9⟩
            obtain rfl := h9.symm
            clear h9
            go_wp2_with fail
            go_ret
            exact ⟨rfl, hB0⟩
      · have r2 := nb c2
        rw [r2] at HI2
        obtain rfl := key 2 (by simp [ftE, c1, c2])
        clear key HER c1 c2
        go_enter Try.func55, Try.ntmps55
        go_upto_region 1 with fail
        rw [← hW]
        clear hW
        go_wp2_with fail
        refine (HI1.out).mono ?_
        rintro e w9 ⟨rfl, h9⟩
        obtain rfl := h9.symm
        clear h9
        go_wp2_with fail
        refine (HI2.out).mono ?_
        rintro e w9 ⟨rfl, h9⟩
        obtain rfl := h9.symm
        clear h9
        go_wp2_with fail
        go_ret
        exact ⟨rfl, hB0⟩
    · have r1 := nb c1
      rw [r1] at HI1
      obtain rfl := key 2 (by simp [ftE, c1])
      clear key HER c1
      go_enter Try.func55, Try.ntmps55
      go_upto_region 1 with fail
      rw [← hW]
      clear hW
      go_wp2_with fail
      refine (HI1.out).mono ?_
      rintro e w9 ⟨rfl, h9⟩
      obtain rfl := h9.symm
      clear h9
      go_wp2_with fail
      go_ret
      exact ⟨rfl, hB0⟩
  by_cases hk : k = 5
  · subst hk
    by_cases c1 : isN X nd
    · have r1 := yb c1
      rw [r1] at HI1
      obtain rfl := key 0 (by simp [ftE, c1])
      clear key HER c1
      go_enter Try.func55, Try.ntmps55
      go_upto_region 1 with fail
      rw [← hW]
      clear hW
      go_wp2_with fail
      refine (HI1.out).mono ?_
      rintro e w9 ⟨rfl, h9⟩
      obtain rfl := h9.symm
      clear h9
      go_wp2_with fail
      go_quiet (fail)
      go_wp2_with fail
      go_ret
      exact ⟨rfl, below_drewN hB0 _⟩
    · have r1 := nb c1
      rw [r1] at HI1
      obtain rfl := key 2 (by simp [ftE, c1])
      clear key HER c1
      go_enter Try.func55, Try.ntmps55
      go_upto_region 1 with fail
      rw [← hW]
      clear hW
      go_wp2_with fail
      refine (HI1.out).mono ?_
      rintro e w9 ⟨rfl, h9⟩
      obtain rfl := h9.symm
      clear h9
      go_wp2_with fail
      go_ret
      exact ⟨rfl, hB0⟩
  by_cases hk : k = 6
  · subst hk
    by_cases c1 : isN X nd
    · have r1 := yb c1
      rw [r1] at HI1
      obtain rfl := key 0 (by simp [ftE, c1])
      clear key HER c1
      go_enter Try.func55, Try.ntmps55
      go_upto_region 1 with fail
      rw [← hW]
      clear hW
      go_wp2_with fail
      refine (HI1.out).mono ?_
      rintro e w9 ⟨rfl, h9⟩
      obtain rfl := h9.symm
      clear h9
      go_wp2_with fail
      go_quiet (fail)
      go_wp2_with fail
      go_ret
      exact ⟨rfl, below_drewN hB0 _⟩
    · have r1 := nb c1
      rw [r1] at HI1
      obtain rfl := key 2 (by simp [ftE, c1])
      clear key HER c1
      go_enter Try.func55, Try.ntmps55
      go_upto_region 1 with fail
      rw [← hW]
      clear hW
      go_wp2_with fail
      refine (HI1.out).mono ?_
      rintro e w9 ⟨rfl, h9⟩
      obtain rfl := h9.symm
      clear h9
      go_wp2_with fail
      go_ret
      exact ⟨rfl, hB0⟩
  by_cases hk : k = 4
  · subst hk
    by_cases c1 : n < 0
    · have r1 := yb c1
      obtain rfl := key 8 (by simp [ftE, c1])
      clear key HER c1
      go_enter Try.func55, Try.ntmps55
      go_upto_region 1 with fail
      rw [← hW]
      clear hW
      go_wp2_with fail
      go_quiet (fail)
      go_wp2_with fail
      go_ret
      exact ⟨rfl, below_drewN hB0 _⟩
    · have r1 := nb c1
      by_cases c2 : (F : Int) ≤ n
      · have r2 := yb c2
        obtain rfl := key 8 (by simp [ftE, hF, c1, c2])
        clear key HER c1 c2
        go_enter Try.func55, Try.ntmps55
        go_upto_region 1 with fail
        rw [← hW]
        clear hW
        go_wp2_with fail
        go_quiet (fail)
        go_wp2_with fail
        go_ret
        exact ⟨rfl, below_drewN hB0 _⟩
      · have r2 := nb c2
        by_cases c5 : 64 ≤ F
        · have r5 : decide ((64 : Int) ≤ (F : Int)) = true := yb (by omega)
          obtain rfl := key 5 (by simp [ftE, hF, c1, c2, c5])
          clear key HER c1 c2 c5
          go_enter Try.func55, Try.ntmps55
          go_upto_region 1 with fail
          rw [← hW]
          clear hW
          go_wp2_with fail
          go_quiet (fail)
          go_wp2_with fail
          go_ret
          exact ⟨rfl, below_drewN hB0 _⟩
        · have r5 : decide ((64 : Int) ≤ (F : Int)) = false := nb (by omega)
          obtain rfl := key 0 (by simp [ftE, hF, c1, c2, c5])
          clear key HER c1 c2 c5
          go_enter Try.func55, Try.ntmps55
          go_upto_region 1 with fail
          rw [← hW]
          clear hW
          go_wp2_with fail
          go_quiet (fail)
          go_wp2_with fail
          go_ret
          exact ⟨rfl, below_drewN hB0 _⟩
  by_cases hk : k = 2
  · subst hk
    by_cases c1 : n < 0
    · have r1 := yb c1
      obtain rfl := key 8 (by simp [ftE, c1])
      clear key HER c1
      go_enter Try.func55, Try.ntmps55
      go_upto_region 1 with fail
      rw [← hW]
      clear hW
      go_wp2_with fail
      go_quiet (fail)
      go_wp2_with fail
      go_ret
      exact ⟨rfl, below_drewN hB0 _⟩
    · have r1 := nb c1
      by_cases c2 : (F : Int) ≤ n
      · have r2 := yb c2
        obtain rfl := key 8 (by simp [ftE, hF, c1, c2])
        clear key HER c1 c2
        go_enter Try.func55, Try.ntmps55
        go_upto_region 1 with fail
        rw [← hW]
        clear hW
        go_wp2_with fail
        go_quiet (fail)
        go_wp2_with fail
        go_ret
        exact ⟨rfl, below_drewN hB0 _⟩
      · have r2 := nb c2
        obtain rfl := key 0 (by simp [ftE, hF, c1, c2])
        clear key HER c1 c2
        go_enter Try.func55, Try.ntmps55
        go_upto_region 1 with fail
        rw [← hW]
        clear hW
        go_wp2_with fail
        go_quiet (fail)
        go_wp2_with fail
        go_ret
        exact ⟨rfl, below_drewN hB0 _⟩
  by_cases hk : k = 3
  · subst hk
    by_cases c1 : n < 0
    · have r1 := yb c1
      obtain rfl := key 8 (by simp [ftE, c1])
      clear key HER c1
      go_enter Try.func55, Try.ntmps55
      go_upto_region 1 with fail
      rw [← hW]
      clear hW
      go_wp2_with fail
      go_quiet (fail)
      go_wp2_with fail
      go_ret
      exact ⟨rfl, below_drewN hB0 _⟩
    · have r1 := nb c1
      by_cases c2 : (F : Int) ≤ n
      · have r2 := yb c2
        obtain rfl := key 8 (by simp [ftE, hF, c1, c2])
        clear key HER c1 c2
        go_enter Try.func55, Try.ntmps55
        go_upto_region 1 with fail
        rw [← hW]
        clear hW
        go_wp2_with fail
        go_quiet (fail)
        go_wp2_with fail
        go_ret
        exact ⟨rfl, below_drewN hB0 _⟩
      · have r2 := nb c2
        obtain rfl := key 0 (by simp [ftE, hF, c1, c2])
        clear key HER c1 c2
        go_enter Try.func55, Try.ntmps55
        go_upto_region 1 with fail
        rw [← hW]
        clear hW
        go_wp2_with fail
        go_quiet (fail)
        go_wp2_with fail
        go_ret
        exact ⟨rfl, below_drewN hB0 _⟩
  have q1 : (k == 1) = false := by rw [beq_eq_false_iff_ne]; omega
  have q5 : (k == 5) = false := by rw [beq_eq_false_iff_ne]; omega
  have q6 : (k == 6) = false := by rw [beq_eq_false_iff_ne]; omega
  have q4 : (k == 4) = false := by rw [beq_eq_false_iff_ne]; omega
  have q2 : (k == 2) = false := by rw [beq_eq_false_iff_ne]; omega
  have q3 : (k == 3) = false := by rw [beq_eq_false_iff_ne]; omega
  obtain rfl := key 7 (by unfold ftE; exact if_pos (by show k < 1 ∨ 6 < k; omega))
  clear key HER
  go_enter Try.func55, Try.ntmps55
  go_upto_region 1 with fail
  rw [← hW]
  clear hW
  go_wp2_with fail
  go_ret
  exact ⟨rfl, hB0⟩
end Go.Proofs.Ytnkpjfogjkjcfaa
