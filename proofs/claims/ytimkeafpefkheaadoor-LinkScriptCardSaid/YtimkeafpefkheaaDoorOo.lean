

/- Links: a fault happens (the reference's text): spoil. -/
import Derived.Test.YtimkeafpefkheaaDoorN
namespace Go.Proofs.YtimkeafpefkheaaDoor
open Go.RowKit
set_option linter.unusedSimpArgs false
set_option linter.unusedVariables false
set_option maxRecDepth 100000

set_option maxHeartbeats 4000000 in
theorem rap_4 (v : Value) (l : List Fr) (hz : Szs l) (hen : (chkL l).1 = 0) (i : Nat) (j b : Int) (hi : i < l.length) (w : World) (h : RdT w v l) :
    Calls Tryd.prog 21 #[v, (⟨4, (i : Int), j, b⟩ : Tr).v] w (RaR w l ⟨4, (i : Int), j, b⟩) := by
  unfold RaR
  rw [show apL l ⟨4, (i : Int), j, b⟩ = l.set i (spoilS (l.getD i e0) j.toNat b) by simp [apL], show fitT l ⟨4, (i : Int), j, b⟩ = (decide (0 ≤ j) && decide (j < ((l.getD i e0).size : Int)) && decide (1 ≤ b) && decide (b ≤ 255)) by simp [fitT]]
  have HF : Hid (unV ⟨4, (i : Int), j, b⟩ = true) := by unfold Hid; simp [unV]
  obtain ⟨n, hen'⟩ : ∃ n, chkL l = (0, n) := ⟨(chkL l).2, by rw [← hen]⟩
  have HEN := Lib.hid hen'
  have HZ := Lib.hid hz
  have hcz := chkL_zero hen
  obtain ⟨a0, n0, rfl⟩ := h.form
  obtain ⟨N, hN⟩ : ∃ N, l.length = N := ⟨_, rfl⟩
  have HN := Lib.hid hN
  have HR2 : Hid (RdT w (.slice a0 N n0) l) := by unfold Hid; rw [← hN]; exact h
  have HSZ : Hid (∀ j, j < l.length → (l.getD j e0).size ≤ 1200) := fun j hj => (hcz.2 j hj).2
  have hl := hcz.1
  rw [hN] at hl hi ⊢
  clear h hN hcz hen hen' hz
  obtain ⟨W, hW⟩ : ∃ W : World, W = w.alloc (.cells #[.int .i64 4, .int .i64 (i : Int), .int .i64 j, .int .i64 b] 36) := ⟨_, rfl⟩
  have hB : Below w.heap.size w W := by rw [hW]; exact (by repeat (first | assumption | exact Below.refl _ _ | apply Below.al | apply below_drewN | apply Below.drew | refine Below.next ?_ (by assumption)))
  have b0 : BoxN W w.heap.size 36 #[.int .i64 4, .int .i64 (i : Int), .int .i64 j, .int .i64 b] := by rw [hW]; exact BoxN.new w _ _
  have t0 : W.cell? ⟨w.heap.size, 0, none⟩ = some (.int .i64 4) := b0.cell 0
  have t1 : W.cell? ⟨w.heap.size, 1, none⟩ = some (.int .i64 (i : Int)) := b0.cell 1
  have t2 : W.cell? ⟨w.heap.size, 2, none⟩ = some (.int .i64 j) := b0.cell 2
  have t3 : W.cell? ⟨w.heap.size, 3, none⟩ = some (.int .i64 b) := b0.cell 3
  have HRW := Lib.hid (HR2.out.keep hB)
  clear b0
  obtain ⟨bk, off, rfl, hcap, hc⟩ := RdT.at HRW.out HN.out i hi
  obtain ⟨s, hs⟩ : ∃ s, l.getD i e0 = s := ⟨_, rfl⟩
  rw [hs] at hc
  have HS := Lib.hid hs
  clear hs
  have d4 : decide ((i : Int) < 0) = false := nb (by omega)
  have d5 : decide ((N : Int) ≤ (i : Int)) = false := nb (by omega)
  have d5' : decide (N ≤ i) = false := nb (by omega)
  have i1 : (0 : Int) ≤ (i : Int) := by omega
  have i2 : (i : Int) < (N : Int) := by omega
  have hwk : IntKind.i64.wrap (i : Int) = (i : Int) := IntWalk.i64_in _ (by omega)
  rw [HS.out]
  by_cases c1 : 0 ≤ j
  · have q1 : decide (j < 0) = false := nb (by omega)
    rw [decide_eq_true c1, Bool.true_and]
    by_cases c2 : j < (s.size : Int)
    · have q2 : decide ((s.size : Int) ≤ j) = false := nb (by omega)
      rw [decide_eq_true c2, Bool.true_and]
      by_cases c3 : 1 ≤ b
      · have q3 : decide (b < 1) = false := nb (by omega)
        rw [decide_eq_true c3, Bool.true_and]
        by_cases c4 : b ≤ 255
        · have q4 : decide (255 < b) = false := nb (by omega)
          rw [decide_eq_true c4]
          obtain ⟨jn, rfl⟩ : ∃ jn : Nat, j = jn := ⟨j.toNat, by omega⟩
          rw [Int.toNat_natCast]
          have q2' : decide (s.size ≤ jn) = false := nb (by omega)
          have j1 : (0 : Int) ≤ (jn : Int) := by omega
          have j2 : (jn : Int) < (s.size : Int) := by omega
          have hwj : IntKind.i64.wrap (jn : Int) = (jn : Int) := IntWalk.i64_in _ (by have := HSZ.out i (by rw [HN.out]; exact hi); rw [HS.out] at this; omega)
          have HSC := Lib.hid (fun cap => spoil_cells s jn b cap (by omega) c3 c4)
          have hwb : IntKind.u8.wrap b = b := by
            have : IntKind.u8.wrap b = b % 256 := by simp [IntKind.wrap, IntKind.bits, IntKind.signed]
            omega
          have HGX := Lib.hid (fun cap => bytesRow_get s cap jn (by omega))
          obtain ⟨x, hx⟩ : ∃ x : UInt8, s.data.getD jn 0 = x := ⟨_, rfl⟩
          rw [hx] at HSC HGX
          clear c1 c2 c3 c4 hx
          have hcv : ∀ w1 : World, (convert 9 61 (.string s)).run Tryd.prog w1 = .ok (.slice (some ⟨w1.heap.size, 0, none⟩) s.size (grownCap w1 s.size 0 5))
              (w1.drew.alloc (.cells (bytesRow s (grownCap w1 s.size 0 5)) 5 ((bytesRow s (grownCap w1 s.size 0 5)).size, (bytesRow s (grownCap w1 s.size 0 5)).size + 1))) := fun w1 => run_bytes_of_string w1 9 61 5 s (by kernel_rfl) (by kernel_rfl) (by kernel_rfl)
          go_enter Tryd.func21, Tryd.ntmps21
          go_upto_region 1 with fail
          rw [← hW]
          clear hW
          go_wp2_with fail
          refine (rcheck_is _ l HZ.out 0 n HEN.out _ HRW.out).mono ?_
          rintro x w1 ⟨rfl, rfl⟩
          go_wp2_with fail
          refine (rown_any _ l (by rw [HN.out]; omega) _ HRW.out).mono ?_
          rintro x w2 ⟨a, c, rfl, hown, hb⟩
          rw [HN.out] at hown ⊢
          have tW0 := t0
          have tW1 := t1
          have tW2 := t2
          have tW3 := t3
          have t0 := cell_later hb t0
          have t1 := cell_later hb t1
          have t2 := cell_later hb t2
          have t3 := cell_later hb t3
          have hc := cell_later hb hc
          have HR3 := Lib.hid (HRW.out.keep hb)
          have hB2 := Below.next hB hb
          have HOWN := Lib.hid hown
          clear hown
          obtain ⟨g, rfl, hg0, hg1⟩ := own_addr HOWN.out (by omega)
          have c1 : ∃ s3, w2.cell? ⟨g, i, none⟩ = some (.string s3) := ⟨_, by rw [HOWN.out.cellAt i (by omega), tcs_get l i (by rw [HN.out]; exact hi)]⟩
          obtain ⟨s3, c1⟩ := c1
          have f1 : w2.frozen? ⟨g, i, none⟩ = false := HOWN.out.frozenAt i
          go_upto_region 25 with fail
          obtain ⟨cap, hcap⟩ : ∃ cap, grownCap w2 s.size 0 5 = cap := ⟨_, rfl⟩
          rw [hcap]
          have hgx := HGX.out cap
          obtain ⟨W1, hW1⟩ : ∃ W1 : World, W1 = (w2.alloc (.cells (bytesRow s cap) 5 ((bytesRow s cap).size, (bytesRow s cap).size + 1))).drew := ⟨_, rfl⟩
          have hB1 : Below w2.heap.size w2 W1 := by rw [hW1]; exact (Below.al (Below.refl _ w2) _).drew
          have hX1 : W1.heap[w2.heap.size]? = some (.cells (bytesRow s cap) 5 ((bytesRow s cap).size, (bytesRow s cap).size + 1)) := by rw [hW1]; exact World.alloc_heap_new w2 _
          rw [← hW1]
          clear hW1 hcv hcap
          have cX : W1.cell? ⟨w2.heap.size, jn, none⟩ = some (.int .u8 (x.toNat : Int)) := by simp only [World.cell?, hX1]; exact hgx
          have fX : W1.frozen? ⟨w2.heap.size, jn, none⟩ = false := by
            have := (Array.getElem?_eq_some_iff.1 hgx).1
            simp [World.frozen?, hX1]
            omega
          have hlt1 : w2.heap.size < W1.heap.size := (Array.getElem?_eq_some_iff.1 hX1).1
          have u1 := t1
          have t1 := cell_later hB1 t1
          have t2 := cell_later hB1 t2
          have t3 := cell_later hB1 t3
          clear hgx
          refine wp_region_calm (fun w' => Below W1.heap.size W1 w') 13 (by kernel_rfl) ((Below.refl _ W1).drew) ?_
          refine cm_run 0 126 (v := ?_) rfl rfl (by kernel_rfl) (by kernel_rfl) (by kernel_rfl) (by kernel_rfl) (by kernel_rfl) (fun _ _ _ h => h) (by rfl) ?_ ?_
          rotate_left
          · (intro wS hS; skip; go_simp; (try with_reducible rfl))
          simp only [List.setIfInBounds_toArray, List.set_cons_zero, List.set_cons_succ]
          refine cm_run 1 127 (v := ?_) rfl rfl (by kernel_rfl) (by kernel_rfl) (by kernel_rfl) (by kernel_rfl) (by kernel_rfl) (fun _ _ _ h => h) (by rfl) ?_ ?_
          rotate_left
          · (intro wS hS; skip; go_simp; (try with_reducible rfl))
          simp only [List.setIfInBounds_toArray, List.set_cons_zero, List.set_cons_succ]
          refine cm_run 2 128 (v := ?_) rfl rfl (by kernel_rfl) (by kernel_rfl) (by kernel_rfl) (by kernel_rfl) (by kernel_rfl) (fun _ _ _ h => h) (by rfl) ?_ ?_
          rotate_left
          · (intro wS hS; have g := cell_later hS t2; go_simp; (try with_reducible rfl))
          simp only [List.setIfInBounds_toArray, List.set_cons_zero, List.set_cons_succ]
          refine cm_run 3 129 (v := ?_) rfl rfl (by kernel_rfl) (by kernel_rfl) (by kernel_rfl) (by kernel_rfl) (by kernel_rfl) (fun _ _ _ h => h) (by rfl) ?_ ?_
          rotate_left
          · (intro wS hS; skip; go_simp; (try with_reducible rfl))
          simp only [List.setIfInBounds_toArray, List.set_cons_zero, List.set_cons_succ]
          refine cm_run 4 130 (v := ?_) rfl rfl (by kernel_rfl) (by kernel_rfl) (by kernel_rfl) (by kernel_rfl) (by kernel_rfl) (fun _ _ _ h => h) (by rfl) ?_ ?_
          rotate_left
          · (intro wS hS; skip; go_simp; (try with_reducible rfl))
          simp only [List.setIfInBounds_toArray, List.set_cons_zero, List.set_cons_succ]
          refine cm_run 5 131 (v := ?_) rfl rfl (by kernel_rfl) (by kernel_rfl) (by kernel_rfl) (by kernel_rfl) (by kernel_rfl) (fun _ _ _ h => h) (by rfl) ?_ ?_
          rotate_left
          · (intro wS hS; have g := cell_later hS t2; go_simp; (try with_reducible rfl))
          simp only [List.setIfInBounds_toArray, List.set_cons_zero, List.set_cons_succ]
          refine cm_run 6 132 (v := ?_) rfl rfl (by kernel_rfl) (by kernel_rfl) (by kernel_rfl) (by kernel_rfl) (by kernel_rfl) (fun _ _ _ h => h) (by rfl) ?_ ?_
          rotate_left
          · (intro wS hS; skip; go_simp; (try with_reducible rfl))
          simp only [List.setIfInBounds_toArray, List.set_cons_zero, List.set_cons_succ]
          refine cm_run 7 133 (v := ?_) rfl rfl (by kernel_rfl) (by kernel_rfl) (by kernel_rfl) (by kernel_rfl) (by kernel_rfl) (fun _ _ _ h => h) (by rfl) ?_ ?_
          rotate_left
          · (intro wS hS; have g := cell_later hS cX; go_simp; (try with_reducible rfl))
          simp only [List.setIfInBounds_toArray, List.set_cons_zero, List.set_cons_succ]
          refine cm_run 8 134 (v := ?_) rfl rfl (by kernel_rfl) (by kernel_rfl) (by kernel_rfl) (by kernel_rfl) (by kernel_rfl) (fun _ _ _ h => h) (by rfl) ?_ ?_
          rotate_left
          · (intro wS hS; skip; go_simp; (try with_reducible rfl))
          simp only [List.setIfInBounds_toArray, List.set_cons_zero, List.set_cons_succ]
          refine cm_run 9 135 (v := ?_) rfl rfl (by kernel_rfl) (by kernel_rfl) (by kernel_rfl) (by kernel_rfl) (by kernel_rfl) (fun _ _ _ h => h) (by rfl) ?_ ?_
          rotate_left
          · (intro wS hS; have g := cell_later hS t3; go_simp; (try with_reducible rfl))
          simp only [List.setIfInBounds_toArray, List.set_cons_zero, List.set_cons_succ]
          refine cm_run 10 136 (v := ?_) rfl rfl (by kernel_rfl) (by kernel_rfl) (by kernel_rfl) (by kernel_rfl) (by kernel_rfl) (fun _ _ _ h => h) (by rfl) ?_ ?_
          rotate_left
          · (intro wS hS; skip; go_simp; (try with_reducible rfl))
          simp only [List.setIfInBounds_toArray, List.set_cons_zero, List.set_cons_succ]
          refine cm_run 11 137 (v := ?_) rfl rfl (by kernel_rfl) (by kernel_rfl) (by kernel_rfl) (by kernel_rfl) (by kernel_rfl) (fun _ _ _ h => h) (by rfl) ?_ ?_
          rotate_left
          · (intro wS hS; skip; go_simp; (try with_reducible rfl))
          simp only [List.setIfInBounds_toArray, List.set_cons_zero, List.set_cons_succ]
          refine cm_run 12 138 (v := ?_) rfl rfl (by kernel_rfl) (by kernel_rfl) (by kernel_rfl) (by kernel_rfl) (by kernel_rfl) (fun _ _ _ h => h) (by rfl) ?_ ?_
          rotate_left
          · (intro wS hS; skip; go_simp; (try with_reducible rfl))
          simp only [List.setIfInBounds_toArray, List.set_cons_zero, List.set_cons_succ]
          refine cm_tail 13 rfl (by kernel_rfl) (by kernel_rfl) (by kernel_rfl) (by rfl) ?_
          intro wS hS K hK
          have gx := cell_later hS cX; have fx := fz_later hS hlt1 fX
          go_simp
          refine hK _ _ ?_
          clear hK K
          refine NoPanic.normal ?_
          have hXS : wS.heap[w2.heap.size]? = some (.cells (bytesRow s cap) 5 ((bytesRow s cap).size, (bytesRow s cap).size + 1)) := (hS.block _ hlt1).trans hX1
          obtain ⟨W4, hW4⟩ : ∃ W4 : World, W4 = wS.setCell ⟨w2.heap.size, jn, none⟩ (.int .u8 (bits .xor .u8 (x.toNat : Int) b)) := ⟨_, rfl⟩
          have hX4 : W4.heap[w2.heap.size]? = some (.cells ((bytesRow s cap).setIfInBounds jn (.int .u8 (bits .xor .u8 (x.toNat : Int) b))) 5 ((bytesRow s cap).size, (bytesRow s cap).size + 1)) := by
            rw [hW4]; simp [World.setCell, Array.getElem?_modify, hXS]
          have hB4 : Below w2.heap.size w2 W4 := by rw [hW4]; exact (hB1.trans (hS.mono (by omega))).setCell (p := ⟨w2.heap.size, jn, none⟩) (Nat.le_refl _) _
          rw [← hW4]
          clear hW4 hXS gx fx hS cX fX t1 t2 t3 t0 hX1 hc
          have hbk : (convert 61 9 (.slice (some ⟨w2.heap.size, 0, none⟩) s.size cap)).run Tryd.prog W4 = .ok (.string (spoilS s jn b)) W4 := by
            have h1 := run_convert_bytes_back (P := Tryd.prog) W4 61 9 5 ⟨w2.heap.size, 0, none⟩ cap (spoilS s jn b).data.toList (by kernel_rfl) (by kernel_rfl) (by kernel_rfl) (fun i hi => by
              have := HSC.out cap i hi
              have ha : (⟨w2.heap.size, 0, none⟩ : Addr).add i = ⟨w2.heap.size, i, none⟩ := by unfold Addr.add; split <;> simp_all
              rw [ha]
              simp only [World.cell?, hX4]
              exact this)
            rw [show (spoilS s jn b).data.toList.length = s.size by rw [Array.length_toList]; exact spoilS_size s jn b] at h1
            rw [h1]
          have c4 := cell_later hB4 c1
          have f4 := fz_later hB4 hg1 f1
          have t4 := cell_later hB4 u1
          have hOS := own_set HN.out (own_below HOWN.out hB4) i (spoilS s jn b)
          have hBS := (hb.trans (hB4.mono hb.size)).setCell (p := ⟨g, i, none⟩) hg0 (.string (spoilS s jn b))
          have HOS := Lib.hid hOS
          clear hOS hX4 HSC hlt1 c1 f1 u1 HGX
          go_upto_region 31 with fail
          obtain ⟨WD, hWD⟩ : ∃ WD : World, WD = W4.setCell ⟨g, i, none⟩ (.string (spoilS s jn b)) := ⟨_, rfl⟩
          rw [← hWD] at HOS hBS ⊢
          clear hWD hbk c4 f4 t4
          have t0 := cell_later hBS tW0
          have t1 := cell_later hBS tW1
          have t2 := cell_later hBS tW2
          have t3 := cell_later hBS tW3
          have HRD : Hid (RdT WD (.slice (some ⟨g, 0, none⟩) N c) (l.set i (spoilS s jn b))) := by unfold Hid RdT; rw [List.length_set, HN.out]; exact RdS.of_owns HOS.out (by decide)
          have HFR : Hid (Fresh w.heap.size (.slice (some ⟨g, 0, none⟩) N c)) := fun a n c e => by cases e; have h1 := hB.size; have h2 := hg0; show w.heap.size ≤ g; omega
          have hB5 := Below.next hB hBS
          clear hBS
          go_wp2_with fail
          refine (unused_any ⟨4, (i : Int), (jn : Int), b⟩ _).mono ?_
          rw [HF.out]
          rintro x w4 ⟨rfl, hb4⟩
          have HRD2 := Lib.hid (HRD.out.keep hb4)
          have hB6 := Below.next hB5 hb4
          clear hb4
          go_wp2_with fail
          go_ret2
          exact ⟨_, rfl, HRD2.out, HFR.out, hB6⟩
        · have q4 : decide (255 < b) = true := yb (by omega)
          rw [decide_eq_false c4]
          clear c1 c2 c3 c4
          go_enter Tryd.func21, Tryd.ntmps21
          go_upto_region 1 with fail
          rw [← hW]
          clear hW
          go_wp2_with fail
          refine (rcheck_is _ l HZ.out 0 n HEN.out _ HRW.out).mono ?_
          rintro x w1 ⟨rfl, rfl⟩
          go_wp2_with fail
          refine (rown_any _ l (by rw [HN.out]; omega) _ HRW.out).mono ?_
          rintro x w2 ⟨a, c, rfl, hown, hb⟩
          rw [HN.out] at hown ⊢
          have tW0 := t0
          have tW1 := t1
          have tW2 := t2
          have tW3 := t3
          have t0 := cell_later hb t0
          have t1 := cell_later hb t1
          have t2 := cell_later hb t2
          have t3 := cell_later hb t3
          have hc := cell_later hb hc
          have HR3 := Lib.hid (HRW.out.keep hb)
          have hB2 := Below.next hB hb
          have HOWN := Lib.hid hown
          clear hown
          go_wp2_with fail
          go_ret2
          exact ⟨_, rfl, RdT.nil _, Fresh.nil _ _ _, hB2⟩
      · have q3 : decide (b < 1) = true := yb (by omega)
        rw [decide_eq_false c3, Bool.false_and]
        clear c1 c2 c3
        go_enter Tryd.func21, Tryd.ntmps21
        go_upto_region 1 with fail
        rw [← hW]
        clear hW
        go_wp2_with fail
        refine (rcheck_is _ l HZ.out 0 n HEN.out _ HRW.out).mono ?_
        rintro x w1 ⟨rfl, rfl⟩
        go_wp2_with fail
        refine (rown_any _ l (by rw [HN.out]; omega) _ HRW.out).mono ?_
        rintro x w2 ⟨a, c, rfl, hown, hb⟩
        rw [HN.out] at hown ⊢
        have tW0 := t0
        have tW1 := t1
        have tW2 := t2
        have tW3 := t3
        have t0 := cell_later hb t0
        have t1 := cell_later hb t1
        have t2 := cell_later hb t2
        have t3 := cell_later hb t3
        have hc := cell_later hb hc
        have HR3 := Lib.hid (HRW.out.keep hb)
        have hB2 := Below.next hB hb
        have HOWN := Lib.hid hown
        clear hown
        go_wp2_with fail
        go_ret2
        exact ⟨_, rfl, RdT.nil _, Fresh.nil _ _ _, hB2⟩
    · have q2 : decide ((s.size : Int) ≤ j) = true := yb (by omega)
      rw [decide_eq_false c2, Bool.false_and, Bool.false_and]
      clear c1 c2
      go_enter Tryd.func21, Tryd.ntmps21
      go_upto_region 1 with fail
      rw [← hW]
      clear hW
      go_wp2_with fail
      refine (rcheck_is _ l HZ.out 0 n HEN.out _ HRW.out).mono ?_
      rintro x w1 ⟨rfl, rfl⟩
      go_wp2_with fail
      refine (rown_any _ l (by rw [HN.out]; omega) _ HRW.out).mono ?_
      rintro x w2 ⟨a, c, rfl, hown, hb⟩
      rw [HN.out] at hown ⊢
      have tW0 := t0
      have tW1 := t1
      have tW2 := t2
      have tW3 := t3
      have t0 := cell_later hb t0
      have t1 := cell_later hb t1
      have t2 := cell_later hb t2
      have t3 := cell_later hb t3
      have hc := cell_later hb hc
      have HR3 := Lib.hid (HRW.out.keep hb)
      have hB2 := Below.next hB hb
      have HOWN := Lib.hid hown
      clear hown
      go_wp2_with fail
      go_ret2
      exact ⟨_, rfl, RdT.nil _, Fresh.nil _ _ _, hB2⟩
  · have q1 : decide (j < 0) = true := yb (by omega)
    rw [decide_eq_false c1, Bool.false_and, Bool.false_and, Bool.false_and]
    clear c1
    go_enter Tryd.func21, Tryd.ntmps21
    go_upto_region 1 with fail
    rw [← hW]
    clear hW
    go_wp2_with fail
    refine (rcheck_is _ l HZ.out 0 n HEN.out _ HRW.out).mono ?_
    rintro x w1 ⟨rfl, rfl⟩
    go_wp2_with fail
    refine (rown_any _ l (by rw [HN.out]; omega) _ HRW.out).mono ?_
    rintro x w2 ⟨a, c, rfl, hown, hb⟩
    rw [HN.out] at hown ⊢
    have tW0 := t0
    have tW1 := t1
    have tW2 := t2
    have tW3 := t3
    have t0 := cell_later hb t0
    have t1 := cell_later hb t1
    have t2 := cell_later hb t2
    have t3 := cell_later hb t3
    have hc := cell_later hb hc
    have HR3 := Lib.hid (HRW.out.keep hb)
    have hB2 := Below.next hB hb
    have HOWN := Lib.hid hown
    clear hown
    go_wp2_with fail
    go_ret2
    exact ⟨_, rfl, RdT.nil _, Fresh.nil _ _ _, hB2⟩
end Go.Proofs.YtimkeafpefkheaaDoor
