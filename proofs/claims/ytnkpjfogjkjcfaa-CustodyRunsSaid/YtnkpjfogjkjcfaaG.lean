


/- Custody: which frames and worlds are valid, in both texts. -/
import Derived.Test.YtnkpjfogjkjcfaaD
import Derived.Test.YtnkpjfogjkjcfaaF
namespace Go.Proofs.Ytnkpjfogjkjcfaa
open Go.RowKit
set_option linter.unusedSimpArgs false
set_option linter.unusedVariables false
set_option maxRecDepth 100000

set_option maxHeartbeats 1000000 in
theorem frameOK_any (w : World) (p T : Nat) (cv fv : Value) (q : List Cq) (X : Wd) (f : Ps) (h : BW w p T cv fv q X) : Calls Try.prog 48 #[ptr p, f.v] w fun e w' => e = .returned (.bool (decide (frmOK X f))) ∧ Below w.heap.size w w' := by
  obtain ⟨r, hr⟩ : ∃ r, decide (frmOK X f) = r := ⟨_, rfl⟩
  rw [hr]
  obtain ⟨W, hW⟩ : ∃ W : World, W = w.alloc (.cells #[.int .i64 f.kd, .int .i64 f.fr, .int .i64 f.tt, .int .i64 f.of] 47) := ⟨_, rfl⟩
  have hB0 : Below w.heap.size w W := by rw [hW]; exact (by repeat (first | assumption | exact Below.refl _ _ | apply Below.al | apply below_drewN | apply Below.drew | refine Below.next ?_ (by assumption)))
  have bI : BoxN W w.heap.size 47 #[.int .i64 f.kd, .int .i64 f.fr, .int .i64 f.tt, .int .i64 f.of] := by rw [hW]; exact BoxN.new _ _ _
  have i0 : W.cell? ⟨w.heap.size, 0, none⟩ = some (.int .i64 f.kd) := bI.cell 0
  have i1 : W.cell? ⟨w.heap.size, 1, none⟩ = some (.int .i64 f.fr) := bI.cell 1
  have i2 : W.cell? ⟨w.heap.size, 2, none⟩ = some (.int .i64 f.tt) := bI.cell 2
  have i3 : W.cell? ⟨w.heap.size, 3, none⟩ = some (.int .i64 f.of) := bI.cell 3
  have hh := h.keep hB0
  clear bI
  by_cases kd : f.kd = 3
  · have d1 : (f.kd == 3) = true := by simp [kd]
    have hi := is_any W p T cv fv q X f.tt hh
    by_cases k1 : isN X f.tt
    · rw [yb k1] at hi
      have HI := Lib.hid hi
      have htg := tag_any W p T cv fv q X ⟨f.fr, f.of⟩ f.tt hh
      by_cases k2 : tagOK X ⟨f.fr, f.of⟩ f.tt
      · obtain rfl : r = true := by rw [← hr]; exact yb (by unfold frmOK; skip; first | exact Or.inl ⟨kd, k1, k2⟩ | exact Or.inr ⟨kd, k1, k2⟩)
        rw [yb k2] at htg
        have HT := Lib.hid htg
        clear hr k1 k2 kd htg hi hh h
        go_enter Try.func48, Try.ntmps48
        go_upto_region 1 with fail
        rw [← hW]
        clear hW
        go_wp2_with fail
        refine HI.out.mono ?_
        rintro e w1 ⟨rfl, rfl⟩
        go_wp2_with fail
        refine HT.out.mono ?_
        rintro e w2 ⟨rfl, hb⟩
        have hB := Below.next hB0 hb
        go_wp2_with fail
        go_ret
        exact ⟨rfl, hB⟩
      · obtain rfl : r = false := by rw [← hr]; exact nb (by unfold frmOK; skip; rintro (⟨m1, m2, m3⟩ | ⟨m1, m2, m3⟩) <;> first | exact k2 m3 | (exfalso; omega))
        rw [nb k2] at htg
        have HT := Lib.hid htg
        clear hr k1 k2 kd htg hi hh h
        go_enter Try.func48, Try.ntmps48
        go_upto_region 1 with fail
        rw [← hW]
        clear hW
        go_wp2_with fail
        refine HI.out.mono ?_
        rintro e w1 ⟨rfl, rfl⟩
        go_wp2_with fail
        refine HT.out.mono ?_
        rintro e w2 ⟨rfl, hb⟩
        have hB := Below.next hB0 hb
        go_wp2_with fail
        go_ret
        exact ⟨rfl, hB⟩
    · obtain rfl : r = false := by rw [← hr]; exact nb (by unfold frmOK; skip; rintro (⟨m1, m2, m3⟩ | ⟨m1, m2, m3⟩) <;> first | exact k1 m2 | (exfalso; omega))
      rw [nb k1] at hi
      have HI := Lib.hid hi
      clear hr k1 kd hi hh h
      go_enter Try.func48, Try.ntmps48
      go_upto_region 1 with fail
      rw [← hW]
      clear hW
      go_wp2_with fail
      refine HI.out.mono ?_
      rintro e w1 ⟨rfl, rfl⟩
      have hB := hB0
      go_wp2_with fail
      go_ret
      exact ⟨rfl, hB⟩
  · have d1 : (f.kd == 3) = false := by simp [kd]
    by_cases k5 : f.kd = 5
    · have d2 : (f.kd == 5) = true := by simp [k5]
      have kd : f.kd = 5 ∨ f.kd = 6 := .inl k5
      clear k5
      have hi := is_any W p T cv fv q X f.fr hh
      by_cases k1 : isN X f.fr
      · rw [yb k1] at hi
        have HI := Lib.hid hi
        have htg := tag_any W p T cv fv q X ⟨f.tt, f.of⟩ f.fr hh
        by_cases k2 : tagOK X ⟨f.tt, f.of⟩ f.fr
        · obtain rfl : r = true := by rw [← hr]; exact yb (by unfold frmOK; skip; first | exact Or.inl ⟨kd, k1, k2⟩ | exact Or.inr ⟨kd, k1, k2⟩)
          rw [yb k2] at htg
          have HT := Lib.hid htg
          clear hr k1 k2 kd htg hi hh h
          go_enter Try.func48, Try.ntmps48
          go_upto_region 1 with fail
          rw [← hW]
          clear hW
          go_wp2_with fail
          refine HI.out.mono ?_
          rintro e w1 ⟨rfl, rfl⟩
          go_wp2_with fail
          refine HT.out.mono ?_
          rintro e w2 ⟨rfl, hb⟩
          have hB := Below.next hB0 hb
          go_wp2_with fail
          go_ret
          exact ⟨rfl, hB⟩
        · obtain rfl : r = false := by rw [← hr]; exact nb (by unfold frmOK; skip; rintro (⟨m1, m2, m3⟩ | ⟨m1, m2, m3⟩) <;> first | exact k2 m3 | (exfalso; omega))
          rw [nb k2] at htg
          have HT := Lib.hid htg
          clear hr k1 k2 kd htg hi hh h
          go_enter Try.func48, Try.ntmps48
          go_upto_region 1 with fail
          rw [← hW]
          clear hW
          go_wp2_with fail
          refine HI.out.mono ?_
          rintro e w1 ⟨rfl, rfl⟩
          go_wp2_with fail
          refine HT.out.mono ?_
          rintro e w2 ⟨rfl, hb⟩
          have hB := Below.next hB0 hb
          go_wp2_with fail
          go_ret
          exact ⟨rfl, hB⟩
      · obtain rfl : r = false := by rw [← hr]; exact nb (by unfold frmOK; skip; rintro (⟨m1, m2, m3⟩ | ⟨m1, m2, m3⟩) <;> first | exact k1 m2 | (exfalso; omega))
        rw [nb k1] at hi
        have HI := Lib.hid hi
        clear hr k1 kd hi hh h
        go_enter Try.func48, Try.ntmps48
        go_upto_region 1 with fail
        rw [← hW]
        clear hW
        go_wp2_with fail
        refine HI.out.mono ?_
        rintro e w1 ⟨rfl, rfl⟩
        have hB := hB0
        go_wp2_with fail
        go_ret
        exact ⟨rfl, hB⟩
    · have d2 : (f.kd == 5) = false := by simp [k5]
      by_cases k6 : f.kd = 6
      · have d3 : (f.kd == 6) = true := by simp [k6]
        have kd : f.kd = 5 ∨ f.kd = 6 := .inr k6
        clear k5 k6
        have hi := is_any W p T cv fv q X f.fr hh
        by_cases k1 : isN X f.fr
        · rw [yb k1] at hi
          have HI := Lib.hid hi
          have htg := tag_any W p T cv fv q X ⟨f.tt, f.of⟩ f.fr hh
          by_cases k2 : tagOK X ⟨f.tt, f.of⟩ f.fr
          · obtain rfl : r = true := by rw [← hr]; exact yb (by unfold frmOK; skip; first | exact Or.inl ⟨kd, k1, k2⟩ | exact Or.inr ⟨kd, k1, k2⟩)
            rw [yb k2] at htg
            have HT := Lib.hid htg
            clear hr k1 k2 kd htg hi hh h
            go_enter Try.func48, Try.ntmps48
            go_upto_region 1 with fail
            rw [← hW]
            clear hW
            go_wp2_with fail
            refine HI.out.mono ?_
            rintro e w1 ⟨rfl, rfl⟩
            go_wp2_with fail
            refine HT.out.mono ?_
            rintro e w2 ⟨rfl, hb⟩
            have hB := Below.next hB0 hb
            go_wp2_with fail
            go_ret
            exact ⟨rfl, hB⟩
          · obtain rfl : r = false := by rw [← hr]; exact nb (by unfold frmOK; skip; rintro (⟨m1, m2, m3⟩ | ⟨m1, m2, m3⟩) <;> first | exact k2 m3 | (exfalso; omega))
            rw [nb k2] at htg
            have HT := Lib.hid htg
            clear hr k1 k2 kd htg hi hh h
            go_enter Try.func48, Try.ntmps48
            go_upto_region 1 with fail
            rw [← hW]
            clear hW
            go_wp2_with fail
            refine HI.out.mono ?_
            rintro e w1 ⟨rfl, rfl⟩
            go_wp2_with fail
            refine HT.out.mono ?_
            rintro e w2 ⟨rfl, hb⟩
            have hB := Below.next hB0 hb
            go_wp2_with fail
            go_ret
            exact ⟨rfl, hB⟩
        · obtain rfl : r = false := by rw [← hr]; exact nb (by unfold frmOK; skip; rintro (⟨m1, m2, m3⟩ | ⟨m1, m2, m3⟩) <;> first | exact k1 m2 | (exfalso; omega))
          rw [nb k1] at hi
          have HI := Lib.hid hi
          clear hr k1 kd hi hh h
          go_enter Try.func48, Try.ntmps48
          go_upto_region 1 with fail
          rw [← hW]
          clear hW
          go_wp2_with fail
          refine HI.out.mono ?_
          rintro e w1 ⟨rfl, rfl⟩
          have hB := hB0
          go_wp2_with fail
          go_ret
          exact ⟨rfl, hB⟩
      · have d3 : (f.kd == 6) = false := by simp [k6]
        obtain rfl : r = false := by rw [← hr]; exact nb (by unfold frmOK; omega)
        clear hr kd k5 k6 hh h
        have hB := hB0
        go_enter Try.func48, Try.ntmps48
        go_upto_region 1 with fail
        rw [← hW]
        clear hW
        go_wp2_with fail
        go_ret
        exact ⟨rfl, hB⟩
def badW (X : Wd) (N F : Nat) : Prop := N < 2 ∨ 16 < N ∨ ¬ isN X X.ds ∨ 64 < F
instance (X : Wd) (N F : Nat) : Decidable (badW X N F) := by unfold badW; infer_instance
theorem okw_seq (X : Wd) : Okw X ↔ ¬ badW X X.cs.length X.fr.length ∧ (∀ i, i < X.cs.length → copOK X ((i : Int) + 1) (gc X.cs i)) ∧ (∀ j, j < X.fr.length → frmOK X (gp X.fr j)) := by
  unfold Okw badW
  have a1 : (∀ f, f ∈ X.fr → frmOK X f) ↔ ∀ j, j < X.fr.length → frmOK X (gp X.fr j) := by
    constructor
    · exact fun h j hj => h _ (gp_mem hj)
    · intro h f hf
      obtain ⟨j, hj, rfl⟩ := List.getElem_of_mem hf
      have := h j hj
      unfold gp at this
      rwa [List.getD_eq_getElem?_getD, List.getElem?_eq_getElem hj] at this
  rw [a1]
  constructor
  · rintro ⟨h1, h2, h3, h4, h5, h6⟩
    refine ⟨?_, h5, h6⟩
    rintro (h | h | h | h)
    · omega
    · omega
    · exact h h3
    · omega
  · rintro ⟨h1, h5, h6⟩
    exact ⟨by omega, by omega, Classical.not_not.1 (fun m => h1 (.inr (.inr (.inl m)))), by omega, h5, h6⟩
def chkE (X : Wd) : Int := if Okw X then 0 else 3
set_option maxHeartbeats 4000000 in
theorem check_any (w : World) (v : Value) (X : Wd) (er : Int) (her : chkE X = er) (h : RdW w v X) : Calls Try.prog 29 #[v] w fun e w' => e = .returned (.int .i64 er) ∧ Below w.heap.size w w' := by
  obtain ⟨cv, fv, q, rfl, hp⟩ := h
  obtain ⟨a, c, rfl⟩ := hp.rows.form
  obtain ⟨fa, fc, rfl⟩ := hp.frs.form
  have hl := hp.len
  have hmx := hp.rows.2.1
  have hmf := hp.frs.2.1
  unfold maxLen at hmx hmf
  obtain ⟨N, hN⟩ : ∃ N, X.cs.length = N := ⟨_, rfl⟩
  obtain ⟨F, hF⟩ : ∃ F, X.fr.length = F := ⟨_, rfl⟩
  rw [hl, hN] at hp hmx ⊢
  rw [hF] at hp hmf ⊢
  have hs := okw_seq X
  rw [hN, hF] at hs
  have HSQ := Lib.hid hs
  have HR := Lib.hid her
  have HN := Lib.hid hN
  have HF := Lib.hid hF
  clear hs her hN hF hl
  obtain ⟨W, hW⟩ : ∃ W : World, W = (w.alloc (.cells #[.int .i64 X.ds, .slice a N c, .slice fa F fc] 25)).alloc (.cells #[.int .i64 X.ds, .slice a N c, .slice fa F fc] 66) := ⟨_, rfl⟩
  have hB : Below w.heap.size w W := by rw [hW]; exact (by repeat (first | assumption | exact Below.refl _ _ | apply Below.al | apply below_drewN | apply Below.drew | refine Below.next ?_ (by assumption)))
  have e0 : BoxN W w.heap.size 25 #[.int .i64 X.ds, .slice a N c, .slice fa F fc] := by rw [hW]; exact (BoxN.new w _ _).below (by repeat (first | assumption | exact Below.refl _ _ | apply Below.al | apply below_drewN | apply Below.drew | refine Below.next ?_ (by assumption)))
  have e1 : BoxN W (w.heap.size + 1) 66 #[.int .i64 X.ds, .slice a N c, .slice fa F fc] := by
    rw [hW]
    have := BoxN.new (w.alloc (.cells #[.int .i64 X.ds, .slice a N c, .slice fa F fc] 25)) 66 #[.int .i64 X.ds, .slice a N c, .slice fa F fc]
    simpa using this
  have HH : Hid (BW W (w.heap.size + 1) 66 (.slice a N c) (.slice fa F fc) q X) := Lib.hid ⟨e1, hp.keep hB⟩
  have c0 : W.cell? ⟨w.heap.size, 0, none⟩ = some (.int .i64 X.ds) := e0.cell 0
  have c1 : W.cell? ⟨w.heap.size, 1, none⟩ = some (.slice a N c) := e0.cell 1
  have c2 : W.cell? ⟨w.heap.size, 2, none⟩ = some (.slice fa F fc) := e0.cell 2
  clear e0 e1 hp
  go_enter Try.func29, Try.ntmps29
  go_upto_region 2 with fail
  rw [← hW]
  clear hW
  obtain ⟨ww, rfl⟩ : ∃ ww, ww = W := ⟨_, rfl⟩
  go_cut [32] (fun c wx => c = .bool (decide (badW X N F)) ∧ Below ww.heap.size ww wx)
  case first =>
   as_aux_lemma =>
    clear HR HSQ
    obtain ⟨x3, hx3⟩ : ∃ b, (decide ((N : Int) < 2)) = b := ⟨_, rfl⟩
    obtain ⟨x8, hx8⟩ : ∃ b, (decide (16 < (N : Int))) = b := ⟨_, rfl⟩
    obtain ⟨x14, hx14⟩ : ∃ b, (decide (isN X X.ds)) = b := ⟨_, rfl⟩
    obtain ⟨x21, hx21⟩ : ∃ b, (decide (64 < (F : Int))) = b := ⟨_, rfl⟩
    refine wp_region_symL (fun w' => Below ww.heap.size ww w') (Below.refl _ ww) ?_
    refine q_run1 10 1 (v := ?_) rfl rfl rfl ?_ ?_
    rotate_left
    · (intro A hA wS hS; skip; go_simp; (try with_reducible rfl))
    dsimp only [putT, List.toList_toArray, List.set_cons_zero, List.set_cons_succ]
    refine q_run1 11 10 (v := ?_) rfl rfl rfl ?_ ?_
    rotate_left
    · (intro A hA wS hS; (have f0 := cell_later hS c0; have f1 := cell_later hS c1; have f2 := cell_later hS c2); go_simp; (try with_reducible rfl))
    dsimp only [putT, List.toList_toArray, List.set_cons_zero, List.set_cons_succ]
    refine q_run1 12 11 (v := ?_) rfl rfl rfl ?_ ?_
    rotate_left
    · (intro A hA wS hS; skip; go_simp; (try with_reducible rfl))
    dsimp only [putT, List.toList_toArray, List.set_cons_zero, List.set_cons_succ]
    refine q_run1 13 12 (v := ?_) rfl rfl rfl ?_ ?_
    rotate_left
    · (intro A hA wS hS; skip; go_simp; (try with_reducible rfl))
    dsimp only [putT, List.toList_toArray, List.set_cons_zero, List.set_cons_succ]
    refine q_move 14 13 rfl (by first | exact Or.inl rfl | exact Or.inr rfl) rfl rfl ?_
    dsimp only [putT, List.toList_toArray, List.set_cons_zero, List.set_cons_succ]
    refine q_if1 15 1 (g := (!x3)) (v := ?_) rfl rfl (by exact (want_at rfl rfl rfl).trans (wb_f x3)) ?_ ?_
    rotate_left
    · (intro hg A hA wS hS; (try rw [hg, sel_true] at hA); (try simp only [Bool.and_eq_true, Bool.not_eq_true', Bool.or_eq_false_iff] at hg); skip; go_simp; (try with_reducible rfl))
    dsimp only [putT, List.toList_toArray, List.set_cons_zero, List.set_cons_succ]
    refine q_if1 16 15 (g := (!x3)) (v := ?_) rfl rfl (by exact (want_at rfl rfl rfl).trans (wb_f x3)) ?_ ?_
    rotate_left
    · (intro hg A hA wS hS; (try rw [hg, sel_true] at hA); (try simp only [Bool.and_eq_true, Bool.not_eq_true', Bool.or_eq_false_iff] at hg); (have f0 := cell_later hS c0; have f1 := cell_later hS c1; have f2 := cell_later hS c2); go_simp; (try with_reducible rfl))
    dsimp only [putT, List.toList_toArray, List.set_cons_zero, List.set_cons_succ]
    refine q_if1 17 16 (g := (!x3)) (v := ?_) rfl rfl (by exact (want_at rfl rfl rfl).trans (wb_f x3)) ?_ ?_
    rotate_left
    · (intro hg A hA wS hS; (try rw [hg, sel_true] at hA); (try simp only [Bool.and_eq_true, Bool.not_eq_true', Bool.or_eq_false_iff] at hg); skip; go_simp; (try with_reducible rfl))
    dsimp only [putT, List.toList_toArray, List.set_cons_zero, List.set_cons_succ]
    refine q_if1 18 17 (g := (!x3)) (v := ?_) rfl rfl (by exact (want_at rfl rfl rfl).trans (wb_f x3)) ?_ ?_
    rotate_left
    · (intro hg A hA wS hS; (try rw [hg, sel_true] at hA); (try simp only [Bool.and_eq_true, Bool.not_eq_true', Bool.or_eq_false_iff] at hg); skip; go_simp; (try with_reducible rfl))
    dsimp only [putT, List.toList_toArray, List.set_cons_zero, List.set_cons_succ]
    refine q_pick 19 14 18 (v := .bool (x3 || x8)) rfl rfl rfl rfl rfl (pk_or x3 x8) ?_
    dsimp only [putT, List.toList_toArray, List.set_cons_zero, List.set_cons_succ]
    refine q_move 20 19 rfl (by first | exact Or.inl rfl | exact Or.inr rfl) rfl rfl ?_
    dsimp only [putT, List.toList_toArray, List.set_cons_zero, List.set_cons_succ]
    refine q_moveg 21 3 (g := (!(x3 || x8))) rfl rfl (by exact (want_at rfl rfl rfl).trans (wb_f (x3 || x8))) (by first | exact Or.inr rfl | exact Or.inl rfl) ?_
    dsimp only [putT, List.toList_toArray, List.set_cons_zero, List.set_cons_succ]
    refine q_if1 22 1 (g := (!(x3 || x8))) (v := ?_) rfl rfl (by exact (want_at rfl rfl rfl).trans (wb_f (x3 || x8))) ?_ ?_
    rotate_left
    · (intro hg A hA wS hS; (try rw [hg, sel_true] at hA); (try simp only [Bool.and_eq_true, Bool.not_eq_true', Bool.or_eq_false_iff] at hg); skip; go_simp; (try with_reducible rfl))
    dsimp only [putT, List.toList_toArray, List.set_cons_zero, List.set_cons_succ]
    refine q_if1 23 22 (g := (!(x3 || x8))) (v := ?_) rfl rfl (by exact (want_at rfl rfl rfl).trans (wb_f (x3 || x8))) ?_ ?_
    rotate_left
    · (intro hg A hA wS hS; (try rw [hg, sel_true] at hA); (try simp only [Bool.and_eq_true, Bool.not_eq_true', Bool.or_eq_false_iff] at hg); (have f0 := cell_later hS c0; have f1 := cell_later hS c1; have f2 := cell_later hS c2); go_simp; (try with_reducible rfl))
    dsimp only [putT, List.toList_toArray, List.set_cons_zero, List.set_cons_succ]
    refine q_callif 24 46 (g := (!(x3 || x8))) (v := .bool x14) (args := ?_) rfl (by exact (want_at rfl rfl rfl).trans (wb_f (x3 || x8))) ?_ ?_ ?_
    rotate_left 1
    · (intro hg wS hS; (try simp only [hg, sel_true]); (try simp only [Bool.and_eq_true, Bool.not_eq_true', Bool.or_eq_false_iff] at hg); go_simp; (try with_reducible rfl))
    · (intro hg wS hS; (try simp only [Bool.and_eq_true, Bool.not_eq_true', Bool.or_eq_false_iff] at hg); refine (is_any _ (w.heap.size + 1) _ _ _ q X X.ds (HH.out.keep hS)).mono ?_; (rw [hx14]; rintro e w2 ⟨rfl, rfl⟩; exact ⟨rfl, hS⟩))
    dsimp only [putT, List.toList_toArray, List.set_cons_zero, List.set_cons_succ]
    refine q_if1 25 24 (g := (!(x3 || x8))) (v := ?_) rfl rfl (by exact (want_at rfl rfl rfl).trans (wb_f (x3 || x8))) ?_ ?_
    rotate_left
    · (intro hg A hA wS hS; (try rw [hg, sel_true] at hA); (try simp only [Bool.and_eq_true, Bool.not_eq_true', Bool.or_eq_false_iff] at hg); skip; go_simp; (try with_reducible rfl))
    dsimp only [putT, List.toList_toArray, List.set_cons_zero, List.set_cons_succ]
    refine q_pick 26 20 25 (v := .bool ((x3 || x8) || (!x14))) rfl rfl rfl rfl rfl (pk_or (x3 || x8) (!x14)) ?_
    dsimp only [putT, List.toList_toArray, List.set_cons_zero, List.set_cons_succ]
    refine q_move 27 26 rfl (by first | exact Or.inl rfl | exact Or.inr rfl) rfl rfl ?_
    dsimp only [putT, List.toList_toArray, List.set_cons_zero, List.set_cons_succ]
    refine q_if1 28 1 (g := (!((x3 || x8) || (!x14)))) (v := ?_) rfl rfl (by exact (want_at rfl rfl rfl).trans (wb_f ((x3 || x8) || (!x14)))) ?_ ?_
    rotate_left
    · (intro hg A hA wS hS; (try rw [hg, sel_true] at hA); (try simp only [Bool.and_eq_true, Bool.not_eq_true', Bool.or_eq_false_iff] at hg); skip; go_simp; (try with_reducible rfl))
    dsimp only [putT, List.toList_toArray, List.set_cons_zero, List.set_cons_succ]
    refine q_if1 29 28 (g := (!((x3 || x8) || (!x14)))) (v := ?_) rfl rfl (by exact (want_at rfl rfl rfl).trans (wb_f ((x3 || x8) || (!x14)))) ?_ ?_
    rotate_left
    · (intro hg A hA wS hS; (try rw [hg, sel_true] at hA); (try simp only [Bool.and_eq_true, Bool.not_eq_true', Bool.or_eq_false_iff] at hg); (have f0 := cell_later hS c0; have f1 := cell_later hS c1; have f2 := cell_later hS c2); go_simp; (try with_reducible rfl))
    dsimp only [putT, List.toList_toArray, List.set_cons_zero, List.set_cons_succ]
    refine q_if1 30 29 (g := (!((x3 || x8) || (!x14)))) (v := ?_) rfl rfl (by exact (want_at rfl rfl rfl).trans (wb_f ((x3 || x8) || (!x14)))) ?_ ?_
    rotate_left
    · (intro hg A hA wS hS; (try rw [hg, sel_true] at hA); (try simp only [Bool.and_eq_true, Bool.not_eq_true', Bool.or_eq_false_iff] at hg); skip; go_simp; (try with_reducible rfl))
    dsimp only [putT, List.toList_toArray, List.set_cons_zero, List.set_cons_succ]
    refine q_if1 31 30 (g := (!((x3 || x8) || (!x14)))) (v := ?_) rfl rfl (by exact (want_at rfl rfl rfl).trans (wb_f ((x3 || x8) || (!x14)))) ?_ ?_
    rotate_left
    · (intro hg A hA wS hS; (try rw [hg, sel_true] at hA); (try simp only [Bool.and_eq_true, Bool.not_eq_true', Bool.or_eq_false_iff] at hg); skip; go_simp; (try with_reducible rfl))
    dsimp only [putT, List.toList_toArray, List.set_cons_zero, List.set_cons_succ]
    refine q_pick 32 27 31 (v := .bool (((x3 || x8) || (!x14)) || x21)) rfl rfl rfl rfl rfl (pk_or ((x3 || x8) || (!x14)) x21) ?_
    dsimp only [putT, List.toList_toArray, List.set_cons_zero, List.set_cons_succ]
    refine wpQuiet_nil ?_
    intro wS hS
    go_wp2_with fail
    go_meet
    refine ⟨congrArg Value.bool ?_, hS⟩
    rw [← hx3, ← hx8, ← hx14, ← hx21]
    apply Bool.eq_iff_iff.2
    simp only [Bool.or_eq_true, Bool.and_eq_true, decide_eq_true_eq, beq_iff_eq, bne_iff_ne, Bool.not_eq_true', decide_eq_false_iff_not]
    unfold badW
    constructor
    · rintro (((h | h) | h) | h)
      · exact .inl (by omega)
      · exact .inr (.inl (by omega))
      · exact .inr (.inr (.inl h))
      · exact .inr (.inr (.inr (by omega)))
    · rintro (h | h | h | h)
      · exact .inl (.inl (.inl (by omega)))
      · exact .inl (.inl (.inr (by omega)))
      · exact .inl (.inr h)
      · exact .inr (by omega)
  case rest =>
  obtain ⟨hcc, hbx⟩ := hcut
  rename World => wx
  have HH := Lib.hid (HH.out.keep hbx)
  have c0 := cell_later hbx c0
  have c1 := cell_later hbx c1
  have c2 := cell_later hbx c2
  have hB := Below.next hB hbx
  clear hbx
  by_cases hbad : badW X N F
  · rw [yb hbad] at hcc
    subst hcc
    obtain rfl : er = 3 := by rw [← HR.out]; unfold chkE; exact if_neg (fun hg => (HSQ.out.1 hg).1 hbad)
    go_wp2_with fail
    go_ret
    exact ⟨rfl, hB⟩
  rw [nb hbad] at hcc
  subst hcc
  have hN16 : N ≤ 16 := by unfold badW at hbad; omega
  have HB1 := Lib.hid hbad
  clear hbad
  go_wp2_with fail
  go_loopw [4] (fun i wr => ∃ k : Nat, k ≤ N ∧ i = .int .i64 ((k : Int) + 1) ∧ Below wx.heap.size wx wr ∧ ∀ j, j < k → copOK X ((j : Int) + 1) (gc X.cs j)) (fun i _ => N + 1 - (intOf i).toNat)
  case atStart => exact ⟨0, Nat.zero_le _, rfl, Below.refl _ _, fun j hj => by omega⟩
  case round =>
    obtain ⟨k, hk, rfl, hBr, hz0⟩ := hrel
    have HZ0 := Lib.hid hz0
    clear hz0
    have f0 := cell_later hBr c0
    have f1 := cell_later hBr c1
    have f2 := cell_later hBr c2
    have HHr := Lib.hid (HH.out.keep hBr)
    by_cases hlt : k < N
    · have d2 : decide ((k : Int) + 1 ≤ (N : Int)) = true := yb (by omega)
      have d2' : decide ((k : Int) < (N : Int)) = true := yb (by omega)
      have hP := copyOK_any wr (w.heap.size + 1) 66 _ _ q X k (by rw [HN.out]; exact hlt) HHr.out
      by_cases hok : copOK X ((k : Int) + 1) (gc X.cs k)
      · rw [yb hok] at hP
        have HP := Lib.hid hP
        have HOK := Lib.hid hok
        clear hP hok
        go_wp2_with fail
        refine HP.out.mono ?_
        rintro e w1 ⟨rfl, hb1⟩
        have hB1 := Below.next hBr hb1
        clear hb1
        go_wp2_with fail
        go_roundw
        case rel => exact ⟨k + 1, by omega, by go_num, hB1, fun j hj => by
          by_cases hjk : j = k
          · subst hjk; exact HOK.out
          · exact HZ0.out j (by omega)⟩
        case measure => simp [intOf]; omega
      · rw [nb hok] at hP
        have HP := Lib.hid hP
        obtain rfl : er = 3 := by rw [← HR.out]; unfold chkE; exact if_neg (fun hg => hok ((HSQ.out.1 hg).2.1 k hlt))
        clear hP hok
        go_wp2_with fail
        refine HP.out.mono ?_
        rintro e w1 ⟨rfl, hb1⟩
        have hB1 := Below.next hB (Below.next hBr hb1)
        clear hb1
        go_wp2_with fail
        go_ret
        exact ⟨rfl, hB1⟩
    · obtain rfl : k = N := by omega
      have d2 : decide ((k : Int) + 1 ≤ (k : Int)) = false := nb (by omega)
      have d2' : decide ((k : Int) < (k : Int)) = false := nb (by omega)
      have hB := Below.next hB hBr
      obtain ⟨wo, rfl⟩ : ∃ wo, wo = wr := ⟨_, rfl⟩
      go_wp2_with fail
      go_loopw [47] (fun i ws => ∃ k2 : Nat, k2 ≤ F ∧ i = .int .i64 k2 ∧ Below wo.heap.size wo ws ∧ ∀ j, j < k2 → frmOK X (gp X.fr j)) (fun i _ => F - (intOf i).toNat)
      case atStart => exact ⟨0, Nat.zero_le _, rfl, Below.refl _ _, fun j hj => by omega⟩
      case round =>
        obtain ⟨k2, hk2, rfl, hBs, hz1⟩ := hrel
        have HZ1 := Lib.hid hz1
        clear hz1
        have HHs := Lib.hid (HHr.out.keep hBs)
        by_cases hlt : k2 < F
        · have d3 : decide ((k2 : Int) < (F : Int)) = true := yb (by omega)
          obtain ⟨b1, o1, rfl, hc1, g0, g1, g2, g3⟩ := RdP.at HHs.out.pt.frs HF.out k2 hlt
          obtain ⟨f, HFf⟩ : ∃ f, Hid (gp X.fr k2 = f) := ⟨_, rfl⟩
          rw [HFf.out] at g0 g1 g2 g3
          have n1 : (0 : Int) ≤ (k2 : Int) := by omega
          have n2 : (k2 : Int) < (F : Int) := by omega
          have hwk : IntKind.i64.wrap (k2 : Int) = (k2 : Int) := IntWalk.i64_in _ (by omega)
          obtain ⟨W2, hW2⟩ : ∃ W2 : World, W2 = wr.alloc (.cells #[.int .i64 f.kd, .int .i64 f.fr, .int .i64 f.tt, .int .i64 f.of] 47) := ⟨_, rfl⟩
          have hBW : Below wr.heap.size wr W2 := by rw [hW2]; exact (by repeat (first | assumption | exact Below.refl _ _ | apply Below.al | apply below_drewN | apply Below.drew | refine Below.next ?_ (by assumption)))
          have bT : BoxN W2 wr.heap.size 47 #[.int .i64 f.kd, .int .i64 f.fr, .int .i64 f.tt, .int .i64 f.of] := by rw [hW2]; exact BoxN.new _ _ _
          have t0 : W2.cell? ⟨wr.heap.size, 0, none⟩ = some (.int .i64 f.kd) := bT.cell 0
          have t1 : W2.cell? ⟨wr.heap.size, 1, none⟩ = some (.int .i64 f.fr) := bT.cell 1
          have t2 : W2.cell? ⟨wr.heap.size, 2, none⟩ = some (.int .i64 f.tt) := bT.cell 2
          have t3 : W2.cell? ⟨wr.heap.size, 3, none⟩ = some (.int .i64 f.of) := bT.cell 3
          have hP := frameOK_any W2 (w.heap.size + 1) 66 _ _ q X f (HHs.out.keep hBW)
          clear bT
          by_cases hok : frmOK X f
          · rw [yb hok] at hP
            have HP := Lib.hid hP
            have HOK := Lib.hid hok
            clear hP hok
            go_upto_region 12 with fail
            rw [← hW2]
            clear hW2
            go_wp2_with fail
            refine HP.out.mono ?_
            rintro e w1 ⟨rfl, hb1⟩
            have hB1 := Below.next hBs (Below.next hBW hb1)
            clear hb1
            go_wp2_with fail
            go_roundw
            case rel => exact ⟨k2 + 1, by omega, by go_num, hB1, fun j hj => by
              by_cases hjk : j = k2
              · subst hjk; rw [HFf.out]; exact HOK.out
              · exact HZ1.out j (by omega)⟩
            case measure => simp [intOf]; omega
          · rw [nb hok] at hP
            have HP := Lib.hid hP
            obtain rfl : er = 3 := by rw [← HR.out]; unfold chkE; exact if_neg (fun hg => hok (by rw [← HFf.out]; exact (HSQ.out.1 hg).2.2 k2 hlt))
            clear hP hok
            go_upto_region 12 with fail
            rw [← hW2]
            clear hW2
            go_wp2_with fail
            refine HP.out.mono ?_
            rintro e w1 ⟨rfl, hb1⟩
            have hB1 := Below.next hB (Below.next hBs (Below.next hBW hb1))
            clear hb1
            go_wp2_with fail
            go_ret
            exact ⟨rfl, hB1⟩
        · obtain rfl : k2 = F := by omega
          have d3 : decide ((k2 : Int) < (k2 : Int)) = false := nb (by omega)
          obtain rfl : er = 0 := by rw [← HR.out]; unfold chkE; exact if_pos (HSQ.out.2 ⟨HB1.out, HZ0.out, HZ1.out⟩)
          go_wp2_with fail
          go_ret
          exact ⟨rfl, Below.next hB hBs⟩
open Classical in
theorem frm_b {X : Wd} {f : Ps} {o : Int} (ho : o = if f.kd = 3 then f.fr else f.tt) : ((((((f.kd != 3) && (f.kd != 5)) && (f.kd != 6)) || (!decide (isN X f.fr))) || (!decide (isN X f.tt))) || (f.fr == f.tt) || (!decide (madeP X o f.of))) = !decide (frmOK X f) := by
  have hk : frmOK X f ↔ ¬ (f.kd ≠ 3 ∧ f.kd ≠ 5 ∧ f.kd ≠ 6) ∧ isN X f.fr ∧ isN X f.tt ∧ f.fr ≠ f.tt ∧ madeP X o f.of := by
    unfold frmOK tagOK
    by_cases h3 : f.kd = 3
    · rw [if_pos h3] at ho
      subst ho
      unfold madeP
      constructor
      · rintro (⟨_, h1, h2, h4, h5, h6⟩ | ⟨h, _⟩)
        · exact ⟨by omega, h2, h1, h4, h2, h5, h6⟩
        · omega
      · rintro ⟨_, h1, h2, h4, _, h5, h6⟩
        exact .inl ⟨h3, h2, h1, h4, h5, h6⟩
    · rw [if_neg h3] at ho
      subst ho
      unfold madeP
      constructor
      · rintro (⟨h, _⟩ | ⟨h, h1, h2, h4, h5, h6⟩)
        · omega
        · exact ⟨by omega, h1, h2, fun e => h4 e.symm, h2, h5, h6⟩
      · rintro ⟨h, h1, h2, h4, _, h5, h6⟩
        exact .inr ⟨by omega, h1, h2, fun e => h4 e.symm, h5, h6⟩
  rw [show decide (frmOK X f) = decide (¬ (f.kd ≠ 3 ∧ f.kd ≠ 5 ∧ f.kd ≠ 6) ∧ isN X f.fr ∧ isN X f.tt ∧ f.fr ≠ f.tt ∧ madeP X o f.of) from decide_eq_decide.2 hk]
  by_cases h3 : f.kd = 3 <;> by_cases h5 : f.kd = 5 <;> by_cases h6 : f.kd = 6 <;> by_cases k1 : isN X f.fr <;> by_cases k2 : isN X f.tt <;> by_cases k3 : f.fr = f.tt <;> by_cases k4 : madeP X o f.of <;> simp [h3, h5, h6, k1, k2, k3, k4]
set_option maxHeartbeats 4000000 in
theorem rcheck_any (w : World) (v : Value) (X : Wd) (er : Int) (her : chkE X = er) (h : RdW w v X) : Calls Try.prog 30 #[v] w fun e w' => e = .returned (.int .i64 er) ∧ Below w.heap.size w w' := by
  obtain ⟨cv, fv, q, rfl, hp⟩ := h
  obtain ⟨a, c, rfl⟩ := hp.rows.form
  obtain ⟨fa, fc, rfl⟩ := hp.frs.form
  have hl := hp.len
  have hmx := hp.rows.2.1
  have hmf := hp.frs.2.1
  unfold maxLen at hmx hmf
  obtain ⟨N, hN⟩ : ∃ N, X.cs.length = N := ⟨_, rfl⟩
  obtain ⟨F, hF⟩ : ∃ F, X.fr.length = F := ⟨_, rfl⟩
  rw [hl, hN] at hp hmx ⊢
  rw [hF] at hp hmf ⊢
  have hs := okw_seq X
  rw [hN, hF] at hs
  have HSQ := Lib.hid hs
  have HR := Lib.hid her
  have HN := Lib.hid hN
  have HF := Lib.hid hF
  clear hs her hN hF hl
  obtain ⟨W, hW⟩ : ∃ W : World, W = w.alloc (.cells #[.int .i64 X.ds, .slice a N c, .slice fa F fc] 25) := ⟨_, rfl⟩
  have hB : Below w.heap.size w W := by rw [hW]; exact (by repeat (first | assumption | exact Below.refl _ _ | apply Below.al | apply below_drewN | apply Below.drew | refine Below.next ?_ (by assumption)))
  have e0 : BoxN W w.heap.size 25 #[.int .i64 X.ds, .slice a N c, .slice fa F fc] := by rw [hW]; exact (BoxN.new w _ _).below (by repeat (first | assumption | exact Below.refl _ _ | apply Below.al | apply below_drewN | apply Below.drew | refine Below.next ?_ (by assumption)))
  have HH : Hid (BW W w.heap.size 25 (.slice a N c) (.slice fa F fc) q X) := Lib.hid ⟨e0, hp.keep hB⟩
  have c0 : W.cell? ⟨w.heap.size, 0, none⟩ = some (.int .i64 X.ds) := e0.cell 0
  have c1 : W.cell? ⟨w.heap.size, 1, none⟩ = some (.slice a N c) := e0.cell 1
  have c2 : W.cell? ⟨w.heap.size, 2, none⟩ = some (.slice fa F fc) := e0.cell 2
  clear e0 hp
  go_enter Try.func30, Try.ntmps30
  go_upto_region 1 with fail
  rw [← hW]
  clear hW
  obtain ⟨ww, rfl⟩ : ∃ ww, ww = W := ⟨_, rfl⟩
  go_cut [29] (fun c wx => c = .bool (decide (badW X N F)) ∧ Below ww.heap.size ww wx)
  case first =>
   as_aux_lemma =>
    clear HR HSQ
    obtain ⟨x3, hx3⟩ : ∃ b, (decide ((N : Int) < 2)) = b := ⟨_, rfl⟩
    obtain ⟨x8, hx8⟩ : ∃ b, (decide (16 < (N : Int))) = b := ⟨_, rfl⟩
    obtain ⟨x14, hx14⟩ : ∃ b, (decide (isN X X.ds)) = b := ⟨_, rfl⟩
    obtain ⟨x21, hx21⟩ : ∃ b, (decide (64 < (F : Int))) = b := ⟨_, rfl⟩
    refine wp_region_symL (fun w' => Below ww.heap.size ww w') (Below.refl _ ww) ?_
    refine q_run1 7 1 (v := ?_) rfl rfl rfl ?_ ?_
    rotate_left
    · (intro A hA wS hS; skip; go_simp; (try with_reducible rfl))
    dsimp only [putT, List.toList_toArray, List.set_cons_zero, List.set_cons_succ]
    refine q_run1 8 7 (v := ?_) rfl rfl rfl ?_ ?_
    rotate_left
    · (intro A hA wS hS; (have f0 := cell_later hS c0; have f1 := cell_later hS c1; have f2 := cell_later hS c2); go_simp; (try with_reducible rfl))
    dsimp only [putT, List.toList_toArray, List.set_cons_zero, List.set_cons_succ]
    refine q_run1 9 8 (v := ?_) rfl rfl rfl ?_ ?_
    rotate_left
    · (intro A hA wS hS; skip; go_simp; (try with_reducible rfl))
    dsimp only [putT, List.toList_toArray, List.set_cons_zero, List.set_cons_succ]
    refine q_run1 10 9 (v := ?_) rfl rfl rfl ?_ ?_
    rotate_left
    · (intro A hA wS hS; skip; go_simp; (try with_reducible rfl))
    dsimp only [putT, List.toList_toArray, List.set_cons_zero, List.set_cons_succ]
    refine q_move 11 10 rfl (by first | exact Or.inl rfl | exact Or.inr rfl) rfl rfl ?_
    dsimp only [putT, List.toList_toArray, List.set_cons_zero, List.set_cons_succ]
    refine q_if1 12 1 (g := (!x3)) (v := ?_) rfl rfl (by exact (want_at rfl rfl rfl).trans (wb_f x3)) ?_ ?_
    rotate_left
    · (intro hg A hA wS hS; (try rw [hg, sel_true] at hA); (try simp only [Bool.and_eq_true, Bool.not_eq_true', Bool.or_eq_false_iff] at hg); skip; go_simp; (try with_reducible rfl))
    dsimp only [putT, List.toList_toArray, List.set_cons_zero, List.set_cons_succ]
    refine q_if1 13 12 (g := (!x3)) (v := ?_) rfl rfl (by exact (want_at rfl rfl rfl).trans (wb_f x3)) ?_ ?_
    rotate_left
    · (intro hg A hA wS hS; (try rw [hg, sel_true] at hA); (try simp only [Bool.and_eq_true, Bool.not_eq_true', Bool.or_eq_false_iff] at hg); (have f0 := cell_later hS c0; have f1 := cell_later hS c1; have f2 := cell_later hS c2); go_simp; (try with_reducible rfl))
    dsimp only [putT, List.toList_toArray, List.set_cons_zero, List.set_cons_succ]
    refine q_if1 14 13 (g := (!x3)) (v := ?_) rfl rfl (by exact (want_at rfl rfl rfl).trans (wb_f x3)) ?_ ?_
    rotate_left
    · (intro hg A hA wS hS; (try rw [hg, sel_true] at hA); (try simp only [Bool.and_eq_true, Bool.not_eq_true', Bool.or_eq_false_iff] at hg); skip; go_simp; (try with_reducible rfl))
    dsimp only [putT, List.toList_toArray, List.set_cons_zero, List.set_cons_succ]
    refine q_if1 15 14 (g := (!x3)) (v := ?_) rfl rfl (by exact (want_at rfl rfl rfl).trans (wb_f x3)) ?_ ?_
    rotate_left
    · (intro hg A hA wS hS; (try rw [hg, sel_true] at hA); (try simp only [Bool.and_eq_true, Bool.not_eq_true', Bool.or_eq_false_iff] at hg); skip; go_simp; (try with_reducible rfl))
    dsimp only [putT, List.toList_toArray, List.set_cons_zero, List.set_cons_succ]
    refine q_pick 16 11 15 (v := .bool (x3 || x8)) rfl rfl rfl rfl rfl (pk_or x3 x8) ?_
    dsimp only [putT, List.toList_toArray, List.set_cons_zero, List.set_cons_succ]
    refine q_move 17 16 rfl (by first | exact Or.inl rfl | exact Or.inr rfl) rfl rfl ?_
    dsimp only [putT, List.toList_toArray, List.set_cons_zero, List.set_cons_succ]
    refine q_if1 18 1 (g := (!(x3 || x8))) (v := ?_) rfl rfl (by exact (want_at rfl rfl rfl).trans (wb_f (x3 || x8))) ?_ ?_
    rotate_left
    · (intro hg A hA wS hS; (try rw [hg, sel_true] at hA); (try simp only [Bool.and_eq_true, Bool.not_eq_true', Bool.or_eq_false_iff] at hg); (have f0 := cell_later hS c0; have f1 := cell_later hS c1; have f2 := cell_later hS c2); go_simp; (try with_reducible rfl))
    dsimp only [putT, List.toList_toArray, List.set_cons_zero, List.set_cons_succ]
    refine q_if1 19 1 (g := (!(x3 || x8))) (v := ?_) rfl rfl (by exact (want_at rfl rfl rfl).trans (wb_f (x3 || x8))) ?_ ?_
    rotate_left
    · (intro hg A hA wS hS; (try rw [hg, sel_true] at hA); (try simp only [Bool.and_eq_true, Bool.not_eq_true', Bool.or_eq_false_iff] at hg); skip; go_simp; (try with_reducible rfl))
    dsimp only [putT, List.toList_toArray, List.set_cons_zero, List.set_cons_succ]
    refine q_if1 20 19 (g := (!(x3 || x8))) (v := ?_) rfl rfl (by exact (want_at rfl rfl rfl).trans (wb_f (x3 || x8))) ?_ ?_
    rotate_left
    · (intro hg A hA wS hS; (try rw [hg, sel_true] at hA); (try simp only [Bool.and_eq_true, Bool.not_eq_true', Bool.or_eq_false_iff] at hg); (have f0 := cell_later hS c0; have f1 := cell_later hS c1; have f2 := cell_later hS c2); go_simp; (try with_reducible rfl))
    dsimp only [putT, List.toList_toArray, List.set_cons_zero, List.set_cons_succ]
    refine q_callif 21 49 (g := (!(x3 || x8))) (v := .bool x14) (args := ?_) rfl (by exact (want_at rfl rfl rfl).trans (wb_f (x3 || x8))) ?_ ?_ ?_
    rotate_left 1
    · (intro hg wS hS; (try simp only [hg, sel_true]); (try simp only [Bool.and_eq_true, Bool.not_eq_true', Bool.or_eq_false_iff] at hg); go_simp; (try with_reducible rfl))
    · (intro hg wS hS; (try simp only [Bool.and_eq_true, Bool.not_eq_true', Bool.or_eq_false_iff] at hg); refine (rnode_any _ _ _ q X X.ds (HH.out.pt.keep hS)).mono ?_; (rw [hx14]; rintro e w2 ⟨rfl, hb2⟩; exact ⟨rfl, Below.next hS hb2⟩))
    dsimp only [putT, List.toList_toArray, List.set_cons_zero, List.set_cons_succ]
    refine q_if1 22 21 (g := (!(x3 || x8))) (v := ?_) rfl rfl (by exact (want_at rfl rfl rfl).trans (wb_f (x3 || x8))) ?_ ?_
    rotate_left
    · (intro hg A hA wS hS; (try rw [hg, sel_true] at hA); (try simp only [Bool.and_eq_true, Bool.not_eq_true', Bool.or_eq_false_iff] at hg); skip; go_simp; (try with_reducible rfl))
    dsimp only [putT, List.toList_toArray, List.set_cons_zero, List.set_cons_succ]
    refine q_pick 23 17 22 (v := .bool ((x3 || x8) || (!x14))) rfl rfl rfl rfl rfl (pk_or (x3 || x8) (!x14)) ?_
    dsimp only [putT, List.toList_toArray, List.set_cons_zero, List.set_cons_succ]
    refine q_move 24 23 rfl (by first | exact Or.inl rfl | exact Or.inr rfl) rfl rfl ?_
    dsimp only [putT, List.toList_toArray, List.set_cons_zero, List.set_cons_succ]
    refine q_if1 25 1 (g := (!((x3 || x8) || (!x14)))) (v := ?_) rfl rfl (by exact (want_at rfl rfl rfl).trans (wb_f ((x3 || x8) || (!x14)))) ?_ ?_
    rotate_left
    · (intro hg A hA wS hS; (try rw [hg, sel_true] at hA); (try simp only [Bool.and_eq_true, Bool.not_eq_true', Bool.or_eq_false_iff] at hg); skip; go_simp; (try with_reducible rfl))
    dsimp only [putT, List.toList_toArray, List.set_cons_zero, List.set_cons_succ]
    refine q_if1 26 25 (g := (!((x3 || x8) || (!x14)))) (v := ?_) rfl rfl (by exact (want_at rfl rfl rfl).trans (wb_f ((x3 || x8) || (!x14)))) ?_ ?_
    rotate_left
    · (intro hg A hA wS hS; (try rw [hg, sel_true] at hA); (try simp only [Bool.and_eq_true, Bool.not_eq_true', Bool.or_eq_false_iff] at hg); (have f0 := cell_later hS c0; have f1 := cell_later hS c1; have f2 := cell_later hS c2); go_simp; (try with_reducible rfl))
    dsimp only [putT, List.toList_toArray, List.set_cons_zero, List.set_cons_succ]
    refine q_if1 27 26 (g := (!((x3 || x8) || (!x14)))) (v := ?_) rfl rfl (by exact (want_at rfl rfl rfl).trans (wb_f ((x3 || x8) || (!x14)))) ?_ ?_
    rotate_left
    · (intro hg A hA wS hS; (try rw [hg, sel_true] at hA); (try simp only [Bool.and_eq_true, Bool.not_eq_true', Bool.or_eq_false_iff] at hg); skip; go_simp; (try with_reducible rfl))
    dsimp only [putT, List.toList_toArray, List.set_cons_zero, List.set_cons_succ]
    refine q_if1 28 27 (g := (!((x3 || x8) || (!x14)))) (v := ?_) rfl rfl (by exact (want_at rfl rfl rfl).trans (wb_f ((x3 || x8) || (!x14)))) ?_ ?_
    rotate_left
    · (intro hg A hA wS hS; (try rw [hg, sel_true] at hA); (try simp only [Bool.and_eq_true, Bool.not_eq_true', Bool.or_eq_false_iff] at hg); skip; go_simp; (try with_reducible rfl))
    dsimp only [putT, List.toList_toArray, List.set_cons_zero, List.set_cons_succ]
    refine q_pick 29 24 28 (v := .bool (((x3 || x8) || (!x14)) || x21)) rfl rfl rfl rfl rfl (pk_or ((x3 || x8) || (!x14)) x21) ?_
    dsimp only [putT, List.toList_toArray, List.set_cons_zero, List.set_cons_succ]
    refine wpQuiet_nil ?_
    intro wS hS
    go_wp2_with fail
    go_meet
    refine ⟨congrArg Value.bool ?_, hS⟩
    rw [← hx3, ← hx8, ← hx14, ← hx21]
    apply Bool.eq_iff_iff.2
    simp only [Bool.or_eq_true, Bool.and_eq_true, decide_eq_true_eq, beq_iff_eq, bne_iff_ne, Bool.not_eq_true', decide_eq_false_iff_not]
    unfold badW
    constructor
    · rintro (((h | h) | h) | h)
      · exact .inl (by omega)
      · exact .inr (.inl (by omega))
      · exact .inr (.inr (.inl h))
      · exact .inr (.inr (.inr (by omega)))
    · rintro (h | h | h | h)
      · exact .inl (.inl (.inl (by omega)))
      · exact .inl (.inl (.inr (by omega)))
      · exact .inl (.inr h)
      · exact .inr (by omega)
  case rest =>
  obtain ⟨hcc, hbx⟩ := hcut
  rename World => wx
  have HH := Lib.hid (HH.out.keep hbx)
  have c0 := cell_later hbx c0
  have c1 := cell_later hbx c1
  have c2 := cell_later hbx c2
  have hB := Below.next hB hbx
  clear hbx
  by_cases hbad : badW X N F
  · rw [yb hbad] at hcc
    subst hcc
    obtain rfl : er = 3 := by rw [← HR.out]; unfold chkE; exact if_neg (fun hg => (HSQ.out.1 hg).1 hbad)
    go_wp2_with fail
    go_ret
    exact ⟨rfl, hB⟩
  rw [nb hbad] at hcc
  subst hcc
  have hN16 : N ≤ 16 := by unfold badW at hbad; omega
  have HB1 := Lib.hid hbad
  clear hbad
  go_wp2_with fail
  go_loopw [3] (fun i wr => ∃ k : Nat, k ≤ N ∧ i = .int .i64 ((k : Int) + 1) ∧ Below wx.heap.size wx wr ∧ ∀ j, j < k → copOK X ((j : Int) + 1) (gc X.cs j)) (fun i _ => N + 1 - (intOf i).toNat)
  case atStart => exact ⟨0, Nat.zero_le _, rfl, Below.refl _ _, fun j hj => by omega⟩
  case round =>
    obtain ⟨k, hk, rfl, hBr, hz0⟩ := hrel
    have HZ0 := Lib.hid hz0
    clear hz0
    have f0 := cell_later hBr c0
    have f1 := cell_later hBr c1
    have f2 := cell_later hBr c2
    have HHr := Lib.hid (HH.out.keep hBr)
    by_cases hlt : k < N
    · have d2 : decide ((k : Int) + 1 ≤ (N : Int)) = true := yb (by omega)
      have d2' : decide ((k : Int) < (N : Int)) = true := yb (by omega)
      have hP := rcopied_any wr _ _ q X k (by rw [HN.out]; exact hlt) HHr.out.pt
      by_cases hok : copOK X ((k : Int) + 1) (gc X.cs k)
      · rw [yb hok] at hP
        have HP := Lib.hid hP
        have HOK := Lib.hid hok
        clear hP hok
        go_wp2_with fail
        refine HP.out.mono ?_
        rintro e w1 ⟨rfl, hb1⟩
        have hB1 := Below.next hBr hb1
        clear hb1
        go_wp2_with fail
        go_roundw
        case rel => exact ⟨k + 1, by omega, by go_num, hB1, fun j hj => by
          by_cases hjk : j = k
          · subst hjk; exact HOK.out
          · exact HZ0.out j (by omega)⟩
        case measure => simp [intOf]; omega
      · rw [nb hok] at hP
        have HP := Lib.hid hP
        obtain rfl : er = 3 := by rw [← HR.out]; unfold chkE; exact if_neg (fun hg => hok ((HSQ.out.1 hg).2.1 k hlt))
        clear hP hok
        go_wp2_with fail
        refine HP.out.mono ?_
        rintro e w1 ⟨rfl, hb1⟩
        have hB1 := Below.next hB (Below.next hBr hb1)
        clear hb1
        go_wp2_with fail
        go_ret
        exact ⟨rfl, hB1⟩
    · obtain rfl : k = N := by omega
      have d2 : decide ((k : Int) + 1 ≤ (k : Int)) = false := nb (by omega)
      have d2' : decide ((k : Int) < (k : Int)) = false := nb (by omega)
      have hB := Below.next hB hBr
      obtain ⟨wo, rfl⟩ : ∃ wo, wo = wr := ⟨_, rfl⟩
      go_wp2_with fail
      go_loopw [4] (fun i ws => ∃ k2 : Nat, k2 ≤ F ∧ i = .int .i64 k2 ∧ Below wo.heap.size wo ws ∧ ∀ j, j < k2 → frmOK X (gp X.fr j)) (fun i _ => F - (intOf i).toNat)
      case atStart => exact ⟨0, Nat.zero_le _, rfl, Below.refl _ _, fun j hj => by omega⟩
      case round =>
        obtain ⟨k2, hk2, rfl, hBs, hz1⟩ := hrel
        have HZ1 := Lib.hid hz1
        clear hz1
        have HHs := Lib.hid (HHr.out.keep hBs)
        have c0 := cell_later hBs f0
        have c1 := cell_later hBs f1
        have c2 := cell_later hBs f2
        by_cases hlt : k2 < F
        · have d3 : decide ((k2 : Int) < (F : Int)) = true := yb (by omega)
          obtain ⟨b1, o1, rfl, hc1, g0, g1, g2, g3⟩ := RdP.at HHs.out.pt.frs HF.out k2 hlt
          obtain ⟨f, HFf⟩ : ∃ f, Hid (gp X.fr k2 = f) := ⟨_, rfl⟩
          rw [HFf.out] at g0 g1 g2 g3
          have n1 : (0 : Int) ≤ (k2 : Int) := by omega
          have n2 : (k2 : Int) < (F : Int) := by omega
          have hwk : IntKind.i64.wrap (k2 : Int) = (k2 : Int) := IntWalk.i64_in _ (by omega)
          obtain ⟨W2, hW2⟩ : ∃ W2 : World, W2 = wr.alloc (.cells #[.int .i64 f.kd, .int .i64 f.fr, .int .i64 f.tt, .int .i64 f.of] 47) := ⟨_, rfl⟩
          have hBW : Below wr.heap.size wr W2 := by rw [hW2]; exact (by repeat (first | assumption | exact Below.refl _ _ | apply Below.al | apply below_drewN | apply Below.drew | refine Below.next ?_ (by assumption)))
          have bT : BoxN W2 wr.heap.size 47 #[.int .i64 f.kd, .int .i64 f.fr, .int .i64 f.tt, .int .i64 f.of] := by rw [hW2]; exact BoxN.new _ _ _
          have k0 : W2.cell? ⟨wr.heap.size, 0, none⟩ = some (.int .i64 f.kd) := bT.cell 0
          have k1 : W2.cell? ⟨wr.heap.size, 1, none⟩ = some (.int .i64 f.fr) := bT.cell 1
          have k2' : W2.cell? ⟨wr.heap.size, 2, none⟩ = some (.int .i64 f.tt) := bT.cell 2
          have k3 : W2.cell? ⟨wr.heap.size, 3, none⟩ = some (.int .i64 f.of) := bT.cell 3
          have C0 := Lib.hid (cell_later hBW c0)
          have C1 := Lib.hid (cell_later hBW c1)
          have C2 := Lib.hid (cell_later hBW c2)
          have HHr := Lib.hid (HHs.out.pt.keep hBW)
          clear bT
          go_upto_region 12 with fail
          rw [← hW2]
          clear hW2 c0 c1 c2 g0 g1 g2 g3
          by_cases h3 : f.kd = 3
          · have d4 : (f.kd == 3) = true := by simp [h3]
            have hv := frm_b (X := X) (f := f) (o := f.fr) (by rw [if_pos h3])
            have HO : Hid (f.fr = f.fr) := Lib.hid rfl
            have h3' := Lib.hid h3
            clear h3
            go_upto_region 15 with fail
            clear d4
            obtain ⟨x2, hx2⟩ : ∃ b, (f.kd != 3) = b := ⟨_, rfl⟩
            obtain ⟨x6, hx6⟩ : ∃ b, (f.kd != 5) = b := ⟨_, rfl⟩
            obtain ⟨x11, hx11⟩ : ∃ b, (f.kd != 6) = b := ⟨_, rfl⟩
            obtain ⟨x17, hx17⟩ : ∃ b, decide (isN X f.fr) = b := ⟨_, rfl⟩
            obtain ⟨x24, hx24⟩ : ∃ b, decide (isN X f.tt) = b := ⟨_, rfl⟩
            obtain ⟨x32, hx32⟩ : ∃ b, (f.fr == f.tt) = b := ⟨_, rfl⟩
            obtain ⟨x39, hx39⟩ : ∃ b, decide (madeP X f.fr f.of) = b := ⟨_, rfl⟩
            rw [hx2, hx6, hx11, hx17, hx24, hx32, hx39] at hv
            have HV := Lib.hid hv
            clear hv
            refine wp_region_symL (fun w' => Below W2.heap.size W2 w') (Below.refl _ W2) ?_
            refine q_run1 60 5 (v := ?_) rfl rfl rfl ?_ ?_
            rotate_left
            · (intro A hA wS hS; skip; go_simp; (try with_reducible rfl))
            dsimp only [putT, List.toList_toArray, List.set_cons_zero, List.set_cons_succ]
            refine q_run1 61 60 (v := ?_) rfl rfl rfl ?_ ?_
            rotate_left
            · (intro A hA wS hS; (have f0 := cell_later hS C0.out; have f1 := cell_later hS C1.out; have f2 := cell_later hS C2.out; have y0 := cell_later hS k0; have y1 := cell_later hS k1; have y2 := cell_later hS k2'; have y3 := cell_later hS k3); go_simp; (try with_reducible rfl))
            dsimp only [putT, List.toList_toArray, List.set_cons_zero, List.set_cons_succ]
            refine q_run1 62 61 (v := ?_) rfl rfl rfl ?_ ?_
            rotate_left
            · (intro A hA wS hS; skip; go_simp; (try with_reducible rfl))
            dsimp only [putT, List.toList_toArray, List.set_cons_zero, List.set_cons_succ]
            refine q_move 63 62 rfl (by first | exact Or.inl rfl | exact Or.inr rfl) rfl rfl ?_
            dsimp only [putT, List.toList_toArray, List.set_cons_zero, List.set_cons_succ]
            refine q_if1 64 5 (g := x2) (v := ?_) rfl rfl (by exact (want_at rfl rfl rfl).trans (wb_t x2)) ?_ ?_
            rotate_left
            · (intro hg A hA wS hS; (try rw [hg, sel_true] at hA); (try simp only [Bool.and_eq_true, Bool.not_eq_true', Bool.or_eq_false_iff] at hg); skip; go_simp; (try with_reducible rfl))
            dsimp only [putT, List.toList_toArray, List.set_cons_zero, List.set_cons_succ]
            refine q_if1 65 64 (g := x2) (v := ?_) rfl rfl (by exact (want_at rfl rfl rfl).trans (wb_t x2)) ?_ ?_
            rotate_left
            · (intro hg A hA wS hS; (try rw [hg, sel_true] at hA); (try simp only [Bool.and_eq_true, Bool.not_eq_true', Bool.or_eq_false_iff] at hg); (have f0 := cell_later hS C0.out; have f1 := cell_later hS C1.out; have f2 := cell_later hS C2.out; have y0 := cell_later hS k0; have y1 := cell_later hS k1; have y2 := cell_later hS k2'; have y3 := cell_later hS k3); go_simp; (try with_reducible rfl))
            dsimp only [putT, List.toList_toArray, List.set_cons_zero, List.set_cons_succ]
            refine q_if1 66 65 (g := x2) (v := ?_) rfl rfl (by exact (want_at rfl rfl rfl).trans (wb_t x2)) ?_ ?_
            rotate_left
            · (intro hg A hA wS hS; (try rw [hg, sel_true] at hA); (try simp only [Bool.and_eq_true, Bool.not_eq_true', Bool.or_eq_false_iff] at hg); skip; go_simp; (try with_reducible rfl))
            dsimp only [putT, List.toList_toArray, List.set_cons_zero, List.set_cons_succ]
            refine q_pickA 67 63 66 (v := .bool (x2 && x6)) rfl rfl rfl rfl rfl (pk_and x2 x6) ?_
            dsimp only [putT, List.toList_toArray, List.set_cons_zero, List.set_cons_succ]
            refine q_move 68 67 rfl (by first | exact Or.inl rfl | exact Or.inr rfl) rfl rfl ?_
            dsimp only [putT, List.toList_toArray, List.set_cons_zero, List.set_cons_succ]
            refine q_if1 69 5 (g := (x2 && x6)) (v := ?_) rfl rfl (by exact (want_at rfl rfl rfl).trans (wb_t (x2 && x6))) ?_ ?_
            rotate_left
            · (intro hg A hA wS hS; (try rw [hg, sel_true] at hA); (try simp only [Bool.and_eq_true, Bool.not_eq_true', Bool.or_eq_false_iff] at hg); skip; go_simp; (try with_reducible rfl))
            dsimp only [putT, List.toList_toArray, List.set_cons_zero, List.set_cons_succ]
            refine q_if1 70 69 (g := (x2 && x6)) (v := ?_) rfl rfl (by exact (want_at rfl rfl rfl).trans (wb_t (x2 && x6))) ?_ ?_
            rotate_left
            · (intro hg A hA wS hS; (try rw [hg, sel_true] at hA); (try simp only [Bool.and_eq_true, Bool.not_eq_true', Bool.or_eq_false_iff] at hg); (have f0 := cell_later hS C0.out; have f1 := cell_later hS C1.out; have f2 := cell_later hS C2.out; have y0 := cell_later hS k0; have y1 := cell_later hS k1; have y2 := cell_later hS k2'; have y3 := cell_later hS k3); go_simp; (try with_reducible rfl))
            dsimp only [putT, List.toList_toArray, List.set_cons_zero, List.set_cons_succ]
            refine q_if1 71 70 (g := (x2 && x6)) (v := ?_) rfl rfl (by exact (want_at rfl rfl rfl).trans (wb_t (x2 && x6))) ?_ ?_
            rotate_left
            · (intro hg A hA wS hS; (try rw [hg, sel_true] at hA); (try simp only [Bool.and_eq_true, Bool.not_eq_true', Bool.or_eq_false_iff] at hg); skip; go_simp; (try with_reducible rfl))
            dsimp only [putT, List.toList_toArray, List.set_cons_zero, List.set_cons_succ]
            refine q_pickA 72 68 71 (v := .bool ((x2 && x6) && x11)) rfl rfl rfl rfl rfl (pk_and (x2 && x6) x11) ?_
            dsimp only [putT, List.toList_toArray, List.set_cons_zero, List.set_cons_succ]
            refine q_move 73 72 rfl (by first | exact Or.inl rfl | exact Or.inr rfl) rfl rfl ?_
            dsimp only [putT, List.toList_toArray, List.set_cons_zero, List.set_cons_succ]
            refine q_if1 74 1 (g := (!((x2 && x6) && x11))) (v := ?_) rfl rfl (by exact (want_at rfl rfl rfl).trans (wb_f ((x2 && x6) && x11))) ?_ ?_
            rotate_left
            · (intro hg A hA wS hS; (try rw [hg, sel_true] at hA); (try simp only [Bool.and_eq_true, Bool.not_eq_true', Bool.or_eq_false_iff] at hg); (have f0 := cell_later hS C0.out; have f1 := cell_later hS C1.out; have f2 := cell_later hS C2.out; have y0 := cell_later hS k0; have y1 := cell_later hS k1; have y2 := cell_later hS k2'; have y3 := cell_later hS k3); go_simp; (try with_reducible rfl))
            dsimp only [putT, List.toList_toArray, List.set_cons_zero, List.set_cons_succ]
            refine q_if1 75 5 (g := (!((x2 && x6) && x11))) (v := ?_) rfl rfl (by exact (want_at rfl rfl rfl).trans (wb_f ((x2 && x6) && x11))) ?_ ?_
            rotate_left
            · (intro hg A hA wS hS; (try rw [hg, sel_true] at hA); (try simp only [Bool.and_eq_true, Bool.not_eq_true', Bool.or_eq_false_iff] at hg); skip; go_simp; (try with_reducible rfl))
            dsimp only [putT, List.toList_toArray, List.set_cons_zero, List.set_cons_succ]
            refine q_if1 76 75 (g := (!((x2 && x6) && x11))) (v := ?_) rfl rfl (by exact (want_at rfl rfl rfl).trans (wb_f ((x2 && x6) && x11))) ?_ ?_
            rotate_left
            · (intro hg A hA wS hS; (try rw [hg, sel_true] at hA); (try simp only [Bool.and_eq_true, Bool.not_eq_true', Bool.or_eq_false_iff] at hg); (have f0 := cell_later hS C0.out; have f1 := cell_later hS C1.out; have f2 := cell_later hS C2.out; have y0 := cell_later hS k0; have y1 := cell_later hS k1; have y2 := cell_later hS k2'; have y3 := cell_later hS k3); go_simp; (try with_reducible rfl))
            dsimp only [putT, List.toList_toArray, List.set_cons_zero, List.set_cons_succ]
            refine q_callif 77 49 (g := (!((x2 && x6) && x11))) (v := .bool x17) (args := ?_) rfl (by exact (want_at rfl rfl rfl).trans (wb_f ((x2 && x6) && x11))) ?_ ?_ ?_
            rotate_left 1
            · (intro hg wS hS; (try simp only [hg, sel_true]); (try simp only [Bool.and_eq_true, Bool.not_eq_true', Bool.or_eq_false_iff] at hg); go_simp; (try with_reducible rfl))
            · (intro hg wS hS; (try simp only [Bool.and_eq_true, Bool.not_eq_true', Bool.or_eq_false_iff] at hg); refine (rnode_any _ _ _ q X f.fr (HHr.out.keep hS)).mono ?_; (rw [hx17]; rintro e w2 ⟨rfl, hb2⟩; exact ⟨rfl, Below.next hS hb2⟩))
            dsimp only [putT, List.toList_toArray, List.set_cons_zero, List.set_cons_succ]
            refine q_if1 78 77 (g := (!((x2 && x6) && x11))) (v := ?_) rfl rfl (by exact (want_at rfl rfl rfl).trans (wb_f ((x2 && x6) && x11))) ?_ ?_
            rotate_left
            · (intro hg A hA wS hS; (try rw [hg, sel_true] at hA); (try simp only [Bool.and_eq_true, Bool.not_eq_true', Bool.or_eq_false_iff] at hg); skip; go_simp; (try with_reducible rfl))
            dsimp only [putT, List.toList_toArray, List.set_cons_zero, List.set_cons_succ]
            refine q_pick 79 73 78 (v := .bool (((x2 && x6) && x11) || (!x17))) rfl rfl rfl rfl rfl (pk_or ((x2 && x6) && x11) (!x17)) ?_
            dsimp only [putT, List.toList_toArray, List.set_cons_zero, List.set_cons_succ]
            refine q_move 80 79 rfl (by first | exact Or.inl rfl | exact Or.inr rfl) rfl rfl ?_
            dsimp only [putT, List.toList_toArray, List.set_cons_zero, List.set_cons_succ]
            refine q_if1 81 1 (g := (!(((x2 && x6) && x11) || (!x17)))) (v := ?_) rfl rfl (by exact (want_at rfl rfl rfl).trans (wb_f (((x2 && x6) && x11) || (!x17)))) ?_ ?_
            rotate_left
            · (intro hg A hA wS hS; (try rw [hg, sel_true] at hA); (try simp only [Bool.and_eq_true, Bool.not_eq_true', Bool.or_eq_false_iff] at hg); (have f0 := cell_later hS C0.out; have f1 := cell_later hS C1.out; have f2 := cell_later hS C2.out; have y0 := cell_later hS k0; have y1 := cell_later hS k1; have y2 := cell_later hS k2'; have y3 := cell_later hS k3); go_simp; (try with_reducible rfl))
            dsimp only [putT, List.toList_toArray, List.set_cons_zero, List.set_cons_succ]
            refine q_if1 82 5 (g := (!(((x2 && x6) && x11) || (!x17)))) (v := ?_) rfl rfl (by exact (want_at rfl rfl rfl).trans (wb_f (((x2 && x6) && x11) || (!x17)))) ?_ ?_
            rotate_left
            · (intro hg A hA wS hS; (try rw [hg, sel_true] at hA); (try simp only [Bool.and_eq_true, Bool.not_eq_true', Bool.or_eq_false_iff] at hg); skip; go_simp; (try with_reducible rfl))
            dsimp only [putT, List.toList_toArray, List.set_cons_zero, List.set_cons_succ]
            refine q_if1 83 82 (g := (!(((x2 && x6) && x11) || (!x17)))) (v := ?_) rfl rfl (by exact (want_at rfl rfl rfl).trans (wb_f (((x2 && x6) && x11) || (!x17)))) ?_ ?_
            rotate_left
            · (intro hg A hA wS hS; (try rw [hg, sel_true] at hA); (try simp only [Bool.and_eq_true, Bool.not_eq_true', Bool.or_eq_false_iff] at hg); (have f0 := cell_later hS C0.out; have f1 := cell_later hS C1.out; have f2 := cell_later hS C2.out; have y0 := cell_later hS k0; have y1 := cell_later hS k1; have y2 := cell_later hS k2'; have y3 := cell_later hS k3); go_simp; (try with_reducible rfl))
            dsimp only [putT, List.toList_toArray, List.set_cons_zero, List.set_cons_succ]
            refine q_callif 84 49 (g := (!(((x2 && x6) && x11) || (!x17)))) (v := .bool x24) (args := ?_) rfl (by exact (want_at rfl rfl rfl).trans (wb_f (((x2 && x6) && x11) || (!x17)))) ?_ ?_ ?_
            rotate_left 1
            · (intro hg wS hS; (try simp only [hg, sel_true]); (try simp only [Bool.and_eq_true, Bool.not_eq_true', Bool.or_eq_false_iff] at hg); go_simp; (try with_reducible rfl))
            · (intro hg wS hS; (try simp only [Bool.and_eq_true, Bool.not_eq_true', Bool.or_eq_false_iff] at hg); refine (rnode_any _ _ _ q X f.tt (HHr.out.keep hS)).mono ?_; (rw [hx24]; rintro e w2 ⟨rfl, hb2⟩; exact ⟨rfl, Below.next hS hb2⟩))
            dsimp only [putT, List.toList_toArray, List.set_cons_zero, List.set_cons_succ]
            refine q_if1 85 84 (g := (!(((x2 && x6) && x11) || (!x17)))) (v := ?_) rfl rfl (by exact (want_at rfl rfl rfl).trans (wb_f (((x2 && x6) && x11) || (!x17)))) ?_ ?_
            rotate_left
            · (intro hg A hA wS hS; (try rw [hg, sel_true] at hA); (try simp only [Bool.and_eq_true, Bool.not_eq_true', Bool.or_eq_false_iff] at hg); skip; go_simp; (try with_reducible rfl))
            dsimp only [putT, List.toList_toArray, List.set_cons_zero, List.set_cons_succ]
            refine q_pick 86 80 85 (v := .bool ((((x2 && x6) && x11) || (!x17)) || (!x24))) rfl rfl rfl rfl rfl (pk_or (((x2 && x6) && x11) || (!x17)) (!x24)) ?_
            dsimp only [putT, List.toList_toArray, List.set_cons_zero, List.set_cons_succ]
            refine q_move 87 86 rfl (by first | exact Or.inl rfl | exact Or.inr rfl) rfl rfl ?_
            dsimp only [putT, List.toList_toArray, List.set_cons_zero, List.set_cons_succ]
            refine q_if1 88 5 (g := (!((((x2 && x6) && x11) || (!x17)) || (!x24)))) (v := ?_) rfl rfl (by exact (want_at rfl rfl rfl).trans (wb_f ((((x2 && x6) && x11) || (!x17)) || (!x24)))) ?_ ?_
            rotate_left
            · (intro hg A hA wS hS; (try rw [hg, sel_true] at hA); (try simp only [Bool.and_eq_true, Bool.not_eq_true', Bool.or_eq_false_iff] at hg); skip; go_simp; (try with_reducible rfl))
            dsimp only [putT, List.toList_toArray, List.set_cons_zero, List.set_cons_succ]
            refine q_if1 89 88 (g := (!((((x2 && x6) && x11) || (!x17)) || (!x24)))) (v := ?_) rfl rfl (by exact (want_at rfl rfl rfl).trans (wb_f ((((x2 && x6) && x11) || (!x17)) || (!x24)))) ?_ ?_
            rotate_left
            · (intro hg A hA wS hS; (try rw [hg, sel_true] at hA); (try simp only [Bool.and_eq_true, Bool.not_eq_true', Bool.or_eq_false_iff] at hg); (have f0 := cell_later hS C0.out; have f1 := cell_later hS C1.out; have f2 := cell_later hS C2.out; have y0 := cell_later hS k0; have y1 := cell_later hS k1; have y2 := cell_later hS k2'; have y3 := cell_later hS k3); go_simp; (try with_reducible rfl))
            dsimp only [putT, List.toList_toArray, List.set_cons_zero, List.set_cons_succ]
            refine q_if1 90 5 (g := (!((((x2 && x6) && x11) || (!x17)) || (!x24)))) (v := ?_) rfl rfl (by exact (want_at rfl rfl rfl).trans (wb_f ((((x2 && x6) && x11) || (!x17)) || (!x24)))) ?_ ?_
            rotate_left
            · (intro hg A hA wS hS; (try rw [hg, sel_true] at hA); (try simp only [Bool.and_eq_true, Bool.not_eq_true', Bool.or_eq_false_iff] at hg); skip; go_simp; (try with_reducible rfl))
            dsimp only [putT, List.toList_toArray, List.set_cons_zero, List.set_cons_succ]
            refine q_if1 91 90 (g := (!((((x2 && x6) && x11) || (!x17)) || (!x24)))) (v := ?_) rfl rfl (by exact (want_at rfl rfl rfl).trans (wb_f ((((x2 && x6) && x11) || (!x17)) || (!x24)))) ?_ ?_
            rotate_left
            · (intro hg A hA wS hS; (try rw [hg, sel_true] at hA); (try simp only [Bool.and_eq_true, Bool.not_eq_true', Bool.or_eq_false_iff] at hg); (have f0 := cell_later hS C0.out; have f1 := cell_later hS C1.out; have f2 := cell_later hS C2.out; have y0 := cell_later hS k0; have y1 := cell_later hS k1; have y2 := cell_later hS k2'; have y3 := cell_later hS k3); go_simp; (try with_reducible rfl))
            dsimp only [putT, List.toList_toArray, List.set_cons_zero, List.set_cons_succ]
            refine q_if2 92 89 91 (g := (!((((x2 && x6) && x11) || (!x17)) || (!x24)))) (v := ?_) rfl rfl rfl (by exact (want_at rfl rfl rfl).trans (wb_f ((((x2 && x6) && x11) || (!x17)) || (!x24)))) ?_ ?_
            rotate_left
            · (intro hg A hA hA2 wS hS; (try rw [hg, sel_true] at hA); (try rw [hg, sel_true] at hA2); (try simp only [Bool.and_eq_true, Bool.not_eq_true', Bool.or_eq_false_iff] at hg); skip; go_simp; (try with_reducible rfl))
            dsimp only [putT, List.toList_toArray, List.set_cons_zero, List.set_cons_succ]
            refine q_pick 93 87 92 (v := .bool (((((x2 && x6) && x11) || (!x17)) || (!x24)) || x32)) rfl rfl rfl rfl rfl (pk_or ((((x2 && x6) && x11) || (!x17)) || (!x24)) x32) ?_
            dsimp only [putT, List.toList_toArray, List.set_cons_zero, List.set_cons_succ]
            refine q_move 94 93 rfl (by first | exact Or.inl rfl | exact Or.inr rfl) rfl rfl ?_
            dsimp only [putT, List.toList_toArray, List.set_cons_zero, List.set_cons_succ]
            refine q_if1 95 1 (g := (!(((((x2 && x6) && x11) || (!x17)) || (!x24)) || x32))) (v := ?_) rfl rfl (by exact (want_at rfl rfl rfl).trans (wb_f (((((x2 && x6) && x11) || (!x17)) || (!x24)) || x32))) ?_ ?_
            rotate_left
            · (intro hg A hA wS hS; (try rw [hg, sel_true] at hA); (try simp only [Bool.and_eq_true, Bool.not_eq_true', Bool.or_eq_false_iff] at hg); (have f0 := cell_later hS C0.out; have f1 := cell_later hS C1.out; have f2 := cell_later hS C2.out; have y0 := cell_later hS k0; have y1 := cell_later hS k1; have y2 := cell_later hS k2'; have y3 := cell_later hS k3); go_simp; (try with_reducible rfl))
            dsimp only [putT, List.toList_toArray, List.set_cons_zero, List.set_cons_succ]
            refine q_moveg 96 6 (g := (!(((((x2 && x6) && x11) || (!x17)) || (!x24)) || x32))) rfl rfl (by exact (want_at rfl rfl rfl).trans (wb_f (((((x2 && x6) && x11) || (!x17)) || (!x24)) || x32))) (by first | exact Or.inr rfl | exact Or.inl rfl) ?_
            dsimp only [putT, List.toList_toArray, List.set_cons_zero, List.set_cons_succ]
            refine q_if1 97 5 (g := (!(((((x2 && x6) && x11) || (!x17)) || (!x24)) || x32))) (v := ?_) rfl rfl (by exact (want_at rfl rfl rfl).trans (wb_f (((((x2 && x6) && x11) || (!x17)) || (!x24)) || x32))) ?_ ?_
            rotate_left
            · (intro hg A hA wS hS; (try rw [hg, sel_true] at hA); (try simp only [Bool.and_eq_true, Bool.not_eq_true', Bool.or_eq_false_iff] at hg); skip; go_simp; (try with_reducible rfl))
            dsimp only [putT, List.toList_toArray, List.set_cons_zero, List.set_cons_succ]
            refine q_if1 98 97 (g := (!(((((x2 && x6) && x11) || (!x17)) || (!x24)) || x32))) (v := ?_) rfl rfl (by exact (want_at rfl rfl rfl).trans (wb_f (((((x2 && x6) && x11) || (!x17)) || (!x24)) || x32))) ?_ ?_
            rotate_left
            · (intro hg A hA wS hS; (try rw [hg, sel_true] at hA); (try simp only [Bool.and_eq_true, Bool.not_eq_true', Bool.or_eq_false_iff] at hg); (have f0 := cell_later hS C0.out; have f1 := cell_later hS C1.out; have f2 := cell_later hS C2.out; have y0 := cell_later hS k0; have y1 := cell_later hS k1; have y2 := cell_later hS k2'; have y3 := cell_later hS k3); go_simp; (try with_reducible rfl))
            dsimp only [putT, List.toList_toArray, List.set_cons_zero, List.set_cons_succ]
            refine q_callif 99 51 (g := (!(((((x2 && x6) && x11) || (!x17)) || (!x24)) || x32))) (v := .bool x39) (args := ?_) rfl (by exact (want_at rfl rfl rfl).trans (wb_f (((((x2 && x6) && x11) || (!x17)) || (!x24)) || x32))) ?_ ?_ ?_
            rotate_left 1
            · (intro hg wS hS; (try simp only [hg, sel_true]); (try simp only [Bool.and_eq_true, Bool.not_eq_true', Bool.or_eq_false_iff] at hg); go_simp; (try with_reducible rfl))
            · (intro hg wS hS; (try simp only [Bool.and_eq_true, Bool.not_eq_true', Bool.or_eq_false_iff] at hg); refine (rmade_any _ _ _ q X _ f.of (HHr.out.keep hS)).mono ?_; (rw [hx39]; rintro e w2 ⟨rfl, hb2⟩; exact ⟨rfl, Below.next hS hb2⟩))
            dsimp only [putT, List.toList_toArray, List.set_cons_zero, List.set_cons_succ]
            refine q_if1 100 99 (g := (!(((((x2 && x6) && x11) || (!x17)) || (!x24)) || x32))) (v := ?_) rfl rfl (by exact (want_at rfl rfl rfl).trans (wb_f (((((x2 && x6) && x11) || (!x17)) || (!x24)) || x32))) ?_ ?_
            rotate_left
            · (intro hg A hA wS hS; (try rw [hg, sel_true] at hA); (try simp only [Bool.and_eq_true, Bool.not_eq_true', Bool.or_eq_false_iff] at hg); skip; go_simp; (try with_reducible rfl))
            dsimp only [putT, List.toList_toArray, List.set_cons_zero, List.set_cons_succ]
            refine q_pick 101 94 100 (v := .bool ((((((x2 && x6) && x11) || (!x17)) || (!x24)) || x32) || (!x39))) rfl rfl rfl rfl rfl (pk_or (((((x2 && x6) && x11) || (!x17)) || (!x24)) || x32) (!x39)) ?_
            dsimp only [putT, List.toList_toArray, List.set_cons_zero, List.set_cons_succ]
            refine wpQuiet_nil ?_
            intro wS hS
            rw [HV.out]
            have hB2 := Below.next hB (Below.next hBs (Below.next hBW hS))
            have hBr2 := Below.next hBs (Below.next hBW hS)
            by_cases hok : frmOK X f
            · rw [yb hok]
              have HOK := Lib.hid hok
              clear hok hx2 hx6 hx11 hx17 hx24 hx32 hx39 k0 k1 k2' k3
              go_wp2_with fail
              go_roundw
              case rel => exact ⟨k2 + 1, by omega, by go_num, hBr2, fun j hj => by
                by_cases hjk : j = k2
                · subst hjk; rw [HFf.out]; exact HOK.out
                · exact HZ1.out j (by omega)⟩
              case measure => simp [intOf]; omega
            · rw [nb hok]
              obtain rfl : er = 3 := by rw [← HR.out]; unfold chkE; exact if_neg (fun hg => hok (by rw [← HFf.out]; exact (HSQ.out.1 hg).2.2 k2 hlt))
              clear hok hx2 hx6 hx11 hx17 hx24 hx32 hx39 k0 k1 k2' k3
              go_wp2_with fail
              go_ret
              exact ⟨rfl, hB2⟩
          · have d4 : (f.kd == 3) = false := by simp [h3]
            have hv := frm_b (X := X) (f := f) (o := f.tt) (by rw [if_neg h3])
            have h3' := Lib.hid h3
            clear h3
            go_upto_region 15 with fail
            clear d4
            obtain ⟨x2, hx2⟩ : ∃ b, (f.kd != 3) = b := ⟨_, rfl⟩
            obtain ⟨x6, hx6⟩ : ∃ b, (f.kd != 5) = b := ⟨_, rfl⟩
            obtain ⟨x11, hx11⟩ : ∃ b, (f.kd != 6) = b := ⟨_, rfl⟩
            obtain ⟨x17, hx17⟩ : ∃ b, decide (isN X f.fr) = b := ⟨_, rfl⟩
            obtain ⟨x24, hx24⟩ : ∃ b, decide (isN X f.tt) = b := ⟨_, rfl⟩
            obtain ⟨x32, hx32⟩ : ∃ b, (f.fr == f.tt) = b := ⟨_, rfl⟩
            obtain ⟨x39, hx39⟩ : ∃ b, decide (madeP X f.tt f.of) = b := ⟨_, rfl⟩
            rw [hx2, hx6, hx11, hx17, hx24, hx32, hx39] at hv
            have HV := Lib.hid hv
            clear hv
            refine wp_region_symL (fun w' => Below W2.heap.size W2 w') (Below.refl _ W2) ?_
            refine q_run1 60 5 (v := ?_) rfl rfl rfl ?_ ?_
            rotate_left
            · (intro A hA wS hS; skip; go_simp; (try with_reducible rfl))
            dsimp only [putT, List.toList_toArray, List.set_cons_zero, List.set_cons_succ]
            refine q_run1 61 60 (v := ?_) rfl rfl rfl ?_ ?_
            rotate_left
            · (intro A hA wS hS; (have f0 := cell_later hS C0.out; have f1 := cell_later hS C1.out; have f2 := cell_later hS C2.out; have y0 := cell_later hS k0; have y1 := cell_later hS k1; have y2 := cell_later hS k2'; have y3 := cell_later hS k3); go_simp; (try with_reducible rfl))
            dsimp only [putT, List.toList_toArray, List.set_cons_zero, List.set_cons_succ]
            refine q_run1 62 61 (v := ?_) rfl rfl rfl ?_ ?_
            rotate_left
            · (intro A hA wS hS; skip; go_simp; (try with_reducible rfl))
            dsimp only [putT, List.toList_toArray, List.set_cons_zero, List.set_cons_succ]
            refine q_move 63 62 rfl (by first | exact Or.inl rfl | exact Or.inr rfl) rfl rfl ?_
            dsimp only [putT, List.toList_toArray, List.set_cons_zero, List.set_cons_succ]
            refine q_if1 64 5 (g := x2) (v := ?_) rfl rfl (by exact (want_at rfl rfl rfl).trans (wb_t x2)) ?_ ?_
            rotate_left
            · (intro hg A hA wS hS; (try rw [hg, sel_true] at hA); (try simp only [Bool.and_eq_true, Bool.not_eq_true', Bool.or_eq_false_iff] at hg); skip; go_simp; (try with_reducible rfl))
            dsimp only [putT, List.toList_toArray, List.set_cons_zero, List.set_cons_succ]
            refine q_if1 65 64 (g := x2) (v := ?_) rfl rfl (by exact (want_at rfl rfl rfl).trans (wb_t x2)) ?_ ?_
            rotate_left
            · (intro hg A hA wS hS; (try rw [hg, sel_true] at hA); (try simp only [Bool.and_eq_true, Bool.not_eq_true', Bool.or_eq_false_iff] at hg); (have f0 := cell_later hS C0.out; have f1 := cell_later hS C1.out; have f2 := cell_later hS C2.out; have y0 := cell_later hS k0; have y1 := cell_later hS k1; have y2 := cell_later hS k2'; have y3 := cell_later hS k3); go_simp; (try with_reducible rfl))
            dsimp only [putT, List.toList_toArray, List.set_cons_zero, List.set_cons_succ]
            refine q_if1 66 65 (g := x2) (v := ?_) rfl rfl (by exact (want_at rfl rfl rfl).trans (wb_t x2)) ?_ ?_
            rotate_left
            · (intro hg A hA wS hS; (try rw [hg, sel_true] at hA); (try simp only [Bool.and_eq_true, Bool.not_eq_true', Bool.or_eq_false_iff] at hg); skip; go_simp; (try with_reducible rfl))
            dsimp only [putT, List.toList_toArray, List.set_cons_zero, List.set_cons_succ]
            refine q_pickA 67 63 66 (v := .bool (x2 && x6)) rfl rfl rfl rfl rfl (pk_and x2 x6) ?_
            dsimp only [putT, List.toList_toArray, List.set_cons_zero, List.set_cons_succ]
            refine q_move 68 67 rfl (by first | exact Or.inl rfl | exact Or.inr rfl) rfl rfl ?_
            dsimp only [putT, List.toList_toArray, List.set_cons_zero, List.set_cons_succ]
            refine q_if1 69 5 (g := (x2 && x6)) (v := ?_) rfl rfl (by exact (want_at rfl rfl rfl).trans (wb_t (x2 && x6))) ?_ ?_
            rotate_left
            · (intro hg A hA wS hS; (try rw [hg, sel_true] at hA); (try simp only [Bool.and_eq_true, Bool.not_eq_true', Bool.or_eq_false_iff] at hg); skip; go_simp; (try with_reducible rfl))
            dsimp only [putT, List.toList_toArray, List.set_cons_zero, List.set_cons_succ]
            refine q_if1 70 69 (g := (x2 && x6)) (v := ?_) rfl rfl (by exact (want_at rfl rfl rfl).trans (wb_t (x2 && x6))) ?_ ?_
            rotate_left
            · (intro hg A hA wS hS; (try rw [hg, sel_true] at hA); (try simp only [Bool.and_eq_true, Bool.not_eq_true', Bool.or_eq_false_iff] at hg); (have f0 := cell_later hS C0.out; have f1 := cell_later hS C1.out; have f2 := cell_later hS C2.out; have y0 := cell_later hS k0; have y1 := cell_later hS k1; have y2 := cell_later hS k2'; have y3 := cell_later hS k3); go_simp; (try with_reducible rfl))
            dsimp only [putT, List.toList_toArray, List.set_cons_zero, List.set_cons_succ]
            refine q_if1 71 70 (g := (x2 && x6)) (v := ?_) rfl rfl (by exact (want_at rfl rfl rfl).trans (wb_t (x2 && x6))) ?_ ?_
            rotate_left
            · (intro hg A hA wS hS; (try rw [hg, sel_true] at hA); (try simp only [Bool.and_eq_true, Bool.not_eq_true', Bool.or_eq_false_iff] at hg); skip; go_simp; (try with_reducible rfl))
            dsimp only [putT, List.toList_toArray, List.set_cons_zero, List.set_cons_succ]
            refine q_pickA 72 68 71 (v := .bool ((x2 && x6) && x11)) rfl rfl rfl rfl rfl (pk_and (x2 && x6) x11) ?_
            dsimp only [putT, List.toList_toArray, List.set_cons_zero, List.set_cons_succ]
            refine q_move 73 72 rfl (by first | exact Or.inl rfl | exact Or.inr rfl) rfl rfl ?_
            dsimp only [putT, List.toList_toArray, List.set_cons_zero, List.set_cons_succ]
            refine q_if1 74 1 (g := (!((x2 && x6) && x11))) (v := ?_) rfl rfl (by exact (want_at rfl rfl rfl).trans (wb_f ((x2 && x6) && x11))) ?_ ?_
            rotate_left
            · (intro hg A hA wS hS; (try rw [hg, sel_true] at hA); (try simp only [Bool.and_eq_true, Bool.not_eq_true', Bool.or_eq_false_iff] at hg); (have f0 := cell_later hS C0.out; have f1 := cell_later hS C1.out; have f2 := cell_later hS C2.out; have y0 := cell_later hS k0; have y1 := cell_later hS k1; have y2 := cell_later hS k2'; have y3 := cell_later hS k3); go_simp; (try with_reducible rfl))
            dsimp only [putT, List.toList_toArray, List.set_cons_zero, List.set_cons_succ]
            refine q_if1 75 5 (g := (!((x2 && x6) && x11))) (v := ?_) rfl rfl (by exact (want_at rfl rfl rfl).trans (wb_f ((x2 && x6) && x11))) ?_ ?_
            rotate_left
            · (intro hg A hA wS hS; (try rw [hg, sel_true] at hA); (try simp only [Bool.and_eq_true, Bool.not_eq_true', Bool.or_eq_false_iff] at hg); skip; go_simp; (try with_reducible rfl))
            dsimp only [putT, List.toList_toArray, List.set_cons_zero, List.set_cons_succ]
            refine q_if1 76 75 (g := (!((x2 && x6) && x11))) (v := ?_) rfl rfl (by exact (want_at rfl rfl rfl).trans (wb_f ((x2 && x6) && x11))) ?_ ?_
            rotate_left
            · (intro hg A hA wS hS; (try rw [hg, sel_true] at hA); (try simp only [Bool.and_eq_true, Bool.not_eq_true', Bool.or_eq_false_iff] at hg); (have f0 := cell_later hS C0.out; have f1 := cell_later hS C1.out; have f2 := cell_later hS C2.out; have y0 := cell_later hS k0; have y1 := cell_later hS k1; have y2 := cell_later hS k2'; have y3 := cell_later hS k3); go_simp; (try with_reducible rfl))
            dsimp only [putT, List.toList_toArray, List.set_cons_zero, List.set_cons_succ]
            refine q_callif 77 49 (g := (!((x2 && x6) && x11))) (v := .bool x17) (args := ?_) rfl (by exact (want_at rfl rfl rfl).trans (wb_f ((x2 && x6) && x11))) ?_ ?_ ?_
            rotate_left 1
            · (intro hg wS hS; (try simp only [hg, sel_true]); (try simp only [Bool.and_eq_true, Bool.not_eq_true', Bool.or_eq_false_iff] at hg); go_simp; (try with_reducible rfl))
            · (intro hg wS hS; (try simp only [Bool.and_eq_true, Bool.not_eq_true', Bool.or_eq_false_iff] at hg); refine (rnode_any _ _ _ q X f.fr (HHr.out.keep hS)).mono ?_; (rw [hx17]; rintro e w2 ⟨rfl, hb2⟩; exact ⟨rfl, Below.next hS hb2⟩))
            dsimp only [putT, List.toList_toArray, List.set_cons_zero, List.set_cons_succ]
            refine q_if1 78 77 (g := (!((x2 && x6) && x11))) (v := ?_) rfl rfl (by exact (want_at rfl rfl rfl).trans (wb_f ((x2 && x6) && x11))) ?_ ?_
            rotate_left
            · (intro hg A hA wS hS; (try rw [hg, sel_true] at hA); (try simp only [Bool.and_eq_true, Bool.not_eq_true', Bool.or_eq_false_iff] at hg); skip; go_simp; (try with_reducible rfl))
            dsimp only [putT, List.toList_toArray, List.set_cons_zero, List.set_cons_succ]
            refine q_pick 79 73 78 (v := .bool (((x2 && x6) && x11) || (!x17))) rfl rfl rfl rfl rfl (pk_or ((x2 && x6) && x11) (!x17)) ?_
            dsimp only [putT, List.toList_toArray, List.set_cons_zero, List.set_cons_succ]
            refine q_move 80 79 rfl (by first | exact Or.inl rfl | exact Or.inr rfl) rfl rfl ?_
            dsimp only [putT, List.toList_toArray, List.set_cons_zero, List.set_cons_succ]
            refine q_if1 81 1 (g := (!(((x2 && x6) && x11) || (!x17)))) (v := ?_) rfl rfl (by exact (want_at rfl rfl rfl).trans (wb_f (((x2 && x6) && x11) || (!x17)))) ?_ ?_
            rotate_left
            · (intro hg A hA wS hS; (try rw [hg, sel_true] at hA); (try simp only [Bool.and_eq_true, Bool.not_eq_true', Bool.or_eq_false_iff] at hg); (have f0 := cell_later hS C0.out; have f1 := cell_later hS C1.out; have f2 := cell_later hS C2.out; have y0 := cell_later hS k0; have y1 := cell_later hS k1; have y2 := cell_later hS k2'; have y3 := cell_later hS k3); go_simp; (try with_reducible rfl))
            dsimp only [putT, List.toList_toArray, List.set_cons_zero, List.set_cons_succ]
            refine q_if1 82 5 (g := (!(((x2 && x6) && x11) || (!x17)))) (v := ?_) rfl rfl (by exact (want_at rfl rfl rfl).trans (wb_f (((x2 && x6) && x11) || (!x17)))) ?_ ?_
            rotate_left
            · (intro hg A hA wS hS; (try rw [hg, sel_true] at hA); (try simp only [Bool.and_eq_true, Bool.not_eq_true', Bool.or_eq_false_iff] at hg); skip; go_simp; (try with_reducible rfl))
            dsimp only [putT, List.toList_toArray, List.set_cons_zero, List.set_cons_succ]
            refine q_if1 83 82 (g := (!(((x2 && x6) && x11) || (!x17)))) (v := ?_) rfl rfl (by exact (want_at rfl rfl rfl).trans (wb_f (((x2 && x6) && x11) || (!x17)))) ?_ ?_
            rotate_left
            · (intro hg A hA wS hS; (try rw [hg, sel_true] at hA); (try simp only [Bool.and_eq_true, Bool.not_eq_true', Bool.or_eq_false_iff] at hg); (have f0 := cell_later hS C0.out; have f1 := cell_later hS C1.out; have f2 := cell_later hS C2.out; have y0 := cell_later hS k0; have y1 := cell_later hS k1; have y2 := cell_later hS k2'; have y3 := cell_later hS k3); go_simp; (try with_reducible rfl))
            dsimp only [putT, List.toList_toArray, List.set_cons_zero, List.set_cons_succ]
            refine q_callif 84 49 (g := (!(((x2 && x6) && x11) || (!x17)))) (v := .bool x24) (args := ?_) rfl (by exact (want_at rfl rfl rfl).trans (wb_f (((x2 && x6) && x11) || (!x17)))) ?_ ?_ ?_
            rotate_left 1
            · (intro hg wS hS; (try simp only [hg, sel_true]); (try simp only [Bool.and_eq_true, Bool.not_eq_true', Bool.or_eq_false_iff] at hg); go_simp; (try with_reducible rfl))
            · (intro hg wS hS; (try simp only [Bool.and_eq_true, Bool.not_eq_true', Bool.or_eq_false_iff] at hg); refine (rnode_any _ _ _ q X f.tt (HHr.out.keep hS)).mono ?_; (rw [hx24]; rintro e w2 ⟨rfl, hb2⟩; exact ⟨rfl, Below.next hS hb2⟩))
            dsimp only [putT, List.toList_toArray, List.set_cons_zero, List.set_cons_succ]
            refine q_if1 85 84 (g := (!(((x2 && x6) && x11) || (!x17)))) (v := ?_) rfl rfl (by exact (want_at rfl rfl rfl).trans (wb_f (((x2 && x6) && x11) || (!x17)))) ?_ ?_
            rotate_left
            · (intro hg A hA wS hS; (try rw [hg, sel_true] at hA); (try simp only [Bool.and_eq_true, Bool.not_eq_true', Bool.or_eq_false_iff] at hg); skip; go_simp; (try with_reducible rfl))
            dsimp only [putT, List.toList_toArray, List.set_cons_zero, List.set_cons_succ]
            refine q_pick 86 80 85 (v := .bool ((((x2 && x6) && x11) || (!x17)) || (!x24))) rfl rfl rfl rfl rfl (pk_or (((x2 && x6) && x11) || (!x17)) (!x24)) ?_
            dsimp only [putT, List.toList_toArray, List.set_cons_zero, List.set_cons_succ]
            refine q_move 87 86 rfl (by first | exact Or.inl rfl | exact Or.inr rfl) rfl rfl ?_
            dsimp only [putT, List.toList_toArray, List.set_cons_zero, List.set_cons_succ]
            refine q_if1 88 5 (g := (!((((x2 && x6) && x11) || (!x17)) || (!x24)))) (v := ?_) rfl rfl (by exact (want_at rfl rfl rfl).trans (wb_f ((((x2 && x6) && x11) || (!x17)) || (!x24)))) ?_ ?_
            rotate_left
            · (intro hg A hA wS hS; (try rw [hg, sel_true] at hA); (try simp only [Bool.and_eq_true, Bool.not_eq_true', Bool.or_eq_false_iff] at hg); skip; go_simp; (try with_reducible rfl))
            dsimp only [putT, List.toList_toArray, List.set_cons_zero, List.set_cons_succ]
            refine q_if1 89 88 (g := (!((((x2 && x6) && x11) || (!x17)) || (!x24)))) (v := ?_) rfl rfl (by exact (want_at rfl rfl rfl).trans (wb_f ((((x2 && x6) && x11) || (!x17)) || (!x24)))) ?_ ?_
            rotate_left
            · (intro hg A hA wS hS; (try rw [hg, sel_true] at hA); (try simp only [Bool.and_eq_true, Bool.not_eq_true', Bool.or_eq_false_iff] at hg); (have f0 := cell_later hS C0.out; have f1 := cell_later hS C1.out; have f2 := cell_later hS C2.out; have y0 := cell_later hS k0; have y1 := cell_later hS k1; have y2 := cell_later hS k2'; have y3 := cell_later hS k3); go_simp; (try with_reducible rfl))
            dsimp only [putT, List.toList_toArray, List.set_cons_zero, List.set_cons_succ]
            refine q_if1 90 5 (g := (!((((x2 && x6) && x11) || (!x17)) || (!x24)))) (v := ?_) rfl rfl (by exact (want_at rfl rfl rfl).trans (wb_f ((((x2 && x6) && x11) || (!x17)) || (!x24)))) ?_ ?_
            rotate_left
            · (intro hg A hA wS hS; (try rw [hg, sel_true] at hA); (try simp only [Bool.and_eq_true, Bool.not_eq_true', Bool.or_eq_false_iff] at hg); skip; go_simp; (try with_reducible rfl))
            dsimp only [putT, List.toList_toArray, List.set_cons_zero, List.set_cons_succ]
            refine q_if1 91 90 (g := (!((((x2 && x6) && x11) || (!x17)) || (!x24)))) (v := ?_) rfl rfl (by exact (want_at rfl rfl rfl).trans (wb_f ((((x2 && x6) && x11) || (!x17)) || (!x24)))) ?_ ?_
            rotate_left
            · (intro hg A hA wS hS; (try rw [hg, sel_true] at hA); (try simp only [Bool.and_eq_true, Bool.not_eq_true', Bool.or_eq_false_iff] at hg); (have f0 := cell_later hS C0.out; have f1 := cell_later hS C1.out; have f2 := cell_later hS C2.out; have y0 := cell_later hS k0; have y1 := cell_later hS k1; have y2 := cell_later hS k2'; have y3 := cell_later hS k3); go_simp; (try with_reducible rfl))
            dsimp only [putT, List.toList_toArray, List.set_cons_zero, List.set_cons_succ]
            refine q_if2 92 89 91 (g := (!((((x2 && x6) && x11) || (!x17)) || (!x24)))) (v := ?_) rfl rfl rfl (by exact (want_at rfl rfl rfl).trans (wb_f ((((x2 && x6) && x11) || (!x17)) || (!x24)))) ?_ ?_
            rotate_left
            · (intro hg A hA hA2 wS hS; (try rw [hg, sel_true] at hA); (try rw [hg, sel_true] at hA2); (try simp only [Bool.and_eq_true, Bool.not_eq_true', Bool.or_eq_false_iff] at hg); skip; go_simp; (try with_reducible rfl))
            dsimp only [putT, List.toList_toArray, List.set_cons_zero, List.set_cons_succ]
            refine q_pick 93 87 92 (v := .bool (((((x2 && x6) && x11) || (!x17)) || (!x24)) || x32)) rfl rfl rfl rfl rfl (pk_or ((((x2 && x6) && x11) || (!x17)) || (!x24)) x32) ?_
            dsimp only [putT, List.toList_toArray, List.set_cons_zero, List.set_cons_succ]
            refine q_move 94 93 rfl (by first | exact Or.inl rfl | exact Or.inr rfl) rfl rfl ?_
            dsimp only [putT, List.toList_toArray, List.set_cons_zero, List.set_cons_succ]
            refine q_if1 95 1 (g := (!(((((x2 && x6) && x11) || (!x17)) || (!x24)) || x32))) (v := ?_) rfl rfl (by exact (want_at rfl rfl rfl).trans (wb_f (((((x2 && x6) && x11) || (!x17)) || (!x24)) || x32))) ?_ ?_
            rotate_left
            · (intro hg A hA wS hS; (try rw [hg, sel_true] at hA); (try simp only [Bool.and_eq_true, Bool.not_eq_true', Bool.or_eq_false_iff] at hg); (have f0 := cell_later hS C0.out; have f1 := cell_later hS C1.out; have f2 := cell_later hS C2.out; have y0 := cell_later hS k0; have y1 := cell_later hS k1; have y2 := cell_later hS k2'; have y3 := cell_later hS k3); go_simp; (try with_reducible rfl))
            dsimp only [putT, List.toList_toArray, List.set_cons_zero, List.set_cons_succ]
            refine q_moveg 96 6 (g := (!(((((x2 && x6) && x11) || (!x17)) || (!x24)) || x32))) rfl rfl (by exact (want_at rfl rfl rfl).trans (wb_f (((((x2 && x6) && x11) || (!x17)) || (!x24)) || x32))) (by first | exact Or.inr rfl | exact Or.inl rfl) ?_
            dsimp only [putT, List.toList_toArray, List.set_cons_zero, List.set_cons_succ]
            refine q_if1 97 5 (g := (!(((((x2 && x6) && x11) || (!x17)) || (!x24)) || x32))) (v := ?_) rfl rfl (by exact (want_at rfl rfl rfl).trans (wb_f (((((x2 && x6) && x11) || (!x17)) || (!x24)) || x32))) ?_ ?_
            rotate_left
            · (intro hg A hA wS hS; (try rw [hg, sel_true] at hA); (try simp only [Bool.and_eq_true, Bool.not_eq_true', Bool.or_eq_false_iff] at hg); skip; go_simp; (try with_reducible rfl))
            dsimp only [putT, List.toList_toArray, List.set_cons_zero, List.set_cons_succ]
            refine q_if1 98 97 (g := (!(((((x2 && x6) && x11) || (!x17)) || (!x24)) || x32))) (v := ?_) rfl rfl (by exact (want_at rfl rfl rfl).trans (wb_f (((((x2 && x6) && x11) || (!x17)) || (!x24)) || x32))) ?_ ?_
            rotate_left
            · (intro hg A hA wS hS; (try rw [hg, sel_true] at hA); (try simp only [Bool.and_eq_true, Bool.not_eq_true', Bool.or_eq_false_iff] at hg); (have f0 := cell_later hS C0.out; have f1 := cell_later hS C1.out; have f2 := cell_later hS C2.out; have y0 := cell_later hS k0; have y1 := cell_later hS k1; have y2 := cell_later hS k2'; have y3 := cell_later hS k3); go_simp; (try with_reducible rfl))
            dsimp only [putT, List.toList_toArray, List.set_cons_zero, List.set_cons_succ]
            refine q_callif 99 51 (g := (!(((((x2 && x6) && x11) || (!x17)) || (!x24)) || x32))) (v := .bool x39) (args := ?_) rfl (by exact (want_at rfl rfl rfl).trans (wb_f (((((x2 && x6) && x11) || (!x17)) || (!x24)) || x32))) ?_ ?_ ?_
            rotate_left 1
            · (intro hg wS hS; (try simp only [hg, sel_true]); (try simp only [Bool.and_eq_true, Bool.not_eq_true', Bool.or_eq_false_iff] at hg); go_simp; (try with_reducible rfl))
            · (intro hg wS hS; (try simp only [Bool.and_eq_true, Bool.not_eq_true', Bool.or_eq_false_iff] at hg); refine (rmade_any _ _ _ q X _ f.of (HHr.out.keep hS)).mono ?_; (rw [hx39]; rintro e w2 ⟨rfl, hb2⟩; exact ⟨rfl, Below.next hS hb2⟩))
            dsimp only [putT, List.toList_toArray, List.set_cons_zero, List.set_cons_succ]
            refine q_if1 100 99 (g := (!(((((x2 && x6) && x11) || (!x17)) || (!x24)) || x32))) (v := ?_) rfl rfl (by exact (want_at rfl rfl rfl).trans (wb_f (((((x2 && x6) && x11) || (!x17)) || (!x24)) || x32))) ?_ ?_
            rotate_left
            · (intro hg A hA wS hS; (try rw [hg, sel_true] at hA); (try simp only [Bool.and_eq_true, Bool.not_eq_true', Bool.or_eq_false_iff] at hg); skip; go_simp; (try with_reducible rfl))
            dsimp only [putT, List.toList_toArray, List.set_cons_zero, List.set_cons_succ]
            refine q_pick 101 94 100 (v := .bool ((((((x2 && x6) && x11) || (!x17)) || (!x24)) || x32) || (!x39))) rfl rfl rfl rfl rfl (pk_or (((((x2 && x6) && x11) || (!x17)) || (!x24)) || x32) (!x39)) ?_
            dsimp only [putT, List.toList_toArray, List.set_cons_zero, List.set_cons_succ]
            refine wpQuiet_nil ?_
            intro wS hS
            rw [HV.out]
            have hB2 := Below.next hB (Below.next hBs (Below.next hBW hS))
            have hBr2 := Below.next hBs (Below.next hBW hS)
            by_cases hok : frmOK X f
            · rw [yb hok]
              have HOK := Lib.hid hok
              clear hok hx2 hx6 hx11 hx17 hx24 hx32 hx39 k0 k1 k2' k3
              go_wp2_with fail
              go_roundw
              case rel => exact ⟨k2 + 1, by omega, by go_num, hBr2, fun j hj => by
                by_cases hjk : j = k2
                · subst hjk; rw [HFf.out]; exact HOK.out
                · exact HZ1.out j (by omega)⟩
              case measure => simp [intOf]; omega
            · rw [nb hok]
              obtain rfl : er = 3 := by rw [← HR.out]; unfold chkE; exact if_neg (fun hg => hok (by rw [← HFf.out]; exact (HSQ.out.1 hg).2.2 k2 hlt))
              clear hok hx2 hx6 hx11 hx17 hx24 hx32 hx39 k0 k1 k2' k3
              go_wp2_with fail
              go_ret
              exact ⟨rfl, hB2⟩
        · obtain rfl : k2 = F := by omega
          have d3 : decide ((k2 : Int) < (k2 : Int)) = false := nb (by omega)
          obtain rfl : er = 0 := by rw [← HR.out]; unfold chkE; exact if_pos (HSQ.out.2 ⟨HB1.out, HZ0.out, HZ1.out⟩)
          go_wp2_with fail
          go_ret
          exact ⟨rfl, Below.next hB hBs⟩
end Go.Proofs.Ytnkpjfogjkjcfaa
