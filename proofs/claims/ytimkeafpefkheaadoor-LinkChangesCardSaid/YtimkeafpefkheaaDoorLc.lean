

/- Links: LinkChanges holds of what is computed (walk). -/
import Derived.Test.YtimkeafpefkheaaDoorPc
import Derived.Test.YtimkeafpefkheaaDoorKn
import Derived.Test.YtimkeafpefkheaaDoorSm
namespace Go.Proofs.YtimkeafpefkheaaDoor
open Go.RowKit
set_option linter.unusedSimpArgs false
set_option linter.unusedVariables false
set_option maxRecDepth 100000

theorem trok_of {a b c d : Int} (h1 : 0 ≤ a ∧ a ≤ 1000000) (h2 : Ib b) (h3 : 0 ≤ c ∧ c ≤ 1000000) (h4 : 0 ≤ d ∧ d ≤ 1000000) : TrOk ⟨a, b, c, d⟩ :=
  ⟨⟨by dsimp only; omega, by dsimp only; omega⟩, h2, ⟨by dsimp only; omega, by dsimp only; omega⟩, ⟨by dsimp only; omega, by dsimp only; omega⟩⟩
set_option maxHeartbeats 8000000 in
theorem changes_any (v : Value) (xs : List Int) (hib : ∀ x, x ∈ xs → Ib x) (n : Int) (hn : Ib n) (w : World) (hkd : KD w) (h : RdI .i64 w v xs) :
    Calls Tryd.prog 7 #[v, .int .i64 n] w fun x w' => x = .returned (.bool true) ∧ Below w.heap.size w w' := by
  have HKD := Lib.hid hkd
  have HX := Lib.hid h
  clear hkd h
  go_enter Tryd.func7, Tryd.ntmps7
  go_wp2_with fail
  refine (known_any _ HKD.out).mono ?_
  rintro x w1 ⟨rfl, hB⟩
  have HX := Lib.hid (HX.out.keep hB)
  have HKD := Lib.hid (HKD.out.keep hB)
  go_wp2_with fail
  refine (made_any _ xs hib _ HX.out).mono ?_
  rintro x w2 ⟨v0, l, rfl, hr, hl12, hsm, hb2⟩
  have HKD := Lib.hid (HKD.out.keep hb2)
  have hB := Below.next hB hb2
  have HSM : Hid (Sml 5 l) := hsm
  obtain ⟨a0, n0, rfl⟩ := hr.form
  obtain ⟨N, hN⟩ : ∃ N, l.length = N := ⟨_, rfl⟩
  rw [hN] at hr hl12 ⊢
  have HN := Lib.hid hN
  have HV := Lib.hid hr
  clear hb2 hr hsm HX hN
  by_cases h0 : N = 0
  · have d0 : ((N : Int) == 0) = true := by simp [h0]
    clear h0
    go_wp2_with fail
    go_ret
    exact ⟨rfl, hB⟩
  · have d0 : ((N : Int) == 0) = false := by simp; omega
    have hte := trb_ok (l := l) (by rw [HN.out]; omega) (by rw [HN.out]; omega) (fun s hs => by have := HSM.out s hs; omega) (n % 1073741824) (by omega)
    have HTE := Lib.hid hte.1
    have HTK := Lib.hid hte.2
    clear hte
    go_wp2_with fail
    refine (trouble_any _ l n hn (by rw [HN.out]; omega) (by rw [HN.out]; omega) (fun s hs => by have := HSM.out s hs; omega) _ HV.out).mono ?_
    obtain ⟨⟨tk, ti, tj, tb⟩, HT⟩ : ∃ t, Hid (trbV l (n % 1073741824) = t) := ⟨_, rfl⟩
    rw [HT.out] at HTE HTK ⊢
    rintro e w3 ⟨rfl, hb3⟩
    obtain ⟨W, hW⟩ : ∃ W : World, W = w3.alloc (.cells #[.int .i64 tk, .int .i64 ti, .int .i64 tj, .int .i64 tb] 36) := ⟨_, rfl⟩
    have hb3 : Below w2.heap.size w2 W := by rw [hW]; exact Below.al hb3 _
    have bT : BoxN W w3.heap.size 36 #[.int .i64 tk, .int .i64 ti, .int .i64 tj, .int .i64 tb] := by rw [hW]; exact BoxN.new _ _ _
    have HV := Lib.hid (HV.out.keep hb3)
    have HKD := Lib.hid (HKD.out.keep hb3)
    have hB := Below.next hB hb3
    clear hb3 HT
    go_upto_region 6 with fail
    rw [← hW]
    clear hW
    have hz := apE_zero HTE.out
    dsimp only at hz
    obtain ⟨k1, k2, i1, i2, hfit⟩ := hz
    rw [HN.out] at i2
    obtain ⟨i, rfl⟩ : ∃ i : Nat, ti = i := ⟨ti.toNat, by omega⟩
    have HFI := Lib.hid hfit
    have hiN : i < N := by omega
    have q0 : W.cell? ⟨w3.heap.size, 0, none⟩ = some (.int .i64 tk) := bT.cell 0
    have q1 : W.cell? ⟨w3.heap.size, 1, none⟩ = some (.int .i64 (i : Int)) := bT.cell 1
    have q2 : W.cell? ⟨w3.heap.size, 2, none⟩ = some (.int .i64 tj) := bT.cell 2
    have q3 : W.cell? ⟨w3.heap.size, 3, none⟩ = some (.int .i64 tb) := bT.cell 3
    have hwi : IntKind.i64.wrap (i : Int) = (i : Int) := IntWalk.i64_in _ (by omega)
    clear hfit
    have hkd : tk = 1 ∨ tk = 2 ∨ tk = 3 ∨ tk = 4 ∨ tk = 5 := by omega
    clear k1 k2
    rcases hkd with rfl | rfl | rfl | rfl | rfl
    · have HAL : Hid (apL l ⟨1, (i : Int), tj, tb⟩ = lessV l i) := by unfold Hid; simp [apL]
      obtain ⟨al, hal⟩ : ∃ al, lessV l i = al := ⟨_, rfl⟩
      have HALN : Hid (al.length = N - 1) := by unfold Hid; rw [← hal, lessV_len l (by rw [HN.out]; exact hiN), HN.out]
      rw [hal] at HAL
      clear hal
      go_wp2_with fail
      refine (apply_any _ l (HSM.out.szs (by decide)) ⟨1, (i : Int), tj, tb⟩ HTK.out.1 HTK.out.2.1 _ HKD.out HV.out).mono ?_
      unfold ApR
      rw [HTE.out, if_pos rfl, HAL.out]
      rintro e w4 ⟨v4, rfl, hr4, hb4⟩
      have HA := Lib.hid hr4
      have HV := Lib.hid (HV.out.keep hb4)
      have HKD := Lib.hid (HKD.out.keep hb4)
      have hB := Below.next hB hb4
      have bT := bT.below hb4
      have q0 := cell_later hb4 q0
      have q1 := cell_later hb4 q1
      have q2 := cell_later hb4 q2
      have q3 := cell_later hb4 q3
      clear hr4 hb4
      go_wp2_with fail
      refine (undo_any _ l (HSM.out.szs (by decide)) ⟨1, (i : Int), tj, tb⟩ HTK.out.1 HTK.out.2.1 _ HKD.out HV.out).mono ?_
      rw [show undoV l ⟨1, (i : Int), tj, tb⟩ = (⟨0, 0, 0, 0⟩, false, 0) by unfold undoV; rw [HTE.out]; rfl]
      rintro e w5 ⟨rfl, hb5⟩
      dsimp only
      have HA := Lib.hid (HA.out.keep hb5)
      have HV := Lib.hid (HV.out.keep hb5)
      have HKD := Lib.hid (HKD.out.keep hb5)
      have hB := Below.next hB hb5
      have bT := bT.below hb5
      clear q0 q1 q2 q3 hb5
      obtain ⟨X, hX⟩ : ∃ X : World, X = w5.alloc (.cells #[.int .i64 0, .int .i64 0, .int .i64 0, .int .i64 0] 36) := ⟨_, rfl⟩
      have hb6 : Below w5.heap.size w5 X := by rw [hX]; exact Below.al (Below.refl _ _) _
      have bU : BoxN X w5.heap.size 36 #[.int .i64 0, .int .i64 0, .int .i64 0, .int .i64 0] := by rw [hX]; exact BoxN.new _ _ _
      have HA := Lib.hid (HA.out.keep hb6)
      have HV := Lib.hid (HV.out.keep hb6)
      have HKD := Lib.hid (HKD.out.keep hb6)
      have hB := Below.next hB hb6
      have bT := bT.below hb6
      have q0 : X.cell? ⟨w3.heap.size, 0, none⟩ = some (.int .i64 1) := bT.cell 0
      have q1 : X.cell? ⟨w3.heap.size, 1, none⟩ = some (.int .i64 (i : Int)) := bT.cell 1
      have q2 : X.cell? ⟨w3.heap.size, 2, none⟩ = some (.int .i64 tj) := bT.cell 2
      have p0 : X.cell? ⟨w5.heap.size, 0, none⟩ = some (.int .i64 0) := bU.cell 0
      have p1 : X.cell? ⟨w5.heap.size, 1, none⟩ = some (.int .i64 0) := bU.cell 1
      have p2 : X.cell? ⟨w5.heap.size, 2, none⟩ = some (.int .i64 0) := bU.cell 2
      have p3 : X.cell? ⟨w5.heap.size, 3, none⟩ = some (.int .i64 0) := bU.cell 3
      clear hb6
      obtain ⟨a8, c8, rfl⟩ := HA.out.form
      rw [HALN.out] at HA ⊢
      go_upto_region 8 with fail
      rw [← hX]
      clear hX
      have hwN : IntKind.i64.wrap ((N : Int) - 1) = (N : Int) - 1 := IntWalk.i64_in _ (by omega)
      have dN : (((N - 1 : Nat) : Int) == (N : Int) - 1) = true := by simp; omega
      go_wp2_with fail
      go_ret
      exact ⟨rfl, hB⟩
    · have HAL : Hid (apL l ⟨2, (i : Int), tj, tb⟩ = insV l i (l.getD i e0)) := by unfold Hid; simp [apL]
      obtain ⟨s, hs⟩ : ∃ s, l.getD i e0 = s := ⟨_, rfl⟩
      rw [hs] at HAL
      obtain ⟨al, hal⟩ : ∃ al, insV l i s = al := ⟨_, rfl⟩
      have HALN : Hid (al.length = N + 1) := by unfold Hid; rw [← hal]; unfold insV; rw [List.length_append, List.length_cons, List.length_take, List.length_drop, HN.out]; omega
      have hAS : Sml 5 al := by have := apL_sml HSM.out HTE.out; rwa [HAL.out, hal] at this
      have HASZ : Hid (Szs al) := hAS.szs (by decide)
      have HUK : Hid (TrOk ⟨1, (i : Int), 0, 0⟩) := trok_of (by decide) HTK.out.2.1 (by decide) (by decide)
      have HBE : Hid (apE al ⟨1, (i : Int), 0, 0⟩ = 0) := apE_of (by rw [HALN.out]; omega) (fun s hs => by have := hAS s hs; omega) (by dsimp only; omega) (by dsimp only; omega) (by dsimp only; omega) (by rw [HALN.out]; dsimp only; omega) (fun h => by cases h) (by simp [fitT])
      have HBL : Hid (apL al ⟨1, (i : Int), 0, 0⟩ = l) := by unfold Hid; rw [← hal]; show lessV _ _ = l; exact ins_back l i s (by rw [HN.out]; omega)
      have hg1 : al.getD i e0 = s := by rw [← hal]; unfold insV; rw [List.getD_eq_getElem?_getD, List.getElem?_append_right (by rw [List.length_take]; omega)]; rw [show i - (l.take i).length = 0 by rw [List.length_take, HN.out]; omega]; rfl
      have hg2 : al.getD (i + 1) e0 = s := by
        rw [← hal, ← hs, ins_alt l i (by rw [HN.out]; exact hiN)]
        rw [List.getD_eq_getElem?_getD, List.getElem?_append_right (by rw [List.length_take]; omega), show i + 1 - (l.take (i + 1)).length = 0 by rw [List.length_take, HN.out]; omega]; rfl
      rw [hal] at HAL
      clear hal hAS
      have HG0 := Lib.hid hs
      have HG1 := Lib.hid hg1
      have HG2 := Lib.hid hg2
      clear hs hg1 hg2
      go_wp2_with fail
      refine (apply_any _ l (HSM.out.szs (by decide)) ⟨2, (i : Int), tj, tb⟩ HTK.out.1 HTK.out.2.1 _ HKD.out HV.out).mono ?_
      unfold ApR
      rw [HTE.out, if_pos rfl, HAL.out]
      rintro e w4 ⟨v4, rfl, hr4, hb4⟩
      have HA := Lib.hid hr4
      have HV := Lib.hid (HV.out.keep hb4)
      have HKD := Lib.hid (HKD.out.keep hb4)
      have hB := Below.next hB hb4
      have bT := bT.below hb4
      have q0 := cell_later hb4 q0
      have q1 := cell_later hb4 q1
      have q2 := cell_later hb4 q2
      have q3 := cell_later hb4 q3
      clear hr4 hb4
      go_wp2_with fail
      refine (undo_any _ l (HSM.out.szs (by decide)) ⟨2, (i : Int), tj, tb⟩ HTK.out.1 HTK.out.2.1 _ HKD.out HV.out).mono ?_
      rw [show undoV l ⟨2, (i : Int), tj, tb⟩ = (⟨1, (i : Int), 0, 0⟩, true, 0) by unfold undoV; rw [HTE.out]; rfl]
      rintro e w5 ⟨rfl, hb5⟩
      dsimp only
      have HA := Lib.hid (HA.out.keep hb5)
      have HV := Lib.hid (HV.out.keep hb5)
      have HKD := Lib.hid (HKD.out.keep hb5)
      have hB := Below.next hB hb5
      have bT := bT.below hb5
      clear q0 q1 q2 q3 hb5
      obtain ⟨X, hX⟩ : ∃ X : World, X = w5.alloc (.cells #[.int .i64 1, .int .i64 (i : Int), .int .i64 0, .int .i64 0] 36) := ⟨_, rfl⟩
      have hb6 : Below w5.heap.size w5 X := by rw [hX]; exact Below.al (Below.refl _ _) _
      have bU : BoxN X w5.heap.size 36 #[.int .i64 1, .int .i64 (i : Int), .int .i64 0, .int .i64 0] := by rw [hX]; exact BoxN.new _ _ _
      have HA := Lib.hid (HA.out.keep hb6)
      have HV := Lib.hid (HV.out.keep hb6)
      have HKD := Lib.hid (HKD.out.keep hb6)
      have hB := Below.next hB hb6
      have bT := bT.below hb6
      have q0 : X.cell? ⟨w3.heap.size, 0, none⟩ = some (.int .i64 2) := bT.cell 0
      have q1 : X.cell? ⟨w3.heap.size, 1, none⟩ = some (.int .i64 (i : Int)) := bT.cell 1
      have q2 : X.cell? ⟨w3.heap.size, 2, none⟩ = some (.int .i64 tj) := bT.cell 2
      have p0 : X.cell? ⟨w5.heap.size, 0, none⟩ = some (.int .i64 1) := bU.cell 0
      have p1 : X.cell? ⟨w5.heap.size, 1, none⟩ = some (.int .i64 (i : Int)) := bU.cell 1
      have p2 : X.cell? ⟨w5.heap.size, 2, none⟩ = some (.int .i64 0) := bU.cell 2
      have p3 : X.cell? ⟨w5.heap.size, 3, none⟩ = some (.int .i64 0) := bU.cell 3
      clear hb6
      obtain ⟨a8, c8, rfl⟩ := HA.out.form
      rw [HALN.out] at HA ⊢
      go_upto_region 8 with fail
      rw [← hX]
      clear hX
      go_wp2_with fail
      refine (apply_any _ al HASZ.out ⟨1, (i : Int), 0, 0⟩ HUK.out.1 HUK.out.2.1 _ HKD.out HA.out).mono ?_
      unfold ApR
      rw [HBE.out, if_pos rfl, HBL.out]
      rintro e w6 ⟨v6, rfl, hr6, hb6⟩
      have HB6 := Lib.hid hr6
      have HA := Lib.hid (HA.out.keep hb6)
      have HV := Lib.hid (HV.out.keep hb6)
      have hB := Below.next hB hb6
      have bT := bT.below hb6
      clear hr6 hb6 q0 q1 q2 p0 p1 p2 p3 bU
      go_wp2_with fail
      refine (sameTexts_eq _ _ l (by rw [HN.out]; omega) _ HB6.out HV.out).mono ?_
      rintro e w7 ⟨rfl, hb7⟩
      have HA := Lib.hid (HA.out.keep hb7)
      have HV := Lib.hid (HV.out.keep hb7)
      have hB := Below.next hB hb7
      have bT := bT.below hb7
      clear HB6 hb7
      have hwN : IntKind.i64.wrap ((N : Int) + 1) = (N : Int) + 1 := IntWalk.i64_in _ (by omega)
      have hwi1 : IntKind.i64.wrap ((i : Int) + 1) = (i : Int) + 1 := IntWalk.i64_in _ (by omega)
      have dN : (((N + 1 : Nat) : Int) == (N : Int) + 1) = true := by simp
      have q0 : w7.cell? ⟨w3.heap.size, 0, none⟩ = some (.int .i64 2) := bT.cell 0
      have q1 : w7.cell? ⟨w3.heap.size, 1, none⟩ = some (.int .i64 (i : Int)) := bT.cell 1
      obtain ⟨bl, ol, rfl, hcl, hl1⟩ := RdT.at HV.out HN.out i hiN
      obtain ⟨ba, oa, rfl, hca, ha1⟩ := RdT.at HA.out HALN.out i (by omega)
      obtain ⟨ba2, oa2, he, _, ha2⟩ := RdT.at HA.out HALN.out (i + 1) (by omega)
      cases he
      rw [HG0.out] at hl1
      rw [HG1.out] at ha1
      rw [HG2.out] at ha2
      clear bT
      have j1 : ((i : Int) + 1).toNat = i + 1 := by omega
      have j2 : (0 : Int) ≤ (i : Int) + 1 := by omega
      have j3 : (i : Int) + 1 < ((N + 1 : Nat) : Int) := by omega
      have j4 : (i : Int) < ((N + 1 : Nat) : Int) := by omega
      have j5 : (i : Int) < (N : Int) := by omega
      go_wp2_with fail
      go_quiet (fail)
      go_wp2_with fail
      go_ret
      exact ⟨rfl, below_drewN hB _⟩
    · have hj : 0 ≤ tj ∧ tj < N := by
        have := HFI.out
        simp [fitT] at this
        rw [HN.out] at this
        omega
      obtain ⟨j, rfl⟩ : ∃ j : Nat, tj = j := ⟨tj.toNat, by omega⟩
      have hjN : j < N := by omega
      have hwj : IntKind.i64.wrap (j : Int) = (j : Int) := IntWalk.i64_in _ (by omega)
      have HAL : Hid (apL l ⟨3, (i : Int), (j : Int), tb⟩ = swapV l i j) := by unfold Hid; simp [apL]
      obtain ⟨s1, hs1⟩ : ∃ s, l.getD i e0 = s := ⟨_, rfl⟩
      obtain ⟨s2, hs2⟩ : ∃ s, l.getD j e0 = s := ⟨_, rfl⟩
      have hcn := cnt_swap (l := l) (i := i) (j := j) (by rw [HN.out]; exact hiN) (by rw [HN.out]; exact hjN)
      rw [HN.out] at hcn
      obtain ⟨al, hal⟩ : ∃ al, swapV l i j = al := ⟨_, rfl⟩
      have HALN : Hid (al.length = N) := by unfold Hid; rw [← hal, swap_len, HN.out]
      have hAS : Sml 5 al := by have := apL_sml HSM.out HTE.out; rwa [HAL.out, hal] at this
      have HASZ : Hid (Szs al) := hAS.szs (by decide)
      have HUK : Hid (TrOk ⟨3, (i : Int), (j : Int), tb⟩) := HTK
      have hfb : fitT al ⟨3, (i : Int), (j : Int), tb⟩ = true := by
        have := HFI.out
        unfold fitT at this ⊢
        dsimp only at this ⊢
        rw [HALN.out]
        rwa [HN.out] at this
      have HBE : Hid (apE al ⟨3, (i : Int), (j : Int), tb⟩ = 0) := apE_of (by rw [HALN.out]; omega) (fun s hs => by have := hAS s hs; omega) (by dsimp only; omega) (by dsimp only; omega) (by dsimp only; omega) (by rw [HALN.out]; dsimp only; omega) (fun h => by cases h) hfb
      have HBL : Hid (apL al ⟨3, (i : Int), (j : Int), tb⟩ = l) := by unfold Hid; rw [← hal]; show swapV _ _ _ = l; exact swap_back (by rw [HN.out]; exact hiN) (by rw [HN.out]; exact hjN)
      have hg1 : al.getD i e0 = s2 := by
        rw [← hal, swapV_getD l i j i (by rw [HN.out]; exact hiN) (by rw [HN.out]; exact hjN)]
        split
        · rename_i h; subst h; exact hs2
        · rw [if_pos rfl]; exact hs2
      have hg2 : al.getD j e0 = s1 := by rw [← hal, swapV_getD l i j j (by rw [HN.out]; exact hiN) (by rw [HN.out]; exact hjN), if_pos rfl]; exact hs1
      rw [hal] at HAL hcn
      clear hal hAS hfb
      have HG1 := Lib.hid hs1
      have HG2 := Lib.hid hs2
      have HG3 := Lib.hid hg1
      have HG4 := Lib.hid hg2
      have HCN := Lib.hid hcn
      clear hs1 hs2 hg1 hg2 hcn
      go_wp2_with fail
      refine (apply_any _ l (HSM.out.szs (by decide)) ⟨3, (i : Int), (j : Int), tb⟩ HTK.out.1 HTK.out.2.1 _ HKD.out HV.out).mono ?_
      unfold ApR
      rw [HTE.out, if_pos rfl, HAL.out]
      rintro e w4 ⟨v4, rfl, hr4, hb4⟩
      have HA := Lib.hid hr4
      have HV := Lib.hid (HV.out.keep hb4)
      have HKD := Lib.hid (HKD.out.keep hb4)
      have hB := Below.next hB hb4
      have bT := bT.below hb4
      have q0 := cell_later hb4 q0
      have q1 := cell_later hb4 q1
      have q2 := cell_later hb4 q2
      have q3 := cell_later hb4 q3
      clear hr4 hb4
      go_wp2_with fail
      refine (undo_any _ l (HSM.out.szs (by decide)) ⟨3, (i : Int), (j : Int), tb⟩ HTK.out.1 HTK.out.2.1 _ HKD.out HV.out).mono ?_
      rw [show undoV l ⟨3, (i : Int), (j : Int), tb⟩ = (⟨3, (i : Int), (j : Int), tb⟩, true, 0) by unfold undoV; rw [HTE.out]; rfl]
      rintro e w5 ⟨rfl, hb5⟩
      dsimp only
      have HA := Lib.hid (HA.out.keep hb5)
      have HV := Lib.hid (HV.out.keep hb5)
      have HKD := Lib.hid (HKD.out.keep hb5)
      have hB := Below.next hB hb5
      have bT := bT.below hb5
      clear q0 q1 q2 q3 hb5
      obtain ⟨X, hX⟩ : ∃ X : World, X = w5.alloc (.cells #[.int .i64 3, .int .i64 (i : Int), .int .i64 (j : Int), .int .i64 tb] 36) := ⟨_, rfl⟩
      have hb6 : Below w5.heap.size w5 X := by rw [hX]; exact Below.al (Below.refl _ _) _
      have bU : BoxN X w5.heap.size 36 #[.int .i64 3, .int .i64 (i : Int), .int .i64 (j : Int), .int .i64 tb] := by rw [hX]; exact BoxN.new _ _ _
      have HA := Lib.hid (HA.out.keep hb6)
      have HV := Lib.hid (HV.out.keep hb6)
      have HKD := Lib.hid (HKD.out.keep hb6)
      have hB := Below.next hB hb6
      have bT := bT.below hb6
      have q0 : X.cell? ⟨w3.heap.size, 0, none⟩ = some (.int .i64 3) := bT.cell 0
      have q1 : X.cell? ⟨w3.heap.size, 1, none⟩ = some (.int .i64 (i : Int)) := bT.cell 1
      have q2 : X.cell? ⟨w3.heap.size, 2, none⟩ = some (.int .i64 (j : Int)) := bT.cell 2
      have p0 : X.cell? ⟨w5.heap.size, 0, none⟩ = some (.int .i64 3) := bU.cell 0
      have p1 : X.cell? ⟨w5.heap.size, 1, none⟩ = some (.int .i64 (i : Int)) := bU.cell 1
      have p2 : X.cell? ⟨w5.heap.size, 2, none⟩ = some (.int .i64 (j : Int)) := bU.cell 2
      have p3 : X.cell? ⟨w5.heap.size, 3, none⟩ = some (.int .i64 tb) := bU.cell 3
      clear hb6
      obtain ⟨a8, c8, rfl⟩ := HA.out.form
      rw [HALN.out] at HA ⊢
      go_upto_region 8 with fail
      rw [← hX]
      clear hX
      go_wp2_with fail
      refine (apply_any _ al HASZ.out ⟨3, (i : Int), (j : Int), tb⟩ HUK.out.1 HUK.out.2.1 _ HKD.out HA.out).mono ?_
      unfold ApR
      rw [HBE.out, if_pos rfl, HBL.out]
      rintro e w6 ⟨v6, rfl, hr6, hb6⟩
      have HB6 := Lib.hid hr6
      have HA := Lib.hid (HA.out.keep hb6)
      have HV := Lib.hid (HV.out.keep hb6)
      have hB := Below.next hB hb6
      have bT := bT.below hb6
      clear hr6 hb6 q0 q1 q2 p0 p1 p2 p3 bU
      go_wp2_with fail
      refine (sameTexts_eq _ _ l (by rw [HN.out]; omega) _ HB6.out HV.out).mono ?_
      rintro e w7 ⟨rfl, hb7⟩
      have HA := Lib.hid (HA.out.keep hb7)
      have HV := Lib.hid (HV.out.keep hb7)
      have hB := Below.next hB hb7
      have bT := bT.below hb7
      clear HB6 hb7
      have q0 : w7.cell? ⟨w3.heap.size, 0, none⟩ = some (.int .i64 3) := bT.cell 0
      obtain ⟨Y, hY⟩ : ∃ Y, Y = w7 := ⟨_, rfl⟩
      rw [← hY] at HA HV hB bT q0 ⊢
      clear hY
      have hlA : Hid (al.length = N) := HALN
      go_wp2_with fail
      go_loopw [15, 16] (fun c i wr => ∃ k : Nat, k ≤ N ∧ i = .int .i64 k ∧ c = .int .i64 (cnt al l k) ∧ Below Y.heap.size Y wr) (fun _ i _ => N - (intOf i).toNat)
      case atStart => exact ⟨0, Nat.zero_le _, rfl, rfl, Below.refl _ _⟩
      case round =>
        obtain ⟨k, hk, rfl, rfl, hBr⟩ := hrel
        have hcb := cnt_bd al l k
        by_cases hlt : k < N
        · have d2 : decide ((k : Int) < (N : Int)) = true := yb (by omega)
          obtain ⟨b1, o1, rfl, hc1, h1⟩ := RdT.at (HA.out.keep hBr) HALN.out k hlt
          obtain ⟨b2, o2, rfl, hc2, h2⟩ := RdT.at (HV.out.keep hBr) HN.out k hlt
          obtain ⟨s, HS⟩ : ∃ x, Hid (al.getD k e0 = x) := ⟨_, rfl⟩
          obtain ⟨t, HT⟩ : ∃ x, Hid (l.getD k e0 = x) := ⟨_, rfl⟩
          rw [HS.out] at h1
          rw [HT.out] at h2
          have j1 : (0 : Int) ≤ (k : Int) := by omega
          have j2 : (k : Int) < (N : Int) := by omega
          have hwk : IntKind.i64.wrap (k : Int) = (k : Int) := IntWalk.i64_in _ (by omega)
          have hCN : Hid (cnt al l (k + 1) = cnt al l k + (if al.getD k e0 = l.getD k e0 then 0 else 1)) := rfl
          obtain ⟨cc, hcc⟩ : ∃ cc, cnt al l k = cc := ⟨_, rfl⟩
          rw [hcc] at hcb hCN ⊢
          rw [HS.out, HT.out] at hCN
          clear hcc
          have hwc : IntKind.i64.wrap (cc + 1) = cc + 1 := IntWalk.i64_in _ (by omega)
          by_cases hst : s = t
          · rw [if_pos hst, Int.add_zero] at hCN
            subst hst
            go_wp2_with fail
            go_quiet (fail)
            go_wp2_with fail
            go_roundw
            case rel => exact ⟨k + 1, by omega, by go_num, by rw [hCN.out], below_drewN hBr _⟩
            case measure => simp [intOf]; omega
          · rw [if_neg hst] at hCN
            have d3 := ba_ne _ _ hst
            clear hst
            go_wp2_with fail
            go_quiet (fail)
            go_wp2_with fail
            go_roundw
            case rel => exact ⟨k + 1, by omega, by go_num, by rw [hCN.out], below_drewN hBr _⟩
            case measure => simp [intOf]; omega
        · obtain rfl : k = N := by omega
          have d2 : decide ((k : Int) < (k : Int)) = false := nb (by omega)
          have HA := Lib.hid (HA.out.keep hBr)
          have HV := Lib.hid (HV.out.keep hBr)
          have bT := bT.below hBr
          have hB := Below.next hB hBr
          clear hBr hcb
          have q0 := bT.cell 0
          have q1 := bT.cell 1
          have q2 := bT.cell 2
          simp only [List.getElem?_toArray, List.getElem?_cons_zero, List.getElem?_cons_succ] at q0 q1 q2
          obtain ⟨bl, ol, rfl, hcl, l1⟩ := RdT.at HV.out HN.out i hiN
          obtain ⟨bl2, ol2, he, _, l2⟩ := RdT.at HV.out HN.out j hjN
          cases he
          obtain ⟨ba, oa, rfl, hca, a1⟩ := RdT.at HA.out HALN.out i hiN
          obtain ⟨ba2, oa2, he, _, a2⟩ := RdT.at HA.out HALN.out j hjN
          cases he
          rw [HG1.out] at l1
          rw [HG2.out] at l2
          rw [HG3.out] at a1
          rw [HG4.out] at a2
          clear bT
          have m1 : (0 : Int) ≤ (i : Int) := by omega
          have m2 : (i : Int) < (k : Int) := by omega
          have m3 : (0 : Int) ≤ (j : Int) := by omega
          have m4 : (j : Int) < (k : Int) := by omega
          rcases HCN.out with h2 | h2 <;> rw [h2]
          · go_wp2_with fail
            go_quiet (fail)
            go_wp2_with fail
            go_ret
            exact ⟨rfl, below_drewN hB _⟩
          · go_wp2_with fail
            go_quiet (fail)
            go_wp2_with fail
            go_ret
            exact ⟨rfl, below_drewN hB _⟩
    · have hj := HFI.out
      unfold fitT at hj
      dsimp only at hj
      rw [if_neg (by decide), if_neg (by decide), if_pos rfl, show ((i : Int)).toNat = i by omega] at hj
      simp only [Bool.and_eq_true, decide_eq_true_eq] at hj
      obtain ⟨j, rfl⟩ : ∃ j : Nat, tj = j := ⟨tj.toNat, by omega⟩
      have HAL : Hid (apL l ⟨4, (i : Int), (j : Int), tb⟩ = l.set i (spoilS (l.getD i e0) j tb)) := by unfold Hid; simp [apL]
      obtain ⟨s1, hs1⟩ : ∃ s, l.getD i e0 = s := ⟨_, rfl⟩
      rw [hs1] at HAL hj
      have hjs : j < s1.size := by omega
      obtain ⟨s2, hs2⟩ : ∃ s, spoilS s1 j tb = s := ⟨_, rfl⟩
      have hne := spoil_ne s1 j tb hjs (by omega) (by omega)
      have hbk := spoil_back s1 j tb hjs
      have hsz := spoil_size s1 j tb
      rw [hs2] at HAL hne hbk hsz
      have hcn := cnt_set (l := l) (i := i) (x := s2) (by rw [HN.out]; exact hiN) (by rw [hs1]; exact hne)
      rw [HN.out] at hcn
      obtain ⟨al, hal⟩ : ∃ al, l.set i s2 = al := ⟨_, rfl⟩
      have HALN : Hid (al.length = N) := by unfold Hid; rw [← hal, List.length_set, HN.out]
      have hAS : Sml 5 al := by have := apL_sml HSM.out HTE.out; rwa [HAL.out, hal] at this
      have HASZ : Hid (Szs al) := hAS.szs (by decide)
      have HUK : Hid (TrOk ⟨4, (i : Int), (j : Int), tb⟩) := HTK
      have hg1 : al.getD i e0 = s2 := by rw [← hal, getD_set _ _ _ _ (by rw [HN.out]; exact hiN), if_pos rfl]
      have hfb : fitT al ⟨4, (i : Int), (j : Int), tb⟩ = true := by
        unfold fitT
        dsimp only
        rw [if_neg (by decide), if_neg (by decide), if_pos rfl, show ((i : Int)).toNat = i by omega, hg1, hsz]
        simp only [Bool.and_eq_true, decide_eq_true_eq]
        omega
      have HBE : Hid (apE al ⟨4, (i : Int), (j : Int), tb⟩ = 0) := apE_of (by rw [HALN.out]; omega) (fun s hs => by have := hAS s hs; omega) (by dsimp only; omega) (by dsimp only; omega) (by dsimp only; omega) (by rw [HALN.out]; dsimp only; omega) (fun h => by cases h) hfb
      have HBL : Hid (apL al ⟨4, (i : Int), (j : Int), tb⟩ = l) := by
        unfold Hid
        show al.set (Int.toNat (i : Int)) (spoilS (al.getD (Int.toNat (i : Int)) e0) (Int.toNat (j : Int)) tb) = l
        rw [show ((i : Int)).toNat = i by omega, show ((j : Int)).toNat = j by omega, hg1, hbk, ← hal, List.set_set, ← hs1]
        exact set_getD l i (by rw [HN.out]; exact hiN)
      rw [hal] at HAL hcn
      clear hal hAS hfb hbk hsz hs2 hj hjs
      have HG1 := Lib.hid hs1
      have HG3 := Lib.hid hg1
      have HCN := Lib.hid hcn
      have HNE := Lib.hid (ba_ne _ _ hne)
      clear hs1 hg1 hcn hne
      go_wp2_with fail
      refine (apply_any _ l (HSM.out.szs (by decide)) ⟨4, (i : Int), (j : Int), tb⟩ HTK.out.1 HTK.out.2.1 _ HKD.out HV.out).mono ?_
      unfold ApR
      rw [HTE.out, if_pos rfl, HAL.out]
      rintro e w4 ⟨v4, rfl, hr4, hb4⟩
      have HA := Lib.hid hr4
      have HV := Lib.hid (HV.out.keep hb4)
      have HKD := Lib.hid (HKD.out.keep hb4)
      have hB := Below.next hB hb4
      have bT := bT.below hb4
      have q0 := cell_later hb4 q0
      have q1 := cell_later hb4 q1
      have q2 := cell_later hb4 q2
      have q3 := cell_later hb4 q3
      clear hr4 hb4
      go_wp2_with fail
      refine (undo_any _ l (HSM.out.szs (by decide)) ⟨4, (i : Int), (j : Int), tb⟩ HTK.out.1 HTK.out.2.1 _ HKD.out HV.out).mono ?_
      rw [show undoV l ⟨4, (i : Int), (j : Int), tb⟩ = (⟨4, (i : Int), (j : Int), tb⟩, true, 0) by unfold undoV; rw [HTE.out]; rfl]
      rintro e w5 ⟨rfl, hb5⟩
      dsimp only
      have HA := Lib.hid (HA.out.keep hb5)
      have HV := Lib.hid (HV.out.keep hb5)
      have HKD := Lib.hid (HKD.out.keep hb5)
      have hB := Below.next hB hb5
      have bT := bT.below hb5
      clear q0 q1 q2 q3 hb5
      obtain ⟨X, hX⟩ : ∃ X : World, X = w5.alloc (.cells #[.int .i64 4, .int .i64 (i : Int), .int .i64 (j : Int), .int .i64 tb] 36) := ⟨_, rfl⟩
      have hb6 : Below w5.heap.size w5 X := by rw [hX]; exact Below.al (Below.refl _ _) _
      have bU : BoxN X w5.heap.size 36 #[.int .i64 4, .int .i64 (i : Int), .int .i64 (j : Int), .int .i64 tb] := by rw [hX]; exact BoxN.new _ _ _
      have HA := Lib.hid (HA.out.keep hb6)
      have HV := Lib.hid (HV.out.keep hb6)
      have HKD := Lib.hid (HKD.out.keep hb6)
      have hB := Below.next hB hb6
      have bT := bT.below hb6
      have q0 : X.cell? ⟨w3.heap.size, 0, none⟩ = some (.int .i64 4) := bT.cell 0
      have q1 : X.cell? ⟨w3.heap.size, 1, none⟩ = some (.int .i64 (i : Int)) := bT.cell 1
      have q2 : X.cell? ⟨w3.heap.size, 2, none⟩ = some (.int .i64 (j : Int)) := bT.cell 2
      have p0 : X.cell? ⟨w5.heap.size, 0, none⟩ = some (.int .i64 4) := bU.cell 0
      have p1 : X.cell? ⟨w5.heap.size, 1, none⟩ = some (.int .i64 (i : Int)) := bU.cell 1
      have p2 : X.cell? ⟨w5.heap.size, 2, none⟩ = some (.int .i64 (j : Int)) := bU.cell 2
      have p3 : X.cell? ⟨w5.heap.size, 3, none⟩ = some (.int .i64 tb) := bU.cell 3
      clear hb6
      obtain ⟨a8, c8, rfl⟩ := HA.out.form
      rw [HALN.out] at HA ⊢
      go_upto_region 8 with fail
      rw [← hX]
      clear hX
      go_wp2_with fail
      refine (apply_any _ al HASZ.out ⟨4, (i : Int), (j : Int), tb⟩ HUK.out.1 HUK.out.2.1 _ HKD.out HA.out).mono ?_
      unfold ApR
      rw [HBE.out, if_pos rfl, HBL.out]
      rintro e w6 ⟨v6, rfl, hr6, hb6⟩
      have HB6 := Lib.hid hr6
      have HA := Lib.hid (HA.out.keep hb6)
      have HV := Lib.hid (HV.out.keep hb6)
      have hB := Below.next hB hb6
      have bT := bT.below hb6
      clear hr6 hb6 q0 q1 q2 p0 p1 p2 p3 bU
      go_wp2_with fail
      refine (sameTexts_eq _ _ l (by rw [HN.out]; omega) _ HB6.out HV.out).mono ?_
      rintro e w7 ⟨rfl, hb7⟩
      have HA := Lib.hid (HA.out.keep hb7)
      have HV := Lib.hid (HV.out.keep hb7)
      have hB := Below.next hB hb7
      have bT := bT.below hb7
      clear HB6 hb7
      have q0 : w7.cell? ⟨w3.heap.size, 0, none⟩ = some (.int .i64 4) := bT.cell 0
      obtain ⟨Y, hY⟩ : ∃ Y, Y = w7 := ⟨_, rfl⟩
      rw [← hY] at HA HV hB bT q0 ⊢
      clear hY
      have hlA : Hid (al.length = N) := HALN
      go_wp2_with fail
      go_loopw [15, 16] (fun c i wr => ∃ k : Nat, k ≤ N ∧ i = .int .i64 k ∧ c = .int .i64 (cnt al l k) ∧ Below Y.heap.size Y wr) (fun _ i _ => N - (intOf i).toNat)
      case atStart => exact ⟨0, Nat.zero_le _, rfl, rfl, Below.refl _ _⟩
      case round =>
        obtain ⟨k, hk, rfl, rfl, hBr⟩ := hrel
        have hcb := cnt_bd al l k
        by_cases hlt : k < N
        · have d2 : decide ((k : Int) < (N : Int)) = true := yb (by omega)
          obtain ⟨b1, o1, rfl, hc1, h1⟩ := RdT.at (HA.out.keep hBr) HALN.out k hlt
          obtain ⟨b2, o2, rfl, hc2, h2⟩ := RdT.at (HV.out.keep hBr) HN.out k hlt
          obtain ⟨s, HS⟩ : ∃ x, Hid (al.getD k e0 = x) := ⟨_, rfl⟩
          obtain ⟨t, HT⟩ : ∃ x, Hid (l.getD k e0 = x) := ⟨_, rfl⟩
          rw [HS.out] at h1
          rw [HT.out] at h2
          have j1 : (0 : Int) ≤ (k : Int) := by omega
          have j2 : (k : Int) < (N : Int) := by omega
          have hwk : IntKind.i64.wrap (k : Int) = (k : Int) := IntWalk.i64_in _ (by omega)
          have hCN : Hid (cnt al l (k + 1) = cnt al l k + (if al.getD k e0 = l.getD k e0 then 0 else 1)) := rfl
          obtain ⟨cc, hcc⟩ : ∃ cc, cnt al l k = cc := ⟨_, rfl⟩
          rw [hcc] at hcb hCN ⊢
          rw [HS.out, HT.out] at hCN
          clear hcc
          have hwc : IntKind.i64.wrap (cc + 1) = cc + 1 := IntWalk.i64_in _ (by omega)
          by_cases hst : s = t
          · rw [if_pos hst, Int.add_zero] at hCN
            subst hst
            go_wp2_with fail
            go_quiet (fail)
            go_wp2_with fail
            go_roundw
            case rel => exact ⟨k + 1, by omega, by go_num, by rw [hCN.out], below_drewN hBr _⟩
            case measure => simp [intOf]; omega
          · rw [if_neg hst] at hCN
            have d3 := ba_ne _ _ hst
            clear hst
            go_wp2_with fail
            go_quiet (fail)
            go_wp2_with fail
            go_roundw
            case rel => exact ⟨k + 1, by omega, by go_num, by rw [hCN.out], below_drewN hBr _⟩
            case measure => simp [intOf]; omega
        · obtain rfl : k = N := by omega
          have d2 : decide ((k : Int) < (k : Int)) = false := nb (by omega)
          have HA := Lib.hid (HA.out.keep hBr)
          have HV := Lib.hid (HV.out.keep hBr)
          have bT := bT.below hBr
          have hB := Below.next hB hBr
          clear hBr hcb
          have q0 := bT.cell 0
          have q1 := bT.cell 1
          have q2 := bT.cell 2
          simp only [List.getElem?_toArray, List.getElem?_cons_zero, List.getElem?_cons_succ] at q0 q1 q2
          obtain ⟨bl, ol, rfl, hcl, l1⟩ := RdT.at HV.out HN.out i hiN
          obtain ⟨ba, oa, rfl, hca, a1⟩ := RdT.at HA.out HALN.out i hiN
          rw [HG1.out] at l1
          rw [HG3.out] at a1
          clear bT
          have m1 : (0 : Int) ≤ (i : Int) := by omega
          have m2 : (i : Int) < (k : Int) := by omega
          have dne := HNE.out
          rw [HCN.out]
          go_wp2_with fail
          go_quiet (fail)
          go_wp2_with fail
          go_ret
          exact ⟨rfl, below_drewN hB _⟩
    · have hj := HFI.out
      unfold fitT at hj
      dsimp only at hj
      rw [if_neg (by decide), if_neg (by decide), if_neg (by decide), show ((i : Int)).toNat = i by omega] at hj
      simp only [Bool.and_eq_true, decide_eq_true_eq] at hj
      obtain ⟨j, rfl⟩ : ∃ j : Nat, tj = j := ⟨tj.toNat, by omega⟩
      have HAL : Hid (apL l ⟨5, (i : Int), (j : Int), tb⟩ = l.set i ((l.getD i e0).extract 0 j)) := by unfold Hid; simp [apL]
      obtain ⟨s1, hs1⟩ : ∃ s, l.getD i e0 = s := ⟨_, rfl⟩
      rw [hs1] at HAL hj
      have hne := cut_ne s1 j (by omega)
      obtain ⟨s2, hs2⟩ : ∃ s, s1.extract 0 j = s := ⟨_, rfl⟩
      rw [hs2] at HAL hne
      have hcn := cnt_set (l := l) (i := i) (x := s2) (by rw [HN.out]; exact hiN) (by rw [hs1]; exact hne)
      rw [HN.out] at hcn
      obtain ⟨al, hal⟩ : ∃ al, l.set i s2 = al := ⟨_, rfl⟩
      have HALN : Hid (al.length = N) := by unfold Hid; rw [← hal, List.length_set, HN.out]
      have hg1 : al.getD i e0 = s2 := by rw [← hal, getD_set _ _ _ _ (by rw [HN.out]; exact hiN), if_pos rfl]
      rw [hal] at HAL hcn
      clear hal hs2 hj
      have HG1 := Lib.hid hs1
      have HG3 := Lib.hid hg1
      have HCN := Lib.hid hcn
      have HNE := Lib.hid (ba_ne _ _ hne)
      clear hs1 hg1 hcn hne
      go_wp2_with fail
      refine (apply_any _ l (HSM.out.szs (by decide)) ⟨5, (i : Int), (j : Int), tb⟩ HTK.out.1 HTK.out.2.1 _ HKD.out HV.out).mono ?_
      unfold ApR
      rw [HTE.out, if_pos rfl, HAL.out]
      rintro e w4 ⟨v4, rfl, hr4, hb4⟩
      have HA := Lib.hid hr4
      have HV := Lib.hid (HV.out.keep hb4)
      have HKD := Lib.hid (HKD.out.keep hb4)
      have hB := Below.next hB hb4
      have bT := bT.below hb4
      have q0 := cell_later hb4 q0
      have q1 := cell_later hb4 q1
      have q2 := cell_later hb4 q2
      have q3 := cell_later hb4 q3
      clear hr4 hb4
      go_wp2_with fail
      refine (undo_any _ l (HSM.out.szs (by decide)) ⟨5, (i : Int), (j : Int), tb⟩ HTK.out.1 HTK.out.2.1 _ HKD.out HV.out).mono ?_
      rw [show undoV l ⟨5, (i : Int), (j : Int), tb⟩ = (⟨0, 0, 0, 0⟩, false, 0) by unfold undoV; rw [HTE.out]; rfl]
      rintro e w5 ⟨rfl, hb5⟩
      dsimp only
      have HA := Lib.hid (HA.out.keep hb5)
      have HV := Lib.hid (HV.out.keep hb5)
      have HKD := Lib.hid (HKD.out.keep hb5)
      have hB := Below.next hB hb5
      have bT := bT.below hb5
      clear q0 q1 q2 q3 hb5
      obtain ⟨X, hX⟩ : ∃ X : World, X = w5.alloc (.cells #[.int .i64 0, .int .i64 0, .int .i64 0, .int .i64 0] 36) := ⟨_, rfl⟩
      have hb6 : Below w5.heap.size w5 X := by rw [hX]; exact Below.al (Below.refl _ _) _
      have bU : BoxN X w5.heap.size 36 #[.int .i64 0, .int .i64 0, .int .i64 0, .int .i64 0] := by rw [hX]; exact BoxN.new _ _ _
      have HA := Lib.hid (HA.out.keep hb6)
      have HV := Lib.hid (HV.out.keep hb6)
      have HKD := Lib.hid (HKD.out.keep hb6)
      have hB := Below.next hB hb6
      have bT := bT.below hb6
      have q0 : X.cell? ⟨w3.heap.size, 0, none⟩ = some (.int .i64 5) := bT.cell 0
      have q1 : X.cell? ⟨w3.heap.size, 1, none⟩ = some (.int .i64 (i : Int)) := bT.cell 1
      have q2 : X.cell? ⟨w3.heap.size, 2, none⟩ = some (.int .i64 (j : Int)) := bT.cell 2
      have p0 : X.cell? ⟨w5.heap.size, 0, none⟩ = some (.int .i64 0) := bU.cell 0
      have p1 : X.cell? ⟨w5.heap.size, 1, none⟩ = some (.int .i64 0) := bU.cell 1
      have p2 : X.cell? ⟨w5.heap.size, 2, none⟩ = some (.int .i64 0) := bU.cell 2
      have p3 : X.cell? ⟨w5.heap.size, 3, none⟩ = some (.int .i64 0) := bU.cell 3
      clear hb6
      obtain ⟨a8, c8, rfl⟩ := HA.out.form
      rw [HALN.out] at HA ⊢
      go_upto_region 8 with fail
      rw [← hX]
      clear hX
      clear p0 p1 p2 p3 bU
      obtain ⟨Y, hY⟩ : ∃ Y, Y = X := ⟨_, rfl⟩
      rw [← hY] at HA HV hB bT q0 ⊢
      clear hY q1 q2
      have hlA : Hid (al.length = N) := HALN
      go_wp2_with fail
      go_loopw [15, 16] (fun c i wr => ∃ k : Nat, k ≤ N ∧ i = .int .i64 k ∧ c = .int .i64 (cnt al l k) ∧ Below Y.heap.size Y wr) (fun _ i _ => N - (intOf i).toNat)
      case atStart => exact ⟨0, Nat.zero_le _, rfl, rfl, Below.refl _ _⟩
      case round =>
        obtain ⟨k, hk, rfl, rfl, hBr⟩ := hrel
        have hcb := cnt_bd al l k
        by_cases hlt : k < N
        · have d2 : decide ((k : Int) < (N : Int)) = true := yb (by omega)
          obtain ⟨b1, o1, rfl, hc1, h1⟩ := RdT.at (HA.out.keep hBr) HALN.out k hlt
          obtain ⟨b2, o2, rfl, hc2, h2⟩ := RdT.at (HV.out.keep hBr) HN.out k hlt
          obtain ⟨s, HS⟩ : ∃ x, Hid (al.getD k e0 = x) := ⟨_, rfl⟩
          obtain ⟨t, HT⟩ : ∃ x, Hid (l.getD k e0 = x) := ⟨_, rfl⟩
          rw [HS.out] at h1
          rw [HT.out] at h2
          have j1 : (0 : Int) ≤ (k : Int) := by omega
          have j2 : (k : Int) < (N : Int) := by omega
          have hwk : IntKind.i64.wrap (k : Int) = (k : Int) := IntWalk.i64_in _ (by omega)
          have hCN : Hid (cnt al l (k + 1) = cnt al l k + (if al.getD k e0 = l.getD k e0 then 0 else 1)) := rfl
          obtain ⟨cc, hcc⟩ : ∃ cc, cnt al l k = cc := ⟨_, rfl⟩
          rw [hcc] at hcb hCN ⊢
          rw [HS.out, HT.out] at hCN
          clear hcc
          have hwc : IntKind.i64.wrap (cc + 1) = cc + 1 := IntWalk.i64_in _ (by omega)
          by_cases hst : s = t
          · rw [if_pos hst, Int.add_zero] at hCN
            subst hst
            go_wp2_with fail
            go_quiet (fail)
            go_wp2_with fail
            go_roundw
            case rel => exact ⟨k + 1, by omega, by go_num, by rw [hCN.out], below_drewN hBr _⟩
            case measure => simp [intOf]; omega
          · rw [if_neg hst] at hCN
            have d3 := ba_ne _ _ hst
            clear hst
            go_wp2_with fail
            go_quiet (fail)
            go_wp2_with fail
            go_roundw
            case rel => exact ⟨k + 1, by omega, by go_num, by rw [hCN.out], below_drewN hBr _⟩
            case measure => simp [intOf]; omega
        · obtain rfl : k = N := by omega
          have d2 : decide ((k : Int) < (k : Int)) = false := nb (by omega)
          have HA := Lib.hid (HA.out.keep hBr)
          have HV := Lib.hid (HV.out.keep hBr)
          have bT := bT.below hBr
          have hB := Below.next hB hBr
          clear hBr hcb
          have q0 := bT.cell 0
          have q1 := bT.cell 1
          have q2 := bT.cell 2
          simp only [List.getElem?_toArray, List.getElem?_cons_zero, List.getElem?_cons_succ] at q0 q1 q2
          obtain ⟨bl, ol, rfl, hcl, l1⟩ := RdT.at HV.out HN.out i hiN
          obtain ⟨ba, oa, rfl, hca, a1⟩ := RdT.at HA.out HALN.out i hiN
          rw [HG1.out] at l1
          rw [HG3.out] at a1
          clear bT
          have m1 : (0 : Int) ≤ (i : Int) := by omega
          have m2 : (i : Int) < (k : Int) := by omega
          have dne := HNE.out
          rw [HCN.out]
          go_wp2_with fail
          go_quiet (fail)
          go_wp2_with fail
          go_ret
          exact ⟨rfl, below_drewN hB _⟩
end Go.Proofs.YtimkeafpefkheaaDoor
