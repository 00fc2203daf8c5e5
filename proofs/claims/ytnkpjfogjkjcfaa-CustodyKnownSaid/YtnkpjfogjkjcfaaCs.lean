


/- Custody: circles: rash moves lose the bundle, and steps do not. -/
import Derived.Test.YtnkpjfogjkjcfaaLo
import Derived.Test.YtnkpjfogjkjcfaaNe
namespace Go.Proofs.Ytnkpjfogjkjcfaa
open Go.RowKit
set_option linter.unusedSimpArgs false
set_option linter.unusedVariables false
set_option maxRecDepth 100000

theorem runW_ok : ∀ (l : List Mv) (X : Wd) (k : Nat), Okw X → Okw (runW X l k).1
  | [], X, k, h => h
  | m :: l, X, k, h => by
    unfold runW
    split
    · rename_i hs; exact runW_ok l _ _ (okw_mv hs)
    · exact h
theorem ras_step {X : Wd} {l : List Mv} {k : Nat} (hk : k < l.length) : rasW X (l.drop k) = if stpE X (gm l k) = 0 then rasW (mvW true X (gm l k)) (l.drop (k + 1)) else (X, false) := by
  have e : l.drop k = gm l k :: l.drop (k + 1) := by
    rw [List.drop_eq_getElem_cons hk]
    congr 1
    show _ = l.getD k m0'
    rw [List.getD_eq_getElem?_getD, List.getElem?_eq_getElem hk]
    rfl
  rw [e]
  rfl
theorem cirL_len (n : Nat) (h : 2 ≤ n) (h8 : n ≤ 8) : (cirL n).length ≤ 100 := by
  rw [← cC_end, cC_len]
  omega
set_option maxHeartbeats 2000000 in
theorem circles_any (w : World) (N : Nat) (h2 : 2 ≤ N) (h8 : N ≤ 8) : Calls Try.prog 39 #[.int .i64 (N : Int)] w fun e w' => e = .returned (.bool true) ∧ Below w.heap.size w w' := by
  obtain ⟨k1, k2, k3, k4, k5, k6⟩ := cir_ok N h2 h8
  have hwn : IntKind.i64.wrap ((N : Int) + 1) = (N : Int) + 1 := IntWalk.i64_in _ (by omega)
  have hci := circle_any w (N : Int)
  rw [show cirE (N : Int) = 0 by unfold cirE; rw [if_neg (by omega)], show cirV (N : Int) = cirL N by unfold cirV; rw [if_neg (by omega)]; rfl] at hci
  obtain ⟨l, HLL⟩ : ∃ l, Hid (cirL N = l) := ⟨_, Lib.hid rfl⟩
  have hlen := cirL_len N h2 h8
  rw [HLL.out] at hci hlen k2 k3 k4 k5 k6
  obtain ⟨L, HL⟩ : ∃ L, Hid (l.length = L) := ⟨_, Lib.hid rfl⟩
  rw [HL.out] at hlen k2
  have hbg := begs (N + 1) (by omega) (by omega) (N + 1) 1 (by omega) (Nat.le_refl _) (Nat.le_refl _) (by omega) (by omega)
  have htg := beg_tgb ((N : Int) + 1) ((N : Int) + 1) 1
  have e1 : ((1 : Nat) : Int) = 1 := rfl
  have e2 : ((N + 1 : Nat) : Int) = (N : Int) + 1 := by omega
  rw [e1, e2] at hbg
  obtain ⟨X0, HX0⟩ : ∃ X, Hid (begW ((N : Int) + 1) ((N : Int) + 1) 1 = X) := ⟨_, Lib.hid rfl⟩
  have hbe : begE ((N : Int) + 1) ((N : Int) + 1) 1 = 0 := by unfold begE; rw [if_neg (by omega)]
  have hbegin := fun wz => begin_ok wz (N + 1) ((N : Int) + 1) 1 (by rw [e2]; exact hbe)
  rw [e2, HX0.out] at hbegin
  rw [HX0.out] at k2 k3 k4 k5 k6 hbg htg
  have hru : ruW X0 l = runW X0 l 0 := by unfold ruW; rw [if_pos hbg.1]
  obtain ⟨Y, HY⟩ : ∃ Y, Hid ((runW X0 l 0).1 = Y) := ⟨_, Lib.hid rfl⟩
  have hru2 : runW X0 l 0 = (Y, L, 0) := by rw [← HY.out, ← k2, ← k3]
  have hoy : Okw Y := by rw [← HY.out]; exact runW_ok _ _ _ hbg.1
  rw [HY.out] at k4
  rw [hru2] at hru
  obtain ⟨Z, HZ⟩ : ∃ Z, Hid ((rasW X0 l).1 = Z) := ⟨_, Lib.hid rfl⟩
  have hras : rasW X0 l = (Z, true) := by rw [← HZ.out, ← k5]
  rw [HZ.out] at k6
  have HCI := Lib.hid hci
  have HBG := Lib.hid hbg
  have HTG := Lib.hid htg
  have HBEG := Lib.hid hbegin
  have HRU := Lib.hid hru
  have HOY := Lib.hid hoy
  have HK4 := Lib.hid k4
  have HRAS := Lib.hid hras
  have HK6 := Lib.hid k6
  clear k1 k2 k3 k4 k5 k6 hci hbg htg e1 e2 hbe hbegin hru hru2 hoy hras HY HZ
  go_enter Try.func39, Try.ntmps39
  go_wp2_with fail
  refine HCI.out.mono ?_
  rintro e w1 ⟨sl, rfl, hsl, hfs, hb1⟩
  obtain ⟨la, lc, rfl⟩ := hsl.form
  have HSL : Hid (RdL mvR w1 (.slice la L lc) l) := by unfold Hid; rw [← HL.out]; exact hsl
  have HB1 := Lib.hid hb1
  rw [HL.out]
  clear hsl hfs hb1
  go_wp2_with fail
  refine (HBEG.out w1).mono ?_
  rintro e w2 ⟨u, rfl, hb2, hu⟩
  obtain ⟨cv1, fv1, q1, rfl, hp1⟩ := hu
  obtain ⟨a1, c1, rfl⟩ := hp1.pt.rows.form
  obtain ⟨fa1, fc1, rfl⟩ := hp1.pt.frs.form
  obtain ⟨W2, HN9⟩ : ∃ V : World, Hid (V = (w2).alloc (.cells #[.int .i64 (X0).ds, .slice a1 (q1).length c1, .slice fa1 (X0).fr.length fc1] 25)) := ⟨_, Lib.hid rfl⟩
  obtain ⟨p5, HPN9⟩ : ∃ p, Hid ((w2).heap.size = p) := ⟨_, Lib.hid rfl⟩
  go_upto_region 3 with fail
  rw [← HN9.out]
  have hbn : Below (w2).heap.size w2 W2 := by rw [HN9.out]; exact (by repeat (first | assumption | exact Below.refl _ _ | apply Below.al | apply below_drewN | apply Below.drew | refine Below.next ?_ (by assumption)))
  have hbox : BoxN W2 p5 25 #[.int .i64 (X0).ds, .slice a1 (q1).length c1, .slice fa1 (X0).fr.length fc1] := by rw [HN9.out, ← HPN9.out]; exact BoxN.new _ _ _
  rw [HPN9.out]
  clear HN9
  have HIN := Lib.hid (⟨hbox, hp1.pt.keep hbn⟩ : InB W2 p5 X0 a1 c1 fa1 fc1 q1)
  have h12 := Below.next hb2 hbn
  have HB2 := Lib.hid (Below.next HB1.out h12)
  have hp5 : w.heap.size ≤ p5 := by have := HB1.out.size; have := hb2.size; have := HPN9.out; omega
  have HBW := Lib.hid h12
  have hp51 : w1.heap.size ≤ p5 := by have := hb2.size; have := HPN9.out; omega
  clear hbox hbn hb2 hp1 h12 HB1
  have x0 : W2.cell? ⟨p5, 0, none⟩ = some (.int .i64 X0.ds) := HIN.out.box.cell 0
  have x1 : W2.cell? ⟨p5, 1, none⟩ = some (.slice a1 q1.length c1) := HIN.out.box.cell 1
  have x2 : W2.cell? ⟨p5, 2, none⟩ = some (.slice fa1 X0.fr.length fc1) := HIN.out.box.cell 2
  have HLO := Lib.hid (lown_any W2 (X0.v a1 c1 fa1 fc1 q1) X0 (HTG.out.sml HBG.out.1 (by omega)) HIN.out.rdw)
  go_upto_region 5 with fail
  go_wp2_with fail
  refine HLO.out.mono ?_
  rintro e w3 ⟨u, rfl, hu, hb3⟩
  obtain ⟨cv3, fv3, q3, rfl, hp3⟩ := hu
  obtain ⟨a3, c3, rfl⟩ := hp3.pt.rows.form
  obtain ⟨fa3, fc3, rfl⟩ := hp3.pt.frs.form
  have hrun := run_any w3 (wV X0 (.slice a3 q3.length c3) (.slice fa3 X0.fr.length fc3)) (.slice la L lc) X0 l 0 (by rw [HL.out]; omega) HTG.out ⟨_, _, _, rfl, hp3.pt⟩ (HSL.out.keep (Below.next HBW.out hb3))
  rw [HRU.out] at hrun
  have HRUN := Lib.hid hrun
  clear hrun hp3
  go_wp2_with fail
  refine HRUN.out.mono ?_
  rintro e w4 ⟨u, rfl, hb4, hu⟩
  obtain ⟨cv4, fv4, q4, rfl, hp4⟩ := hu
  obtain ⟨a4, c4, rfl⟩ := hp4.pt.rows.form
  obtain ⟨fa4, fc4, rfl⟩ := hp4.pt.frs.form
  obtain ⟨W4, HN9⟩ : ∃ V : World, Hid (V = (w4).alloc (.cells #[.int .i64 (Y).ds, .slice a4 (q4).length c4, .slice fa4 (Y).fr.length fc4] 25)) := ⟨_, Lib.hid rfl⟩
  obtain ⟨p7, HPN9⟩ : ∃ p, Hid ((w4).heap.size = p) := ⟨_, Lib.hid rfl⟩
  go_upto_region 6 with fail
  rw [← HN9.out]
  have hbn : Below (w4).heap.size w4 W4 := by rw [HN9.out]; exact (by repeat (first | assumption | exact Below.refl _ _ | apply Below.al | apply below_drewN | apply Below.drew | refine Below.next ?_ (by assumption)))
  have hbox : BoxN W4 p7 25 #[.int .i64 (Y).ds, .slice a4 (q4).length c4, .slice fa4 (Y).fr.length fc4] := by rw [HN9.out, ← HPN9.out]; exact BoxN.new _ _ _
  rw [HPN9.out]
  clear HN9
  have h24 := Below.next (Below.next hb3 hb4) hbn
  have hiny : InB W4 p7 Y a4 c4 fa4 fc4 q4 := ⟨hbox, hp4.pt.keep hbn⟩
  have hhd := holders_any W4 (Y.v a4 c4 fa4 fc4 q4) Y hiny.rdw
  rw [if_pos HOY.out, show chkE Y = 0 by unfold chkE; exact if_pos HOY.out] at hhd
  have HHD : Hid (Calls Try.prog 25 #[Y.v a4 c4 fa4 fc4 q4] W4 (HdR W4 (hdsW Y) 0)) := Lib.hid hhd
  have x0 := cell_later h24 x0
  have x1 := cell_later h24 x1
  have x2 := cell_later h24 x2
  have y0 : W4.cell? ⟨p7, 0, none⟩ = some (.int .i64 Y.ds) := hbox.cell 0
  have y1 : W4.cell? ⟨p7, 1, none⟩ = some (.slice a4 q4.length c4) := hbox.cell 1
  have y2 : W4.cell? ⟨p7, 2, none⟩ = some (.slice fa4 Y.fr.length fc4) := hbox.cell 2
  replace HIN := Lib.hid (HIN.out.keep h24)
  replace HBW := Lib.hid (Below.next HBW.out h24)
  replace HB2 := Lib.hid (Below.next HB2.out h24)
  clear hhd hbox hbn hb3 hb4 hp4 h24 hiny HLO HRUN
  go_wp2_with fail
  refine HHD.out.mono ?_
  rintro e w5 ⟨s, rfl, hs, hfs, hb5⟩
  obtain ⟨sa, sc, rfl⟩ := hs.form
  rw [HK4.out] at hs ⊢
  have x0 := cell_later hb5 x0
  have x1 := cell_later hb5 x1
  have x2 := cell_later hb5 x2
  replace HIN := Lib.hid (HIN.out.keep hb5)
  replace HBW := Lib.hid (Below.next HBW.out hb5)
  replace HB2 := Lib.hid (Below.next HB2.out hb5)
  have dL : ((L : Int) != (L : Int)) = false := by simp
  have dN : ((N : Int) != (N : Int)) = false := by simp
  clear hs hfs hb5 y0 y1 y2
  go_wp2_with fail
  have hdrop : rasW X0 (l.drop 0) = (Z, true) := by rw [List.drop_zero]; exact HRAS.out
  have hpl := HIN.out.box.lt
  go_loopw [11] (fun i wr => ∃ (k : Nat) (X : Wd) (a : Option Addr) (c : Nat) (fa : Option Addr) (fc : Nat) (q : List Cq), k ≤ L ∧ i = .int .i64 k ∧ InB wr p5 X a c fa fc q ∧ Okw X ∧ TgB k X ∧ rasW X (l.drop k) = (Z, true) ∧ Below w1.heap.size w1 wr ∧ Below w.heap.size w wr ∧ p5 < wr.heap.size) (fun i _ => L + 1 - (intOf i).toNat)
  case atStart => exact ⟨0, X0, a1, c1, fa1, fc1, q1, Nat.zero_le _, rfl, HIN.out, HBG.out.1, HTG.out, hdrop, HBW.out, HB2.out, hpl⟩
  case round =>
    clear HIN HBG HTG hdrop HBW HB2 hpl x0 x1 x2
    obtain ⟨k, X, a, c, fa, fc, q, hkL, rfl, hin, hok, htg, hra, hbw, hbr, hpl⟩ := hrel
    have x0 : wr.cell? ⟨p5, 0, none⟩ = some (.int .i64 X.ds) := hin.box.cell 0
    have x1 : wr.cell? ⟨p5, 1, none⟩ = some (.slice a q.length c) := hin.box.cell 1
    have x2 : wr.cell? ⟨p5, 2, none⟩ = some (.slice fa X.fr.length fc) := hin.box.cell 2
    have z3 := hin.box.frozen 0
    have z4 := hin.box.frozen 1
    have z5 := hin.box.frozen 2
    have HIN := Lib.hid hin
    have HOK := Lib.hid hok
    have HTG := Lib.hid htg
    have HRA := Lib.hid hra
    have HBW := Lib.hid hbw
    have HB := Lib.hid hbr
    clear hin hok htg hra hbw hbr
    by_cases hlt : k < L
    · have d1 : decide ((k : Int) < (L : Int)) = true := yb (by omega)
      have i1 : (0 : Int) ≤ (k : Int) := by omega
      have i2 : (k : Int) < (L : Int) := by omega
      have hwk : IntKind.i64.wrap ((k : Int) + 1) = (k : Int) + 1 := IntWalk.i64_in _ (by omega)
      have hwk0 : IntKind.i64.wrap (k : Int) = (k : Int) := IntWalk.i64_in _ (by omega)
      obtain ⟨b, off, rfl, hcap, g0, g1, g2, g3⟩ := RdM.at (HSL.out.keep HBW.out) HL.out k hlt
      obtain ⟨m, HM⟩ : ∃ m, Hid (gm l k = m) := ⟨_, Lib.hid rfl⟩
      rw [HM.out] at g0 g1 g2 g3
      have hst := ras_step (X := X) (l := l) (k := k) (by rw [HL.out]; exact hlt)
      rw [HM.out, HRA.out] at hst
      have hs0 : stpE X m = 0 := by
        by_cases h0 : stpE X m = 0
        · exact h0
        · rw [if_neg h0] at hst
          have := congrArg Prod.snd hst
          simp at this
      rw [if_pos hs0] at hst
      obtain ⟨XE, HXE⟩ : ∃ XE, Hid (mvW true X m = XE) := ⟨_, Lib.hid rfl⟩
      rw [HXE.out] at hst
      have hrash := fun w' (hb : Below wr.heap.size wr w') => rash_any w' (X.v a c fa fc q) X m (HTG.out.sml HOK.out (by omega)) (HIN.out.keep hb).rdw
      have hsw : stpW true X m = XE := by unfold stpW; rw [if_pos hs0]; exact HXE.out
      simp only [hs0, hsw] at hrash
      have hokE : Okw XE := by rw [← HXE.out]; exact okw_mv hs0
      have htgE : TgB (k + 1) XE := by rw [← HXE.out]; exact HTG.out.mv _ _
      obtain ⟨mk, mn, mo, mi⟩ := m
      have HRH : Hid (∀ w', Below wr.heap.size wr w' → Calls Try.prog 23 #[X.v a c fa fc q, .agg #[.int .i64 mk, .int .i64 mn, .int .i64 mo, .int .i64 mi]] w' (MvR w' XE 0)) := Lib.hid hrash
      have HST := Lib.hid hst
      have HOKE := Lib.hid hokE
      have HTGE := Lib.hid htgE
      clear hrash hst hokE htgE hs0 hsw
      go_upto_region 12 with fail
      refine wp_region_noPanic ?_
      refine wp_region_late (fun _ => True) (fun w' => Below wr.heap.size wr w') [9] (by kernel_rfl) trivial ((Below.refl _ wr).drew) (fun hHeld0 hHeld => ?_)
      refine regG_tk (v := ?_) 0 70 rfl rfl (by kernel_rfl) (by kernel_rfl) (by kernel_rfl) (by kernel_rfl) (by kernel_rfl) (fun _ _ _ h => h) (by rfl) ?_ (by assumption) (by assumption) ?_
      rotate_left
      · (intro w3 hS; (try dsimp only at hS); (have j0 := cell_later hS x0; have j1 := cell_later hS x1; have j2 := cell_later hS x2); go_simp; (try with_reducible rfl))
      simp only [List.setIfInBounds_toArray, List.set_cons_zero, List.set_cons_succ]
      refine reg0_tk (v := ?_) 1 71 rfl rfl (by kernel_rfl) (by kernel_rfl) (by kernel_rfl) (by kernel_rfl) (by kernel_rfl) (fun _ _ _ h => h) (by rfl) ?_ (by assumption) (by assumption) ?_
      rotate_left
      · (intro w3 hS; (try dsimp only at hS); skip; go_simp; (try with_reducible rfl))
      simp only [List.setIfInBounds_toArray, List.set_cons_zero, List.set_cons_succ]
      refine reg0_tk (v := ?_) 2 72 rfl rfl (by kernel_rfl) (by kernel_rfl) (by kernel_rfl) (by kernel_rfl) (by kernel_rfl) (fun _ _ _ h => h) (by rfl) ?_ (by assumption) (by assumption) ?_
      rotate_left
      · (intro w3 hS; (try dsimp only at hS); skip; go_simp; (try with_reducible rfl))
      simp only [List.setIfInBounds_toArray, List.set_cons_zero, List.set_cons_succ]
      refine reg0_tk (v := ?_) 3 73 rfl rfl (by kernel_rfl) (by kernel_rfl) (by kernel_rfl) (by kernel_rfl) (by kernel_rfl) (fun _ _ _ h => h) (by rfl) ?_ (by assumption) (by assumption) ?_
      rotate_left
      · (intro w3 hS; (try dsimp only at hS); skip; go_simp; (try with_reducible rfl))
      simp only [List.setIfInBounds_toArray, List.set_cons_zero, List.set_cons_succ]
      refine regG_tk (v := ?_) 4 74 rfl rfl (by kernel_rfl) (by kernel_rfl) (by kernel_rfl) (by kernel_rfl) (by kernel_rfl) (fun _ _ _ h => h) (by rfl) ?_ (by assumption) (by assumption) ?_
      rotate_left
      · (intro w3 hS; (try dsimp only at hS); (have j0 := cell_later hS g0; have j1 := cell_later hS g1; have j2 := cell_later hS g2; have j3 := cell_later hS g3); go_simp; (try with_reducible rfl))
      simp only [List.setIfInBounds_toArray, List.set_cons_zero, List.set_cons_succ]
      refine wpAnyG_oneS (i := 5) (by kernel_rfl) rfl (by rfl) (fun K hK => ?_)
      go_simp
      refine (HRH.out _ (Below.refl _ wr).drew).mono ?_
      rintro e w6 ⟨u, rfl, hb1, hu⟩
      obtain ⟨cv1', fv1', q1', rfl, hp1⟩ := hu
      obtain ⟨a2, c2, rfl⟩ := hp1.pt.rows.form
      obtain ⟨fa2, fc2, rfl⟩ := hp1.pt.frs.form
      have hB1 : Below wr.heap.size wr w6 := Below.next (Below.refl _ wr).drew hb1
      refine hK _ _ trivial hB1 ?_
      clear hK K
      try simp only [Act.put, List.setIfInBounds_toArray, List.set_cons_zero, List.set_cons_succ]
      refine reg0_tk (v := ?_) 6 69 rfl rfl (by kernel_rfl) (by kernel_rfl) (by kernel_rfl) (by kernel_rfl) (by kernel_rfl) (fun _ _ _ h => h) (by rfl) ?_ (by assumption) (by assumption) ?_
      rotate_left
      · (intro w3 hS; (try dsimp only at hS); skip; go_simp; (try with_reducible rfl))
      simp only [List.setIfInBounds_toArray, List.set_cons_zero, List.set_cons_succ]
      refine reg0_tk (v := ?_) 7 76 rfl rfl (by kernel_rfl) (by kernel_rfl) (by kernel_rfl) (by kernel_rfl) (by kernel_rfl) (fun _ _ _ h => h) (by rfl) ?_ (by assumption) (by assumption) ?_
      rotate_left
      · (intro w3 hS; (try dsimp only at hS); skip; go_simp; (try with_reducible rfl))
      simp only [List.setIfInBounds_toArray, List.set_cons_zero, List.set_cons_succ]
      refine reg0_tk (v := ?_) 8 77 rfl rfl (by kernel_rfl) (by kernel_rfl) (by kernel_rfl) (by kernel_rfl) (by kernel_rfl) (fun _ _ _ h => h) (by rfl) ?_ (by assumption) (by assumption) ?_
      rotate_left
      · (intro w3 hS; (try dsimp only at hS); skip; go_simp; (try with_reducible rfl))
      simp only [List.setIfInBounds_toArray, List.set_cons_zero, List.set_cons_succ]
      have hin1 := (HIN.out.keep hB1).put (hp1.mono (by exact hpl))
      have k0 := cell_later hB1 x0
      have k1 := cell_later hB1 x1
      have k2 := cell_later hB1 x2
      have r0 := (HIN.out.keep hB1).box.frozen 0
      have r1 := (HIN.out.keep hB1).box.frozen 1
      have r2 := (HIN.out.keep hB1).box.frozen 2
      refine wpAnyG_one (i := 9) (by kernel_rfl) rfl (by rfl) (by kernel_rfl) (fun K hK => ?_)
      go_simp
      refine hK _ _ trivial ?_
      clear hK K
      try simp only [Act.put, List.setIfInBounds_toArray, List.set_cons_zero, List.set_cons_succ]
      refine wpAnyG_one (i := 10) (by kernel_rfl) rfl (by rfl) (by kernel_rfl) (fun K hK => ?_)
      go_simp
      refine hK _ _ trivial ?_
      clear hK K
      try simp only [Act.put, List.setIfInBounds_toArray, List.set_cons_zero, List.set_cons_succ]
      refine wpAnyG_done (by kernel_rfl) ?_ _
      refine NoPanic.normal ?_
      obtain ⟨W7, hW7⟩ : ∃ W7 : World, W7 = ((w6.setCell ⟨p5, 0, none⟩ (.int .i64 XE.ds)).setCell ⟨p5, 1, none⟩ (.slice a2 q1'.length c2)).setCell ⟨p5, 2, none⟩ (.slice fa2 XE.fr.length fc2) := ⟨_, rfl⟩
      have hk7 : Kx (fun b => b = p5) w6 W7 := by rw [hW7]; exact ((kx_cell _ _ _ _).setCell (.inl rfl) _).setCell (.inl rfl) _
      rw [← hW7] at hin1 ⊢
      have hbw7 : Below w1.heap.size w1 W7 := (Below.next HBW.out hB1).trans (hk7.below (by have := HBW.out.size; have := hB1.size; omega) (fun b e => by rw [e]; exact hp51))
      have HB7 : Hid (Below w.heap.size w W7) := Lib.hid ((Below.next HB.out hB1).trans (hk7.below (by have := HB.out.size; have := hB1.size; omega) (fun b e => by rw [e]; exact hp5)))
      have hp7 := hin1.box.lt
      have HIN7 := Lib.hid hin1
      clear hW7 hk7 hin1 k0 k1 k2 r0 r1 r2 hp1 hb1 hB1
      go_wp2_with fail
      go_roundw
      case rel => exact ⟨k + 1, XE, a2, c2, fa2, fc2, q1', by omega, by go_num, HIN7.out, HOKE.out, HTGE.out, HST.out.symm, hbw7, HB7.out, hp7⟩
      case measure => simp [intOf]; omega
    · obtain rfl : k = L := by omega
      have d1 : decide ((k : Int) < (k : Int)) = false := nb (by omega)
      have hend : X = Z := by
        have := HRA.out
        rw [← HL.out, List.drop_length] at this
        exact congrArg Prod.fst this
      subst hend
      have hlo := lost_any wr (X.v a c fa fc q) X HIN.out.rdw
      rw [HK6.out, yb HOK.out, show chkE X = 0 by unfold chkE; exact if_pos HOK.out] at hlo
      have HLO : Hid (Calls Try.prog 27 #[X.v a c fa fc q] wr fun e w' => e = .returned (.tuple #[.bool true, .int .i64 0]) ∧ Below wr.heap.size wr w') := Lib.hid hlo
      clear hlo
      go_wp2_with fail
      refine HLO.out.mono ?_
      rintro e w9 ⟨rfl, hb9⟩
      have hB9 := Below.next HB.out hb9
      go_wp2_with fail
      go_ret
      exact ⟨rfl, hB9⟩
end Go.Proofs.Ytnkpjfogjkjcfaa
