


/- CustodyKnown: the law's walk. -/
import Derived.Test.YtnkpjfogjkjcfaaCs
namespace Go.Proofs.Ytnkpjfogjkjcfaa
open Go.RowKit
set_option linter.unusedSimpArgs false
set_option linter.unusedVariables false
set_option maxRecDepth 100000

def two : List Mv := [ofr 1 2, mk 2, mk 3, ⟨5, 1, 0, 0⟩]
def more : List Mv := [ofr 1 2, ofr 2 1, mk 2, mk 2]
def thr : List Mv := [ofr 1 3, mk 4, mk 2, mk 2]
/-- an example's run, its two frames of one kind -/
def frOK (l : List Mv) (k : Int) : Prop := (runW (begW 3 3 1) l 0).2.1 = l.length ∧ (runW (begW 3 3 1) l 0).2.2 = 0 ∧ Okw (runW (begW 3 3 1) l 0).1 ∧ (runW (begW 3 3 1) l 0).1.fr.length = 2 ∧ (gp (runW (begW 3 3 1) l 0).1.fr 0).kd = k ∧ (gp (runW (begW 3 3 1) l 0).1.fr 1).kd = k ∧ lstW (runW (begW 3 3 1) l 0).1 = false
instance (l : List Mv) (k : Int) : Decidable (frOK l k) := by unfold frOK; infer_instance
theorem frOK.run {l : List Mv} {k : Int} (h : frOK l k) : ∃ X, runW (begW 3 3 1) l 0 = (X, l.length, 0) ∧ Okw X ∧ X.fr.length = 2 ∧ (gp X.fr 0).kd = k ∧ (gp X.fr 1).kd = k ∧ lstW X = false := by
  obtain ⟨h1, h2, h3, h4, h5, h6, h7⟩ := h
  exact ⟨_, by rw [← h1, ← h2], h3, h4, h5, h6, h7⟩
theorem ex_two : exOK two [1, 2] := by decide +kernel
theorem ex_more : frOK (two ++ more) 6 := by decide +kernel
theorem ex_thr : frOK thr 5 := by decide +kernel
theorem ex_err : stpE (begW 3 3 1) (ofr 2 1) = 12 ∧ stpE (begW 3 3 1) (mk 2) = 8 ∧ stpE (begW 3 3 1) (ofr 1 1) = 2 := by decide +kernel
theorem lrun_fr (W : World) (mv : Value) (l : List Mv) (k : Int) (hl : l.length ≤ 100) (hm : RdL mvR W mv l) (h : frOK l k) :
    Calls Try.prog 37 #[mv] W fun e w' => ∃ X a c fa fc q, e = .returned (.tuple #[.agg #[.int .i64 X.ds, .slice a q.length c, .slice fa 2 fc], .bool true]) ∧ Okw X ∧ Hid (X.fr.length = 2) ∧ (gp X.fr 0).kd = k ∧ (gp X.fr 1).kd = k ∧ lstW X = false ∧ PtW w' (.slice a q.length c) (.slice fa 2 fc) q X ∧ Below W.heap.size W w' := by
  obtain ⟨X, hr, ho, hf, k0, k1, hlo⟩ := h.run
  refine (lrun_any _ _ l X (by omega) hm hr).mono ?_
  rintro e w' ⟨u, rfl, hu, hb⟩
  obtain ⟨cv, fv, q, rfl, hp⟩ := hu
  have hp := hp.pt
  obtain ⟨a, c, rfl⟩ := hp.rows.form
  obtain ⟨fa, fc, rfl⟩ := hp.frs.form
  rw [hf] at hp ⊢
  exact ⟨X, a, c, fa, fc, q, rfl, ho, Lib.hid hf, k0, k1, hlo, hp, hb⟩
theorem Fresh.own {base : Nat} {v : Value} {k : Nat} (h : Fresh base v) (e : v.ownBlock = some k) : base ≤ k := by
  unfold Value.ownBlock at e
  split at e
  · rename_i a n c
    have := h _ _ _ rfl
    simp only [Option.some.injEq] at e
    omega
  · cases e
theorem PtF.kx {w w' : World} {base : Nat} {cv fv : Value} {q : List Cq} {X : Wd} {S : Nat → Prop} (h : PtF w base cv fv q X) (hk : Kx S w w') (hs : ∀ k, S k → k < base) : PtF w' base cv fv q X := by
  have hn : ∀ {v : Value}, Fresh base v → ∀ k, v.ownBlock = some k → ¬ S k := fun hf k e hS => by
    have h1 := hs k hS
    have h2 := Fresh.own hf e
    omega
  exact ⟨⟨hk.rds (hn h.fc) h.pt.rows, hk.rds (hn h.ff) h.pt.frs, h.pt.len, fun i => ⟨(h.pt.cop i).st, (h.pt.cop i).tt, (h.pt.cop i).of, (h.pt.cop i).nx, hk.rds (hn (h.ft i)) (h.pt.cop i).tk, hk.rds (hn (h.fk i)) (h.pt.cop i).kp⟩⟩, h.fc, h.ff, h.ft, h.fk⟩
set_option maxHeartbeats 2000000 in
theorem lknown_any (w : World) : Calls Try.prog 10 #[] w fun e w' => e = .returned (.bool true) ∧ Below w.heap.size w w' := by
  go_enter Try.func10, Try.ntmps10
  go_wp2_with fail
  refine (offer_any 1 2 w).mono ?_
  rintro e w1 ⟨rfl, hb1⟩
  go_wp2_with fail
  refine (first_any 2 w1).mono ?_
  rintro e w2 ⟨rfl, hb2⟩
  go_wp2_with fail
  refine (first_any 3 w2).mono ?_
  rintro e w3 ⟨rfl, hb3⟩
  obtain ⟨W3, hW3⟩ : ∃ V : World, V = w3.alloc (.cells (rcs mvR two).toArray 40) := ⟨_, rfl⟩
  obtain ⟨p1, hp1⟩ : ∃ p, w3.heap.size = p := ⟨_, rfl⟩
  have h03 := Below.next (Below.next hb1 hb2) hb3
  have hb4 : Below w3.heap.size w3 W3 := by rw [hW3]; exact (by repeat (first | assumption | exact Below.refl _ _ | apply Below.al | apply below_drewN | apply Below.drew | refine Below.next ?_ (by assumption)))
  have hB3 := Below.next h03 hb4
  have hrt : RdL mvR W3 (.slice (some ⟨p1, 0, none⟩) 4 4) two := by rw [hW3, ← hp1]; exact rdm_lit w3 two 4 rfl (by decide)
  have hot : W3.ownsRow w.heap.size 40 4 (.slice (some ⟨p1, 0, none⟩) 4 4) 4 (rcs mvR two) := by
    rw [hW3, ← hp1]
    exact owns_block _ _ 40 4 4 (rcs mvR two) _ h03.size (heap_last _ _) rfl (by decide)
  have HW3 : Hid (W3 = w3.alloc (.cells #[.int .i64 1, .int .i64 1, .int .i64 2, .int .i64 0, .int .i64 2, .int .i64 0, .int .i64 0, .int .i64 0, .int .i64 3, .int .i64 0, .int .i64 0, .int .i64 0, .int .i64 5, .int .i64 1, .int .i64 0, .int .i64 0] 40)) := Lib.hid hW3
  have HP1 := Lib.hid hp1
  have HRT := Lib.hid hrt
  have HOT := Lib.hid hot
  have HB3 := Lib.hid hB3
  clear hb1 hb2 hb3 h03 hb4 hB3 hrt hot hW3 hp1
  have hpW : p1 < W3.heap.size := by rw [HW3.out, ← HP1.out]; simp
  go_upto_region 2 with fail
  rw [← HW3.out, HP1.out]
  clear HW3 HP1
  obtain ⟨XA, hrA, hoA, hxA⟩ := ex_two.run
  have HRA := Lib.hid (lrun_any W3 (.slice (some ⟨p1, 0, none⟩) 4 4) two XA (by decide) HRT.out hrA)
  have HOA := Lib.hid hoA
  have HXA := Lib.hid hxA
  clear hrA hoA hxA
  go_wp2_with fail
  refine HRA.out.mono ?_
  rintro e w5 ⟨u, rfl, hu, hb5⟩
  obtain ⟨cvA, fvA, qA, rfl, hpA⟩ := hu
  obtain ⟨aA, cA, rfl⟩ := hpA.pt.rows.form
  obtain ⟨faA, fcA, rfl⟩ := hpA.pt.frs.form
  have hzW5 := hb5.size
  obtain ⟨W5, HN9⟩ : ∃ V : World, Hid (V = (w5).alloc (.cells #[.int .i64 (XA).ds, .slice aA (qA).length cA, .slice faA XA.fr.length fcA] 25)) := ⟨_, Lib.hid rfl⟩
  obtain ⟨pA, HPN9⟩ : ∃ p, Hid ((w5).heap.size = p) := ⟨_, Lib.hid rfl⟩
  go_upto_region 3 with fail
  rw [← HN9.out]
  have hb6 : Below (w5).heap.size w5 W5 := by rw [HN9.out]; exact (by repeat (first | assumption | exact Below.refl _ _ | apply Below.al | apply below_drewN | apply Below.drew | refine Below.next ?_ (by assumption)))
  have bA : BoxN W5 pA 25 #[.int .i64 (XA).ds, .slice aA (qA).length cA, .slice faA XA.fr.length fcA] := by rw [HN9.out, ← HPN9.out]; exact BoxN.new _ _ _
  rw [HPN9.out]
  have hpn := HPN9.out
  clear HN9 HPN9
  have HPA := Lib.hid (hpA.keep hb6)
  have HBA := Lib.hid bA
  have h36 := Below.next hb5 hb6
  have HB5 := Lib.hid (Below.next HB3.out h36)
  replace HOT := Lib.hid (Own.keep HOT.out h36)
  clear hpA bA hb5 hb6 h36 HRA HRT
  go_wp2_with fail
  refine (offer_any 1 2 W5).mono ?_
  rintro e w7 ⟨rfl, hb7⟩
  go_wp2_with fail
  refine (offer_any 2 1 w7).mono ?_
  rintro e w8 ⟨rfl, hb8⟩
  go_wp2_with fail
  refine (first_any 2 w8).mono ?_
  rintro e w9 ⟨rfl, hb9⟩
  go_wp2_with fail
  refine (first_any 2 w9).mono ?_
  rintro e w10 ⟨rfl, hb10⟩
  have h510 := Below.next (Below.next (Below.next hb7 hb8) hb9) hb10
  have HOT2 := Lib.hid ((Own.keep HOT.out h510).alloc (.cells (rcs mvR more).toArray 40))
  have HLIT := Lib.hid (rds_lit mvR w10 40 more 4 rfl (by decide) (fun j u hj => alloc_cell _ _ _ j u hj))
  have hz10 := h510.size
  have hz5 := HB5.out.size
  have HB510 := Lib.hid h510
  clear hb7 hb8 hb9 hb10 h510 HOT
  go_wp2_with (at_builtin; refine wpList_app rfl (.tmp 26) (.tmp 31) 26 rfl w.heap.size 40 _ 4 32 EMs _ 4 (rcs mvR two) rfl HOT2.out _ 4 (rcs mvR more) rfl HLIT.out (rcs_one mvR _) ?c1 ?c2 ?c3 ?_)
  case c1 => unfold maxLen; omega
  case c2 => omega
  case c3 => simp; omega
  intro a8 c8 w11 hown hg hb11
  have hrm : RdL mvR w11 (.slice a8 8 c8) (two ++ more) := by
    have e : w11.ownsRow w.heap.size 40 4 (.slice a8 (two ++ more).length c8) (two ++ more).length (rcs mvR (two ++ more)) := by rw [rcs_append]; exact hown
    exact RdL.of_owns (R := mvR) e
  have hk11 : Kx (fun b => b = p1) W5 w11 := (((Kx.of_below (X := fun b => b = p1) HB510.out).alloc _).grown hg (fun b e => .inl (by simpa [Value.ownBlock] using e.symm)))
  replace HPA := Lib.hid (HPA.out.kx hk11 (fun b e => by rw [e]; exact hpW))
  replace HBA := Lib.hid (hk11.box (by omega) HBA.out)
  have HB11 := Lib.hid ((Below.al (HB5.out.trans (HB510.out.mono hz5)) _).trans hb11)
  have HRM := Lib.hid (lrun_fr w11 (.slice a8 8 c8) (two ++ more) 6 (by decide) hrm ex_more)
  clear hown hg hb11 hrm hk11 HOT2 HLIT hz10 HB510 HB5 hz5
  go_wp2_with fail
  refine HRM.out.mono ?_
  rintro e w12 ⟨XB, aB, cB, faB, fcB, qB, rfl, hoB, hfB, kB0, kB1, hlB, hpB, hb12⟩
  obtain ⟨W12, HN9⟩ : ∃ V : World, Hid (V = (w12).alloc (.cells #[.int .i64 (XB).ds, .slice aB (qB).length cB, .slice faB 2 fcB] 25)) := ⟨_, Lib.hid rfl⟩
  obtain ⟨pB, HPN9⟩ : ∃ p, Hid ((w12).heap.size = p) := ⟨_, Lib.hid rfl⟩
  go_upto_region 4 with fail
  rw [← HN9.out]
  have hb13 : Below (w12).heap.size w12 W12 := by rw [HN9.out]; exact (by repeat (first | assumption | exact Below.refl _ _ | apply Below.al | apply below_drewN | apply Below.drew | refine Below.next ?_ (by assumption)))
  have bB : BoxN W12 pB 25 #[.int .i64 (XB).ds, .slice aB (qB).length cB, .slice faB 2 fcB] := by rw [HN9.out, ← HPN9.out]; exact BoxN.new _ _ _
  rw [HPN9.out]
  have hpn := HPN9.out
  clear HN9 HPN9
  have h112 := Below.next hb12 hb13
  have hpB' := hpB.keep hb13
  obtain ⟨b, off, rfl, hcap, g0, _, _, _⟩ := RdP.at hpB'.frs hfB.out 0 (by omega)
  obtain ⟨b', off', he', _, g1, _, _, _⟩ := RdP.at hpB'.frs hfB.out 1 (by omega)
  simp only [Option.some.injEq, Addr.mk.injEq, and_true] at he'
  obtain ⟨rfl, rfl⟩ := he'
  rw [kB0] at g0
  rw [kB1] at g1
  have g0 : W12.cell? ⟨b, off, none⟩ = some (.int .i64 6) := by simpa using g0
  have g1 : W12.cell? ⟨b, off + 4, none⟩ = some (.int .i64 6) := by simpa using g1
  have u2 : W12.cell? ⟨pB, 2, none⟩ = some (.slice (some ⟨b, off, none⟩) 2 fcB) := bB.cell 2
  replace HPA := Lib.hid (HPA.out.keep h112)
  replace HBA := Lib.hid (HBA.out.below h112)
  replace HB11 := Lib.hid (Below.next HB11.out h112)
  have a0 : W12.cell? ⟨pA, 0, none⟩ = some (.int .i64 XA.ds) := HBA.out.cell 0
  have a1 : W12.cell? ⟨pA, 1, none⟩ = some (.slice aA qA.length cA) := HBA.out.cell 1
  have a2 : W12.cell? ⟨pA, 2, none⟩ = some (.slice faA XA.fr.length fcA) := HBA.out.cell 2
  have halA : Below W12.heap.size W12 (World.alloc W12 (.cells (ic .i64 [1, 2]).toArray 3)) := Below.al (Below.refl _ _) _
  have HHA := Lib.hid (holds_any (World.alloc W12 (.cells (ic .i64 [1, 2]).toArray 3)) (wV XA (.slice aA qA.length cA) (.slice faA XA.fr.length fcA)) (.slice (some ⟨W12.heap.size, 0, none⟩) 2 2) XA [1, 2] HOA.out HXA.out (by decide) ⟨_, _, _, rfl, HPA.out.pt.keep halA⟩ (rdi_lit W12 3 [1, 2] (by decide)))
  clear hb12 hb13 h112 hpB hpB' bB halA kB0 kB1 hoB hlB hcap HRM
  go_wp2_with fail
  refine HHA.out.mono ?_
  rintro e w14 ⟨rfl, hb14⟩
  have hb14 : Below W12.heap.size W12 w14 := Below.next (Below.al (Below.refl _ _) _) hb14
  have u2 := cell_later hb14 u2
  have g0 := cell_later hb14 g0
  have g1 := cell_later hb14 g1
  have HB14 := Lib.hid (Below.next HB11.out hb14)
  clear a0 a1 a2 hb14 HHA HPA HBA HB11
  go_upto_region 6 with fail
  clear g0 g1 u2
  go_wp2_with fail
  refine (offer_any 1 3 w14).mono ?_
  rintro e w15 ⟨rfl, hb1⟩
  go_wp2_with fail
  refine (first_any 4 w15).mono ?_
  rintro e w16 ⟨rfl, hb2⟩
  go_wp2_with fail
  refine (first_any 2 w16).mono ?_
  rintro e w17 ⟨rfl, hb3⟩
  go_wp2_with fail
  refine (first_any 2 w17).mono ?_
  rintro e w18 ⟨rfl, hb4⟩
  have h1418 := Below.next (Below.next (Below.next hb1 hb2) hb3) hb4
  have HRC := Lib.hid (lrun_fr (w18.alloc (.cells (rcs mvR thr).toArray 40)) (.slice (some ⟨w18.heap.size, 0, none⟩) 4 4) thr 5 (by decide) (rdm_lit w18 thr 4 rfl (by decide)) ex_thr)
  have HB18 := Lib.hid (Below.al (Below.next HB14.out h1418) (.cells (rcs mvR thr).toArray 40))
  clear hb1 hb2 hb3 hb4 h1418 HB14
  go_wp2_with fail
  refine HRC.out.mono ?_
  rintro e w19 ⟨XC, aC, cC, faC, fcC, qC, rfl, hoC, hfC, kC0, kC1, hlC, hpC, hb19⟩
  obtain ⟨W19, HN9⟩ : ∃ V : World, Hid (V = (w19).alloc (.cells #[.int .i64 (XC).ds, .slice aC (qC).length cC, .slice faC 2 fcC] 25)) := ⟨_, Lib.hid rfl⟩
  obtain ⟨pC, HPN9⟩ : ∃ p, Hid ((w19).heap.size = p) := ⟨_, Lib.hid rfl⟩
  go_upto_region 7 with fail
  rw [← HN9.out]
  have hb20 : Below (w19).heap.size w19 W19 := by rw [HN9.out]; exact (by repeat (first | assumption | exact Below.refl _ _ | apply Below.al | apply below_drewN | apply Below.drew | refine Below.next ?_ (by assumption)))
  have bC : BoxN W19 pC 25 #[.int .i64 (XC).ds, .slice aC (qC).length cC, .slice faC 2 fcC] := by rw [HN9.out, ← HPN9.out]; exact BoxN.new _ _ _
  rw [HPN9.out]
  have hpn := HPN9.out
  clear HN9 HPN9
  have hpC' := hpC.keep hb20
  obtain ⟨b2, off2, rfl, hcap, g0, _, _, _⟩ := RdP.at hpC'.frs hfC.out 0 (by omega)
  obtain ⟨b', off', he', _, g1, _, _, _⟩ := RdP.at hpC'.frs hfC.out 1 (by omega)
  simp only [Option.some.injEq, Addr.mk.injEq, and_true] at he'
  obtain ⟨rfl, rfl⟩ := he'
  rw [kC0] at g0
  rw [kC1] at g1
  have g0 : W19.cell? ⟨b2, off2, none⟩ = some (.int .i64 5) := by simpa using g0
  have g1 : W19.cell? ⟨b2, off2 + 4, none⟩ = some (.int .i64 5) := by simpa using g1
  have u0 : W19.cell? ⟨pC, 0, none⟩ = some (.int .i64 XC.ds) := bC.cell 0
  have u1 : W19.cell? ⟨pC, 1, none⟩ = some (.slice aC qC.length cC) := bC.cell 1
  have u2 : W19.cell? ⟨pC, 2, none⟩ = some (.slice (some ⟨b2, off2, none⟩) 2 fcC) := bC.cell 2
  have hlo := lost_any W19 (.agg #[.int .i64 XC.ds, .slice aC qC.length cC, .slice (some ⟨b2, off2, none⟩) 2 fcC]) XC ⟨_, _, _, rfl, hpC'⟩
  rw [hlC, yb hoC, show chkE XC = 0 by unfold chkE; exact if_pos hoC] at hlo
  have HLO : Hid (Calls Try.prog 27 #[.agg #[.int .i64 XC.ds, .slice aC qC.length cC, .slice (some ⟨b2, off2, none⟩) 2 fcC]] W19 fun e w' => e = .returned (.tuple #[.bool false, .int .i64 0]) ∧ Below W19.heap.size W19 w') := Lib.hid hlo
  have HB19 := Lib.hid (HB18.out.trans ((hb19.trans (hb20.mono hb19.size)).mono HB18.out.size))
  clear hlo hoC hlC kC0 kC1 hcap hpC hpC' hb19 hb20 bC HB18 HRC
  go_wp2_with fail
  refine HLO.out.mono ?_
  rintro e w21 ⟨rfl, hb21⟩
  have u2 := cell_later hb21 u2
  have g0 := cell_later hb21 g0
  have g1 := cell_later hb21 g1
  have HB21 := Lib.hid (Below.next HB19.out hb21)
  clear u0 u1 hb21 HLO
  have hbg := fun wz => begin_ok wz 3 3 1 beg_331.1
  obtain ⟨X0, HX0⟩ : ∃ X0, Hid (begW 3 3 1 = X0) := ⟨_, Lib.hid rfl⟩
  have htg := beg_tgb 3 3 1
  have hox := beg_331.2
  obtain ⟨e1, e2, e3⟩ := ex_err
  have hbg : ∀ wz, Calls Try.prog 19 #[.int .i64 3, .int .i64 3, .int .i64 1] wz (MvR wz X0 0) := fun wz => by rw [← HX0.out]; exact hbg wz
  rw [HX0.out] at htg hox e1 e2 e3
  have hsm := htg.sml hox (by omega)
  have HBG := Lib.hid hbg
  have HSM := Lib.hid hsm
  have HE1 := Lib.hid e1
  have HE2 := Lib.hid e2
  have HE3 := Lib.hid e3
  clear hbg htg hox e1 e2 e3 hsm
  go_wp2_with fail
  refine (HBG.out w21).mono ?_
  rintro e w22 ⟨u, rfl, hb22, hu⟩
  obtain ⟨cv1, fv1, q1, rfl, hp1⟩ := hu
  obtain ⟨a1, c1, rfl⟩ := hp1.pt.rows.form
  obtain ⟨fa1, fc1, rfl⟩ := hp1.pt.frs.form
  clear u2 g0 g1
  obtain ⟨W22, HN9⟩ : ∃ V : World, Hid (V = (w22).alloc (.cells #[.int .i64 (X0).ds, .slice a1 (q1).length c1, .slice fa1 X0.fr.length fc1] 25)) := ⟨_, Lib.hid rfl⟩
  obtain ⟨p9, HPN9⟩ : ∃ p, Hid ((w22).heap.size = p) := ⟨_, Lib.hid rfl⟩
  go_upto_region 11 with fail
  rw [← HN9.out]
  have hb23 : Below (w22).heap.size w22 W22 := by rw [HN9.out]; exact (by repeat (first | assumption | exact Below.refl _ _ | apply Below.al | apply below_drewN | apply Below.drew | refine Below.next ?_ (by assumption)))
  have b9 : BoxN W22 p9 25 #[.int .i64 (X0).ds, .slice a1 (q1).length c1, .slice fa1 X0.fr.length fc1] := by rw [HN9.out, ← HPN9.out]; exact BoxN.new _ _ _
  rw [HPN9.out]
  have hpn := HPN9.out
  clear HN9 HPN9
  have HIN := Lib.hid (⟨b9, hp1.pt.keep hb23⟩ : InB W22 p9 X0 a1 c1 fa1 fc1 q1)
  have HB22 := Lib.hid (Below.next HB21.out (Below.next hb22 hb23))
  clear hp1 b9 hb22 hb23 hpn
  have x0 : W22.cell? ⟨p9, 0, none⟩ = some (.int .i64 X0.ds) := HIN.out.box.cell 0
  have x1 : W22.cell? ⟨p9, 1, none⟩ = some (.slice a1 q1.length c1) := HIN.out.box.cell 1
  have x2 : W22.cell? ⟨p9, 2, none⟩ = some (.slice fa1 X0.fr.length fc1) := HIN.out.box.cell 2
  have HST := Lib.hid (fun w' (hb : Below (W22).heap.size W22 w') => (by
    have e := step_any w' (X0.v a1 c1 fa1 fc1 q1) X0 ⟨1, 2, 1, 0⟩ HSM.out (HIN.out.keep hb).rdw
    have h1 : stpE X0 ⟨1, 2, 1, 0⟩ = 12 := HE1.out
    have h2 : stpW false X0 ⟨1, 2, 1, 0⟩ = W0 := by unfold stpW; rw [h1]; rfl
    rw [h1, h2] at e
    exact e : Calls Try.prog 21 #[X0.v a1 c1 fa1 fc1 q1, .agg #[.int .i64 1, .int .i64 2, .int .i64 1, .int .i64 0]] w' (MvR w' W0 12)))
  refine wp_region_noPanic ?_
  refine wp_region_held_drew (S := (fun w' => Below W22.heap.size W22 w')) (by kernel_rfl) ((Below.refl _ W22).drew) (fun hHeld => ?_)
  refine reg_tk (v := X0.v a1 c1 fa1 fc1 q1) 0 120 rfl rfl (by kernel_rfl) (by kernel_rfl) (by kernel_rfl) (fun _ _ _ h => h) (by rfl) (fun w3 hS => by (have j0 := cell_later hS x0; have j1 := cell_later hS x1; have j2 := cell_later hS x2); go_simp) (by assumption) ?_
  simp only [List.setIfInBounds_toArray, List.set_cons_zero, List.set_cons_succ]
  refine wpAnyH_ready (rs := [1]) (by kernel_rfl) (by simp) ?_
  refine AllReadyH.cons rfl (fun K hK => ?_) AllReadyH.nil
  go_simp
  refine (offer_any 2 1 _).mono ?_
  rintro e w1 ⟨rfl, hb1⟩
  have hB1 : Below W22.heap.size W22 w1 := Below.next (Below.refl _ W22).drew hb1
  refine hK.out _ _ hB1 (fun hHeld2 => ?_)
  clear hK K hHeld
  have hHeld := hHeld2
  clear hHeld2
  try simp only [Act.put, List.setIfInBounds_toArray, List.set_cons_zero, List.set_cons_succ]
  refine wpAnyH_ready (rs := [2]) (by kernel_rfl) (by simp) ?_
  refine AllReadyH.cons rfl (fun K hK => ?_) AllReadyH.nil
  go_simp
  refine (HST.out _ hB1).mono ?_
  rintro e w2 ⟨u, rfl, hb2, hu⟩
  obtain ⟨cv2, fv2, q2, rfl, hp2⟩ := hu
  obtain ⟨a2, c2, rfl⟩ := hp2.pt.rows.form
  obtain ⟨fa2, fc2, rfl⟩ := hp2.pt.frs.form
  have hB2 := Below.next hB1 hb2
  refine hK.out _ _ hB2 (fun hHeld2 => ?_)
  clear hK K hHeld
  have hHeld := hHeld2
  clear hHeld2
  try simp only [Act.put, List.setIfInBounds_toArray, List.set_cons_zero, List.set_cons_succ]
  refine reg_tk (v := ?_) 3 119 rfl rfl (by kernel_rfl) (by kernel_rfl) (by kernel_rfl) (fun _ _ _ h => h) (by rfl) ?_ (by assumption) ?_
  rotate_left
  · (intro w hSw; (try dsimp only at hSw); go_simp; (try with_reducible rfl))
  simp only [List.setIfInBounds_toArray, List.set_cons_zero, List.set_cons_succ]
  refine reg_tk (v := ?_) 4 123 rfl rfl (by kernel_rfl) (by kernel_rfl) (by kernel_rfl) (fun _ _ _ h => h) (by rfl) ?_ (by assumption) ?_
  rotate_left
  · (intro w hSw; (try dsimp only at hSw); go_simp; (try with_reducible rfl))
  simp only [List.setIfInBounds_toArray, List.set_cons_zero, List.set_cons_succ]
  refine reg_tk (v := ?_) 5 124 rfl rfl (by kernel_rfl) (by kernel_rfl) (by kernel_rfl) (fun _ _ _ h => h) (by rfl) ?_ (by assumption) ?_
  rotate_left
  · (intro w hSw; (try dsimp only at hSw); go_simp; (try with_reducible rfl))
  simp only [List.setIfInBounds_toArray, List.set_cons_zero, List.set_cons_succ]
  refine reg_tk (v := ?_) 6 8 rfl rfl (by kernel_rfl) (by kernel_rfl) (by kernel_rfl) (fun _ _ _ h => h) (by rfl) ?_ (by assumption) ?_
  rotate_left
  · (intro w hSw; (try dsimp only at hSw); go_simp; (try with_reducible rfl))
  simp only [List.setIfInBounds_toArray, List.set_cons_zero, List.set_cons_succ]
  refine wpAnyH_done (by kernel_rfl) ?_ _
  refine NoPanic.normal ?_
  clear hHeld HST hp2 hb2 hb1 hB1
  obtain ⟨ww, hww⟩ : ∃ V : World, V = w2 := ⟨_, rfl⟩
  have hbw : Below W22.heap.size W22 ww := by rw [hww]; exact hB2
  rw [← hww]
  clear hww hB2
  have HST := Lib.hid (fun w' (hb : Below (W22).heap.size W22 w') => (by
    have e := step_any w' (X0.v a1 c1 fa1 fc1 q1) X0 ⟨2, 0, 0, 0⟩ HSM.out (HIN.out.keep hb).rdw
    have h1 : stpE X0 ⟨2, 0, 0, 0⟩ = 8 := HE2.out
    have h2 : stpW false X0 ⟨2, 0, 0, 0⟩ = W0 := by unfold stpW; rw [h1]; rfl
    rw [h1, h2] at e
    exact e : Calls Try.prog 21 #[X0.v a1 c1 fa1 fc1 q1, .agg #[.int .i64 2, .int .i64 0, .int .i64 0, .int .i64 0]] w' (MvR w' W0 8)))
  go_upto_region 12 with fail
  go_cut [12] (fun s wx => s = .int .i64 8 ∧ Below W22.heap.size W22 wx)
  case first =>
    as_aux_lemma =>
    have hB0 : Below ww.heap.size ww ww := Below.refl _ _
    refine wp_region_noPanic ?_
    refine wp_region_held_drew (S := (fun w' => Below W22.heap.size W22 w')) (by kernel_rfl) hbw.drew (fun hHeld => ?_)
    refine reg_tk (v := X0.v a1 c1 fa1 fc1 q1) 0 126 rfl rfl (by kernel_rfl) (by kernel_rfl) (by kernel_rfl) (fun _ _ _ h => h) (by rfl) (fun w3 hS => by (have j0 := cell_later hS x0; have j1 := cell_later hS x1; have j2 := cell_later hS x2); go_simp) (by assumption) ?_
    simp only [List.setIfInBounds_toArray, List.set_cons_zero, List.set_cons_succ]
    refine wpAnyH_ready (rs := [1, 6]) (by kernel_rfl) (by simp) ?_
    refine AllReadyH.cons rfl (fun K hK => ?_) (AllReadyH.cons rfl (fun K hK => ?_) AllReadyH.nil)
    · go_simp
      refine (first_any 2 _).mono ?_
      rintro e w1 ⟨rfl, hb1⟩
      have hB1 : Below W22.heap.size W22 w1 := Below.next hbw.drew hb1
      refine hK.out _ _ hB1 (fun hHeld2 => ?_)
      clear hK K hHeld
      have hHeld := hHeld2
      clear hHeld2
      try simp only [Act.put, List.setIfInBounds_toArray, List.set_cons_zero, List.set_cons_succ]
      refine wpAnyH_ready (rs := [2, 6]) (by kernel_rfl) (by simp) ?_
      refine AllReadyH.cons rfl (fun K hK => ?_) (AllReadyH.cons rfl (fun K hK => ?_) AllReadyH.nil)
      · go_simp
        refine (HST.out _ hB1).mono ?_
        rintro e w2 ⟨u, rfl, hb2, hu⟩
        obtain ⟨cv2, fv2, q2, rfl, hp2⟩ := hu
        obtain ⟨a2, c2, rfl⟩ := hp2.pt.rows.form
        obtain ⟨fa2, fc2, rfl⟩ := hp2.pt.frs.form
        have hB2 := Below.next hB1 hb2
        refine hK.out _ _ hB2 (fun hHeld2 => ?_)
        clear hK K hHeld
        have hHeld := hHeld2
        clear hHeld2
        try simp only [Act.put, List.setIfInBounds_toArray, List.set_cons_zero, List.set_cons_succ]
        refine reg_tk (v := ?_) 3 125 rfl rfl (by kernel_rfl) (by kernel_rfl) (by kernel_rfl) (fun _ _ _ h => h) (by rfl) ?_ (by assumption) ?_
        rotate_left
        · (intro w hSw; (try dsimp only at hSw); go_simp; (try with_reducible rfl))
        simp only [List.setIfInBounds_toArray, List.set_cons_zero, List.set_cons_succ]
        refine reg_tk (v := ?_) 4 129 rfl rfl (by kernel_rfl) (by kernel_rfl) (by kernel_rfl) (fun _ _ _ h => h) (by rfl) ?_ (by assumption) ?_
        rotate_left
        · (intro w hSw; (try dsimp only at hSw); go_simp; (try with_reducible rfl))
        simp only [List.setIfInBounds_toArray, List.set_cons_zero, List.set_cons_succ]
        refine reg_tk (v := ?_) 5 130 rfl rfl (by kernel_rfl) (by kernel_rfl) (by kernel_rfl) (fun _ _ _ h => h) (by rfl) ?_ (by assumption) ?_
        rotate_left
        · (intro w hSw; (try dsimp only at hSw); go_simp; (try with_reducible rfl))
        simp only [List.setIfInBounds_toArray, List.set_cons_zero, List.set_cons_succ]
        refine wpAnyH_ready (rs := [6]) (by kernel_rfl) (by simp) ?_
        refine AllReadyH.cons rfl (fun K hK => ?_) AllReadyH.nil
        go_simp
        refine hK.out _ _ (Below.al hB2 _) (fun hHeld2 => ?_)
        clear hK K hHeld
        have hHeld := hHeld2
        clear hHeld2
        try simp only [Act.put, List.setIfInBounds_toArray, List.set_cons_zero, List.set_cons_succ]
        refine wpAnyH_ready (rs := [7]) (by kernel_rfl) (by simp) ?_
        refine AllReadyH.cons rfl (fun K hK => ?_) AllReadyH.nil
        go_simp
        refine hK.out _ _ (Below.al hB2 _) (fun hHeld2 => ?_)
        clear hK K hHeld
        have hHeld := hHeld2
        clear hHeld2
        try simp only [Act.put, List.setIfInBounds_toArray, List.set_cons_zero, List.set_cons_succ]
        refine reg_tk (v := ?_) 8 12 rfl rfl (by kernel_rfl) (by kernel_rfl) (by kernel_rfl) (fun _ _ _ h => h) (by rfl) ?_ (by assumption) ?_
        rotate_left
        · (intro w hSw; (try dsimp only at hSw); go_simp; (try with_reducible rfl))
        simp only [List.setIfInBounds_toArray, List.set_cons_zero, List.set_cons_succ]
        refine wpAnyH_done (by kernel_rfl) ?_ _
        refine NoPanic.normal ?_
        have hB3 := Below.al hB2 (.cells #[.int .i64 W0.ds, .slice a2 q2.length c2, .slice fa2 W0.fr.length fc2] 25)
        clear hHeld
        go_wp2_with fail
        go_meet
        exact ⟨rfl, hB3⟩
      · go_simp
        have hal := Below.al hB1 (.cells #[.int .i64 0, .slice none 0 0, .slice none 0 0] 25)
        refine hK.out _ _ hal (fun hHeld2 => ?_)
        clear hK K hHeld
        have hHeld := hHeld2
        clear hHeld2
        try simp only [Act.put, List.setIfInBounds_toArray, List.set_cons_zero, List.set_cons_succ]
        refine wpAnyH_ready (rs := [2]) (by kernel_rfl) (by simp) ?_
        refine AllReadyH.cons rfl (fun K hK => ?_) AllReadyH.nil
        go_simp
        refine (HST.out _ hal).mono ?_
        rintro e w2 ⟨u, rfl, hb2, hu⟩
        obtain ⟨cv2, fv2, q2, rfl, hp2⟩ := hu
        obtain ⟨a2, c2, rfl⟩ := hp2.pt.rows.form
        obtain ⟨fa2, fc2, rfl⟩ := hp2.pt.frs.form
        have hB2 := Below.next hal hb2
        refine hK.out _ _ hB2 (fun hHeld2 => ?_)
        clear hK K hHeld
        have hHeld := hHeld2
        clear hHeld2
        try simp only [Act.put, List.setIfInBounds_toArray, List.set_cons_zero, List.set_cons_succ]
        refine reg_tk (v := ?_) 3 125 rfl rfl (by kernel_rfl) (by kernel_rfl) (by kernel_rfl) (fun _ _ _ h => h) (by rfl) ?_ (by assumption) ?_
        rotate_left
        · (intro w hSw; (try dsimp only at hSw); go_simp; (try with_reducible rfl))
        simp only [List.setIfInBounds_toArray, List.set_cons_zero, List.set_cons_succ]
        refine reg_tk (v := ?_) 4 129 rfl rfl (by kernel_rfl) (by kernel_rfl) (by kernel_rfl) (fun _ _ _ h => h) (by rfl) ?_ (by assumption) ?_
        rotate_left
        · (intro w hSw; (try dsimp only at hSw); go_simp; (try with_reducible rfl))
        simp only [List.setIfInBounds_toArray, List.set_cons_zero, List.set_cons_succ]
        refine reg_tk (v := ?_) 5 130 rfl rfl (by kernel_rfl) (by kernel_rfl) (by kernel_rfl) (fun _ _ _ h => h) (by rfl) ?_ (by assumption) ?_
        rotate_left
        · (intro w hSw; (try dsimp only at hSw); go_simp; (try with_reducible rfl))
        simp only [List.setIfInBounds_toArray, List.set_cons_zero, List.set_cons_succ]
        have bz := (BoxN.new w1 25 #[.int .i64 0, .slice none 0 0, .slice none 0 0]).below hb2
        have hz1 := hB1.size
        have t0 : w2.cell? ⟨w1.heap.size, 0, none⟩ = some (.int .i64 0) := bz.cell 0
        have t1 : w2.cell? ⟨w1.heap.size, 1, none⟩ = some (.slice none 0 0) := bz.cell 1
        have t2 : w2.cell? ⟨w1.heap.size, 2, none⟩ = some (.slice none 0 0) := bz.cell 2
        have y0 := bz.frozen 0
        have y1 := bz.frozen 1
        have y2 := bz.frozen 2
        refine wpAnyH_ready (rs := [7]) (by kernel_rfl) (by simp) ?_
        refine AllReadyH.cons rfl (fun K hK => ?_) AllReadyH.nil
        go_simp
        refine hK.out _ _ (((hB2.setCell (p := ⟨w1.heap.size, 0, none⟩) (by exact hz1) _).setCell (p := ⟨w1.heap.size, 1, none⟩) (by exact hz1) _).setCell (p := ⟨w1.heap.size, 2, none⟩) (by exact hz1) _) (fun hHeld2 => ?_)
        clear hK K hHeld
        have hHeld := hHeld2
        clear hHeld2
        try simp only [Act.put, List.setIfInBounds_toArray, List.set_cons_zero, List.set_cons_succ]
        refine reg_tk (v := ?_) 8 12 rfl rfl (by kernel_rfl) (by kernel_rfl) (by kernel_rfl) (fun _ _ _ h => h) (by rfl) ?_ (by assumption) ?_
        rotate_left
        · (intro w hSw; (try dsimp only at hSw); go_simp; (try with_reducible rfl))
        simp only [List.setIfInBounds_toArray, List.set_cons_zero, List.set_cons_succ]
        refine wpAnyH_done (by kernel_rfl) ?_ _
        refine NoPanic.normal ?_
        have hB3 := ((hB2.setCell (p := ⟨w1.heap.size, 0, none⟩) (by exact hz1) (.int .i64 W0.ds)).setCell (p := ⟨w1.heap.size, 1, none⟩) (by exact hz1) (.slice a2 q2.length c2)).setCell (p := ⟨w1.heap.size, 2, none⟩) (by exact hz1) (.slice fa2 W0.fr.length fc2)
        clear hHeld t0 t1 t2 y0 y1 y2
        go_wp2_with fail
        go_meet
        exact ⟨rfl, hB3⟩
    · go_simp
      have hal := Below.al hbw.drew (.cells #[.int .i64 0, .slice none 0 0, .slice none 0 0] 25)
      refine hK.out _ _ hal (fun hHeld2 => ?_)
      clear hK K hHeld
      have hHeld := hHeld2
      clear hHeld2
      try simp only [Act.put, List.setIfInBounds_toArray, List.set_cons_zero, List.set_cons_succ]
      refine wpAnyH_ready (rs := [1]) (by kernel_rfl) (by simp) ?_
      refine AllReadyH.cons rfl (fun K hK => ?_) AllReadyH.nil
      go_simp
      refine (first_any 2 _).mono ?_
      rintro e w1 ⟨rfl, hb1⟩
      have hB1 := Below.next hal hb1
      have bz1 := (BoxN.new ww.drew 25 #[.int .i64 0, .slice none 0 0, .slice none 0 0]).below hb1
      refine hK.out _ _ hB1 (fun hHeld2 => ?_)
      clear hK K hHeld
      have hHeld := hHeld2
      clear hHeld2
      try simp only [Act.put, List.setIfInBounds_toArray, List.set_cons_zero, List.set_cons_succ]
      refine wpAnyH_ready (rs := [2]) (by kernel_rfl) (by simp) ?_
      refine AllReadyH.cons rfl (fun K hK => ?_) AllReadyH.nil
      go_simp
      refine (HST.out _ hB1).mono ?_
      rintro e w2 ⟨u, rfl, hb2, hu⟩
      obtain ⟨cv2, fv2, q2, rfl, hp2⟩ := hu
      obtain ⟨a2, c2, rfl⟩ := hp2.pt.rows.form
      obtain ⟨fa2, fc2, rfl⟩ := hp2.pt.frs.form
      have hB2 := Below.next hB1 hb2
      refine hK.out _ _ hB2 (fun hHeld2 => ?_)
      clear hK K hHeld
      have hHeld := hHeld2
      clear hHeld2
      try simp only [Act.put, List.setIfInBounds_toArray, List.set_cons_zero, List.set_cons_succ]
      refine reg_tk (v := ?_) 3 125 rfl rfl (by kernel_rfl) (by kernel_rfl) (by kernel_rfl) (fun _ _ _ h => h) (by rfl) ?_ (by assumption) ?_
      rotate_left
      · (intro w hSw; (try dsimp only at hSw); go_simp; (try with_reducible rfl))
      simp only [List.setIfInBounds_toArray, List.set_cons_zero, List.set_cons_succ]
      refine reg_tk (v := ?_) 4 129 rfl rfl (by kernel_rfl) (by kernel_rfl) (by kernel_rfl) (fun _ _ _ h => h) (by rfl) ?_ (by assumption) ?_
      rotate_left
      · (intro w hSw; (try dsimp only at hSw); go_simp; (try with_reducible rfl))
      simp only [List.setIfInBounds_toArray, List.set_cons_zero, List.set_cons_succ]
      refine reg_tk (v := ?_) 5 130 rfl rfl (by kernel_rfl) (by kernel_rfl) (by kernel_rfl) (fun _ _ _ h => h) (by rfl) ?_ (by assumption) ?_
      rotate_left
      · (intro w hSw; (try dsimp only at hSw); go_simp; (try with_reducible rfl))
      simp only [List.setIfInBounds_toArray, List.set_cons_zero, List.set_cons_succ]
      have bz : BoxN w2 ww.heap.size 25 #[.int .i64 0, .slice none 0 0, .slice none 0 0] := bz1.below hb2
      have hz1 : W22.heap.size ≤ ww.heap.size := hbw.size
      have t0 : w2.cell? ⟨ww.heap.size, 0, none⟩ = some (.int .i64 0) := bz.cell 0
      have t1 : w2.cell? ⟨ww.heap.size, 1, none⟩ = some (.slice none 0 0) := bz.cell 1
      have t2 : w2.cell? ⟨ww.heap.size, 2, none⟩ = some (.slice none 0 0) := bz.cell 2
      have y0 := bz.frozen 0
      have y1 := bz.frozen 1
      have y2 := bz.frozen 2
      refine wpAnyH_ready (rs := [7]) (by kernel_rfl) (by simp) ?_
      refine AllReadyH.cons rfl (fun K hK => ?_) AllReadyH.nil
      go_simp
      refine hK.out _ _ (((hB2.setCell (p := ⟨ww.heap.size, 0, none⟩) (by exact hz1) _).setCell (p := ⟨ww.heap.size, 1, none⟩) (by exact hz1) _).setCell (p := ⟨ww.heap.size, 2, none⟩) (by exact hz1) _) (fun hHeld2 => ?_)
      clear hK K hHeld
      have hHeld := hHeld2
      clear hHeld2
      try simp only [Act.put, List.setIfInBounds_toArray, List.set_cons_zero, List.set_cons_succ]
      refine reg_tk (v := ?_) 8 12 rfl rfl (by kernel_rfl) (by kernel_rfl) (by kernel_rfl) (fun _ _ _ h => h) (by rfl) ?_ (by assumption) ?_
      rotate_left
      · (intro w hSw; (try dsimp only at hSw); go_simp; (try with_reducible rfl))
      simp only [List.setIfInBounds_toArray, List.set_cons_zero, List.set_cons_succ]
      refine wpAnyH_done (by kernel_rfl) ?_ _
      refine NoPanic.normal ?_
      have hB3 := ((hB2.setCell (p := ⟨ww.heap.size, 0, none⟩) (by exact hz1) (.int .i64 W0.ds)).setCell (p := ⟨ww.heap.size, 1, none⟩) (by exact hz1) (.slice a2 q2.length c2)).setCell (p := ⟨ww.heap.size, 2, none⟩) (by exact hz1) (.slice fa2 W0.fr.length fc2)
      clear hHeld t0 t1 t2 y0 y1 y2
      go_wp2_with fail
      go_meet
      exact ⟨rfl, hB3⟩
  case rest =>
  clear HST
  obtain ⟨rfl, hbw'⟩ := hcut
  clear hbw
  rename World => w90
  obtain ⟨ww, rfl⟩ : ∃ V, V = w90 := ⟨_, rfl⟩
  have hbw := hbw'
  clear hbw'
  have HST := Lib.hid (fun w' (hb : Below (W22).heap.size W22 w') => (by
    have e := step_any w' (X0.v a1 c1 fa1 fc1 q1) X0 ⟨1, 1, 1, 0⟩ HSM.out (HIN.out.keep hb).rdw
    have h1 : stpE X0 ⟨1, 1, 1, 0⟩ = 2 := HE3.out
    have h2 : stpW false X0 ⟨1, 1, 1, 0⟩ = W0 := by unfold stpW; rw [h1]; rfl
    rw [h1, h2] at e
    exact e : Calls Try.prog 21 #[X0.v a1 c1 fa1 fc1 q1, .agg #[.int .i64 1, .int .i64 1, .int .i64 1, .int .i64 0]] w' (MvR w' W0 2)))
  go_upto_region 13 with fail
  go_cut [14] (fun s wx => s = .int .i64 2 ∧ Below W22.heap.size W22 wx)
  case first =>
    as_aux_lemma =>
    have hB0 : Below ww.heap.size ww ww := Below.refl _ _
    refine wp_region_noPanic ?_
    refine wp_region_held_drew (S := (fun w' => Below W22.heap.size W22 w')) (by kernel_rfl) hbw.drew (fun hHeld => ?_)
    refine reg_tk (v := X0.v a1 c1 fa1 fc1 q1) 0 132 rfl rfl (by kernel_rfl) (by kernel_rfl) (by kernel_rfl) (fun _ _ _ h => h) (by rfl) (fun w3 hS => by (have j0 := cell_later hS x0; have j1 := cell_later hS x1; have j2 := cell_later hS x2); go_simp) (by assumption) ?_
    simp only [List.setIfInBounds_toArray, List.set_cons_zero, List.set_cons_succ]
    refine wpAnyH_ready (rs := [1, 6]) (by kernel_rfl) (by simp) ?_
    refine AllReadyH.cons rfl (fun K hK => ?_) (AllReadyH.cons rfl (fun K hK => ?_) AllReadyH.nil)
    · go_simp
      refine (offer_any 1 1 _).mono ?_
      rintro e w1 ⟨rfl, hb1⟩
      have hB1 : Below W22.heap.size W22 w1 := Below.next hbw.drew hb1
      refine hK.out _ _ hB1 (fun hHeld2 => ?_)
      clear hK K hHeld
      have hHeld := hHeld2
      clear hHeld2
      try simp only [Act.put, List.setIfInBounds_toArray, List.set_cons_zero, List.set_cons_succ]
      refine wpAnyH_ready (rs := [2, 6]) (by kernel_rfl) (by simp) ?_
      refine AllReadyH.cons rfl (fun K hK => ?_) (AllReadyH.cons rfl (fun K hK => ?_) AllReadyH.nil)
      · go_simp
        refine (HST.out _ hB1).mono ?_
        rintro e w2 ⟨u, rfl, hb2, hu⟩
        obtain ⟨cv2, fv2, q2, rfl, hp2⟩ := hu
        obtain ⟨a2, c2, rfl⟩ := hp2.pt.rows.form
        obtain ⟨fa2, fc2, rfl⟩ := hp2.pt.frs.form
        have hB2 := Below.next hB1 hb2
        refine hK.out _ _ hB2 (fun hHeld2 => ?_)
        clear hK K hHeld
        have hHeld := hHeld2
        clear hHeld2
        try simp only [Act.put, List.setIfInBounds_toArray, List.set_cons_zero, List.set_cons_succ]
        refine reg_tk (v := ?_) 3 131 rfl rfl (by kernel_rfl) (by kernel_rfl) (by kernel_rfl) (fun _ _ _ h => h) (by rfl) ?_ (by assumption) ?_
        rotate_left
        · (intro w hSw; (try dsimp only at hSw); go_simp; (try with_reducible rfl))
        simp only [List.setIfInBounds_toArray, List.set_cons_zero, List.set_cons_succ]
        refine reg_tk (v := ?_) 4 135 rfl rfl (by kernel_rfl) (by kernel_rfl) (by kernel_rfl) (fun _ _ _ h => h) (by rfl) ?_ (by assumption) ?_
        rotate_left
        · (intro w hSw; (try dsimp only at hSw); go_simp; (try with_reducible rfl))
        simp only [List.setIfInBounds_toArray, List.set_cons_zero, List.set_cons_succ]
        refine reg_tk (v := ?_) 5 136 rfl rfl (by kernel_rfl) (by kernel_rfl) (by kernel_rfl) (fun _ _ _ h => h) (by rfl) ?_ (by assumption) ?_
        rotate_left
        · (intro w hSw; (try dsimp only at hSw); go_simp; (try with_reducible rfl))
        simp only [List.setIfInBounds_toArray, List.set_cons_zero, List.set_cons_succ]
        refine wpAnyH_ready (rs := [6]) (by kernel_rfl) (by simp) ?_
        refine AllReadyH.cons rfl (fun K hK => ?_) AllReadyH.nil
        go_simp
        refine hK.out _ _ (Below.al hB2 _) (fun hHeld2 => ?_)
        clear hK K hHeld
        have hHeld := hHeld2
        clear hHeld2
        try simp only [Act.put, List.setIfInBounds_toArray, List.set_cons_zero, List.set_cons_succ]
        refine wpAnyH_ready (rs := [7]) (by kernel_rfl) (by simp) ?_
        refine AllReadyH.cons rfl (fun K hK => ?_) AllReadyH.nil
        go_simp
        refine hK.out _ _ (Below.al hB2 _) (fun hHeld2 => ?_)
        clear hK K hHeld
        have hHeld := hHeld2
        clear hHeld2
        try simp only [Act.put, List.setIfInBounds_toArray, List.set_cons_zero, List.set_cons_succ]
        refine reg_tk (v := ?_) 8 14 rfl rfl (by kernel_rfl) (by kernel_rfl) (by kernel_rfl) (fun _ _ _ h => h) (by rfl) ?_ (by assumption) ?_
        rotate_left
        · (intro w hSw; (try dsimp only at hSw); go_simp; (try with_reducible rfl))
        simp only [List.setIfInBounds_toArray, List.set_cons_zero, List.set_cons_succ]
        refine wpAnyH_done (by kernel_rfl) ?_ _
        refine NoPanic.normal ?_
        have hB3 := Below.al hB2 (.cells #[.int .i64 W0.ds, .slice a2 q2.length c2, .slice fa2 W0.fr.length fc2] 25)
        clear hHeld
        go_wp2_with fail
        go_meet
        exact ⟨rfl, hB3⟩
      · go_simp
        have hal := Below.al hB1 (.cells #[.int .i64 0, .slice none 0 0, .slice none 0 0] 25)
        refine hK.out _ _ hal (fun hHeld2 => ?_)
        clear hK K hHeld
        have hHeld := hHeld2
        clear hHeld2
        try simp only [Act.put, List.setIfInBounds_toArray, List.set_cons_zero, List.set_cons_succ]
        refine wpAnyH_ready (rs := [2]) (by kernel_rfl) (by simp) ?_
        refine AllReadyH.cons rfl (fun K hK => ?_) AllReadyH.nil
        go_simp
        refine (HST.out _ hal).mono ?_
        rintro e w2 ⟨u, rfl, hb2, hu⟩
        obtain ⟨cv2, fv2, q2, rfl, hp2⟩ := hu
        obtain ⟨a2, c2, rfl⟩ := hp2.pt.rows.form
        obtain ⟨fa2, fc2, rfl⟩ := hp2.pt.frs.form
        have hB2 := Below.next hal hb2
        refine hK.out _ _ hB2 (fun hHeld2 => ?_)
        clear hK K hHeld
        have hHeld := hHeld2
        clear hHeld2
        try simp only [Act.put, List.setIfInBounds_toArray, List.set_cons_zero, List.set_cons_succ]
        refine reg_tk (v := ?_) 3 131 rfl rfl (by kernel_rfl) (by kernel_rfl) (by kernel_rfl) (fun _ _ _ h => h) (by rfl) ?_ (by assumption) ?_
        rotate_left
        · (intro w hSw; (try dsimp only at hSw); go_simp; (try with_reducible rfl))
        simp only [List.setIfInBounds_toArray, List.set_cons_zero, List.set_cons_succ]
        refine reg_tk (v := ?_) 4 135 rfl rfl (by kernel_rfl) (by kernel_rfl) (by kernel_rfl) (fun _ _ _ h => h) (by rfl) ?_ (by assumption) ?_
        rotate_left
        · (intro w hSw; (try dsimp only at hSw); go_simp; (try with_reducible rfl))
        simp only [List.setIfInBounds_toArray, List.set_cons_zero, List.set_cons_succ]
        refine reg_tk (v := ?_) 5 136 rfl rfl (by kernel_rfl) (by kernel_rfl) (by kernel_rfl) (fun _ _ _ h => h) (by rfl) ?_ (by assumption) ?_
        rotate_left
        · (intro w hSw; (try dsimp only at hSw); go_simp; (try with_reducible rfl))
        simp only [List.setIfInBounds_toArray, List.set_cons_zero, List.set_cons_succ]
        have bz := (BoxN.new w1 25 #[.int .i64 0, .slice none 0 0, .slice none 0 0]).below hb2
        have hz1 := hB1.size
        have t0 : w2.cell? ⟨w1.heap.size, 0, none⟩ = some (.int .i64 0) := bz.cell 0
        have t1 : w2.cell? ⟨w1.heap.size, 1, none⟩ = some (.slice none 0 0) := bz.cell 1
        have t2 : w2.cell? ⟨w1.heap.size, 2, none⟩ = some (.slice none 0 0) := bz.cell 2
        have y0 := bz.frozen 0
        have y1 := bz.frozen 1
        have y2 := bz.frozen 2
        refine wpAnyH_ready (rs := [7]) (by kernel_rfl) (by simp) ?_
        refine AllReadyH.cons rfl (fun K hK => ?_) AllReadyH.nil
        go_simp
        refine hK.out _ _ (((hB2.setCell (p := ⟨w1.heap.size, 0, none⟩) (by exact hz1) _).setCell (p := ⟨w1.heap.size, 1, none⟩) (by exact hz1) _).setCell (p := ⟨w1.heap.size, 2, none⟩) (by exact hz1) _) (fun hHeld2 => ?_)
        clear hK K hHeld
        have hHeld := hHeld2
        clear hHeld2
        try simp only [Act.put, List.setIfInBounds_toArray, List.set_cons_zero, List.set_cons_succ]
        refine reg_tk (v := ?_) 8 14 rfl rfl (by kernel_rfl) (by kernel_rfl) (by kernel_rfl) (fun _ _ _ h => h) (by rfl) ?_ (by assumption) ?_
        rotate_left
        · (intro w hSw; (try dsimp only at hSw); go_simp; (try with_reducible rfl))
        simp only [List.setIfInBounds_toArray, List.set_cons_zero, List.set_cons_succ]
        refine wpAnyH_done (by kernel_rfl) ?_ _
        refine NoPanic.normal ?_
        have hB3 := ((hB2.setCell (p := ⟨w1.heap.size, 0, none⟩) (by exact hz1) (.int .i64 W0.ds)).setCell (p := ⟨w1.heap.size, 1, none⟩) (by exact hz1) (.slice a2 q2.length c2)).setCell (p := ⟨w1.heap.size, 2, none⟩) (by exact hz1) (.slice fa2 W0.fr.length fc2)
        clear hHeld t0 t1 t2 y0 y1 y2
        go_wp2_with fail
        go_meet
        exact ⟨rfl, hB3⟩
    · go_simp
      have hal := Below.al hbw.drew (.cells #[.int .i64 0, .slice none 0 0, .slice none 0 0] 25)
      refine hK.out _ _ hal (fun hHeld2 => ?_)
      clear hK K hHeld
      have hHeld := hHeld2
      clear hHeld2
      try simp only [Act.put, List.setIfInBounds_toArray, List.set_cons_zero, List.set_cons_succ]
      refine wpAnyH_ready (rs := [1]) (by kernel_rfl) (by simp) ?_
      refine AllReadyH.cons rfl (fun K hK => ?_) AllReadyH.nil
      go_simp
      refine (offer_any 1 1 _).mono ?_
      rintro e w1 ⟨rfl, hb1⟩
      have hB1 := Below.next hal hb1
      have bz1 := (BoxN.new ww.drew 25 #[.int .i64 0, .slice none 0 0, .slice none 0 0]).below hb1
      refine hK.out _ _ hB1 (fun hHeld2 => ?_)
      clear hK K hHeld
      have hHeld := hHeld2
      clear hHeld2
      try simp only [Act.put, List.setIfInBounds_toArray, List.set_cons_zero, List.set_cons_succ]
      refine wpAnyH_ready (rs := [2]) (by kernel_rfl) (by simp) ?_
      refine AllReadyH.cons rfl (fun K hK => ?_) AllReadyH.nil
      go_simp
      refine (HST.out _ hB1).mono ?_
      rintro e w2 ⟨u, rfl, hb2, hu⟩
      obtain ⟨cv2, fv2, q2, rfl, hp2⟩ := hu
      obtain ⟨a2, c2, rfl⟩ := hp2.pt.rows.form
      obtain ⟨fa2, fc2, rfl⟩ := hp2.pt.frs.form
      have hB2 := Below.next hB1 hb2
      refine hK.out _ _ hB2 (fun hHeld2 => ?_)
      clear hK K hHeld
      have hHeld := hHeld2
      clear hHeld2
      try simp only [Act.put, List.setIfInBounds_toArray, List.set_cons_zero, List.set_cons_succ]
      refine reg_tk (v := ?_) 3 131 rfl rfl (by kernel_rfl) (by kernel_rfl) (by kernel_rfl) (fun _ _ _ h => h) (by rfl) ?_ (by assumption) ?_
      rotate_left
      · (intro w hSw; (try dsimp only at hSw); go_simp; (try with_reducible rfl))
      simp only [List.setIfInBounds_toArray, List.set_cons_zero, List.set_cons_succ]
      refine reg_tk (v := ?_) 4 135 rfl rfl (by kernel_rfl) (by kernel_rfl) (by kernel_rfl) (fun _ _ _ h => h) (by rfl) ?_ (by assumption) ?_
      rotate_left
      · (intro w hSw; (try dsimp only at hSw); go_simp; (try with_reducible rfl))
      simp only [List.setIfInBounds_toArray, List.set_cons_zero, List.set_cons_succ]
      refine reg_tk (v := ?_) 5 136 rfl rfl (by kernel_rfl) (by kernel_rfl) (by kernel_rfl) (fun _ _ _ h => h) (by rfl) ?_ (by assumption) ?_
      rotate_left
      · (intro w hSw; (try dsimp only at hSw); go_simp; (try with_reducible rfl))
      simp only [List.setIfInBounds_toArray, List.set_cons_zero, List.set_cons_succ]
      have bz : BoxN w2 ww.heap.size 25 #[.int .i64 0, .slice none 0 0, .slice none 0 0] := bz1.below hb2
      have hz1 : W22.heap.size ≤ ww.heap.size := hbw.size
      have t0 : w2.cell? ⟨ww.heap.size, 0, none⟩ = some (.int .i64 0) := bz.cell 0
      have t1 : w2.cell? ⟨ww.heap.size, 1, none⟩ = some (.slice none 0 0) := bz.cell 1
      have t2 : w2.cell? ⟨ww.heap.size, 2, none⟩ = some (.slice none 0 0) := bz.cell 2
      have y0 := bz.frozen 0
      have y1 := bz.frozen 1
      have y2 := bz.frozen 2
      refine wpAnyH_ready (rs := [7]) (by kernel_rfl) (by simp) ?_
      refine AllReadyH.cons rfl (fun K hK => ?_) AllReadyH.nil
      go_simp
      refine hK.out _ _ (((hB2.setCell (p := ⟨ww.heap.size, 0, none⟩) (by exact hz1) _).setCell (p := ⟨ww.heap.size, 1, none⟩) (by exact hz1) _).setCell (p := ⟨ww.heap.size, 2, none⟩) (by exact hz1) _) (fun hHeld2 => ?_)
      clear hK K hHeld
      have hHeld := hHeld2
      clear hHeld2
      try simp only [Act.put, List.setIfInBounds_toArray, List.set_cons_zero, List.set_cons_succ]
      refine reg_tk (v := ?_) 8 14 rfl rfl (by kernel_rfl) (by kernel_rfl) (by kernel_rfl) (fun _ _ _ h => h) (by rfl) ?_ (by assumption) ?_
      rotate_left
      · (intro w hSw; (try dsimp only at hSw); go_simp; (try with_reducible rfl))
      simp only [List.setIfInBounds_toArray, List.set_cons_zero, List.set_cons_succ]
      refine wpAnyH_done (by kernel_rfl) ?_ _
      refine NoPanic.normal ?_
      have hB3 := ((hB2.setCell (p := ⟨ww.heap.size, 0, none⟩) (by exact hz1) (.int .i64 W0.ds)).setCell (p := ⟨ww.heap.size, 1, none⟩) (by exact hz1) (.slice a2 q2.length c2)).setCell (p := ⟨ww.heap.size, 2, none⟩) (by exact hz1) (.slice fa2 W0.fr.length fc2)
      clear hHeld t0 t1 t2 y0 y1 y2
      go_wp2_with fail
      go_meet
      exact ⟨rfl, hB3⟩
  case rest =>
  clear HST
  obtain ⟨rfl, hbw'⟩ := hcut
  clear hbw
  rename World => w90
  obtain ⟨ww, rfl⟩ : ∃ V, V = w90 := ⟨_, rfl⟩
  have hbw := hbw'
  clear hbw'
  go_wp2_with fail
  refine (circles_any _ 2 (by decide) (by decide)).mono ?_
  rintro e w91 ⟨rfl, hb91⟩
  go_wp2_with fail
  refine (awake_any w91).mono ?_
  rintro e w92 ⟨rfl, hb92⟩
  have hB := HB22.out.trans ((hbw.trans ((hb91.trans (hb92.mono hb91.size)).mono hbw.size)).mono HB22.out.size)
  go_wp2_with fail
  go_ret
  exact ⟨rfl, hB⟩
end Go.Proofs.Ytnkpjfogjkjcfaa
