


/- Custody: the reference: a frame arrives. -/
import Derived.Test.YtnkpjfogjkjcfaaAn
import Derived.Test.YtnkpjfogjkjcfaaT
import Derived.Test.YtnkpjfogjkjcfaaCw
namespace Go.Proofs.Ytnkpjfogjkjcfaa
open Go.RowKit
set_option linter.unusedSimpArgs false
set_option linter.unusedVariables false
set_option maxRecDepth 100000

theorem frm_tn {X : Wd} {f : Ps} (h : frmOK X f) : isN X f.tt ∧ isN X f.fr ∧ (f.kd = 3 ∨ f.kd = 5 ∨ f.kd = 6) := by
  unfold frmOK at h
  rcases h with ⟨h1, h2, h3⟩ | ⟨h1, h2, h3⟩
  · exact ⟨h2, h3.1, .inl h1⟩
  · exact ⟨h3.1, h2, .inr h1⟩
/-- what a change of a world of one's own answers -/
def ROut (w : World) (B g cap : Nat) (fv : Value) (q : List Cq) (X1 : Wd) (e : Ending) (w' : World) : Prop := ∃ (fv' : Value) (q' : List Cq), e = .returned (wV X1 (.slice (some ⟨g, 0, none⟩) X1.cs.length cap) fv') ∧ OR w' B g cap fv' q' X1 ∧ Kx (Mn g fv q) w w' ∧ (∀ k, Mn g fv' q' k → Mn g fv q k ∨ w.heap.size ≤ k)
/-- a copy whose tags lie where they lay, or in new memory -/
theorem ap_new {w : World} {B g cap : Nat} {fv : Value} {q : List Cq} {X : Wd} {i : Nat} {y' : Cq} (h : OR w B g cap fv q X) (hi : i < q.length) (hT : ∀ b, y'.tv.ownBlock = some b → (gq q i).tv.ownBlock = some b ∨ w.heap.size ≤ b) (hK : ∀ b, y'.kv.ownBlock = some b → (gq q i).kv.ownBlock = some b ∨ w.heap.size ≤ b) (hTK : ∀ b, y'.tv.ownBlock = some b → y'.kv.ownBlock = some b → False) : Ap (q.set i y') := by
  have ht : ∀ j b, (gq q j).tv.ownBlock = some b → b < w.heap.size := fun j b e => ((h.cop j).tk.lt b e).2
  have hk : ∀ j b, (gq q j).kv.ownBlock = some b → b < w.heap.size := fun j b e => ((h.cop j).kp.lt b e).2
  have eg : ∀ j, gq (q.set i y') j = if j = i then y' else gq q j := fun j => gq_set hi
  have nT : ∀ j b, j ≠ i → y'.tv.ownBlock = some b → (gq q j).tv.ownBlock = some b → False := fun j b hj e1 e2 => by
    rcases hT b e1 with e | e
    · exact hj (h.ap.tt j i b e2 e)
    · have := ht j b e2; omega
  have nK : ∀ j b, j ≠ i → y'.kv.ownBlock = some b → (gq q j).kv.ownBlock = some b → False := fun j b hj e1 e2 => by
    rcases hK b e1 with e | e
    · exact hj (h.ap.kk j i b e2 e)
    · have := hk j b e2; omega
  refine ⟨fun a c b e1 e2 => ?_, fun a c b e1 e2 => ?_, fun a c b e1 e2 => ?_⟩
  · rw [eg] at e1 e2
    by_cases ha : a = i <;> by_cases hc : c = i
    · rw [ha, hc]
    · rw [if_pos ha] at e1; rw [if_neg hc] at e2; exact (nT c b hc e1 e2).elim
    · rw [if_neg ha] at e1; rw [if_pos hc] at e2; exact (nT a b ha e2 e1).elim
    · rw [if_neg ha] at e1; rw [if_neg hc] at e2; exact h.ap.tt a c b e1 e2
  · rw [eg] at e1 e2
    by_cases ha : a = i <;> by_cases hc : c = i
    · rw [ha, hc]
    · rw [if_pos ha] at e1; rw [if_neg hc] at e2; exact (nK c b hc e1 e2).elim
    · rw [if_neg ha] at e1; rw [if_pos hc] at e2; exact (nK a b ha e2 e1).elim
    · rw [if_neg ha] at e1; rw [if_neg hc] at e2; exact h.ap.kk a c b e1 e2
  · rw [eg] at e1 e2
    by_cases ha : a = i <;> by_cases hc : c = i
    · rw [if_pos ha] at e1; rw [if_pos hc] at e2; exact hTK b e1 e2
    · rw [if_pos ha] at e1; rw [if_neg hc] at e2
      rcases hT b e1 with e | e
      · exact h.ap.tk i c b e e2
      · have := hk c b e2; omega
    · rw [if_neg ha] at e1; rw [if_pos hc] at e2
      rcases hK b e2 with e | e
      · exact h.ap.tk a i b e1 e
      · have := ht a b e1; omega
    · rw [if_neg ha] at e1; rw [if_neg hc] at e2; exact h.ap.tk a c b e1 e2
/-- a copy stored whole -/
theorem OR.whole {w : World} {B g cap : Nat} {fv : Value} {q : List Cq} {X : Wd} {i : Nat} {y' : Cq} {c' : Cp} (h : OR w B g cap fv q X) (hi : i < X.cs.length) (hc : CopO w B y' c') (hap : Ap (q.set i y')) :
    OR (w.setCells g (i * 6) y'.vs) B g cap fv (q.set i y') (setI X i c') ∧ Kx (fun k => k = g) w (w.setCells g (i * 6) y'.vs) := by
  have hk : Kx (fun k => k = g) w (w.setCells g (i * 6) y'.vs) := (Kx.refl (fun k => k = g) w).setCells (.inl rfl) _ _
  have hq : i < q.length := by rw [h.len]; exact hi
  have hr : OwC (w.setCells g (i * 6) y'.vs) B g cap X.cs.length (q.set i y') := own_row (R := cpR) h.rows i hq y'
  exact ⟨h.row hi hk hr hc hap, hk⟩
/-- a copy's tags stay where a box beside them is filled -/
theorem CopO.box6 {w : World} {B p : Nat} {y : Cq} {c : Cp} {vs : Array Value} (h : CopO w B y c) (hb : BoxN w p 45 vs) (u0 u1 u2 u3 u4 u5 : Value) : CopO ((((((w.setCell ⟨p, 0, none⟩ u0).setCell ⟨p, 1, none⟩ u1).setCell ⟨p, 2, none⟩ u2).setCell ⟨p, 3, none⟩ u3).setCell ⟨p, 4, none⟩ u4).setCell ⟨p, 5, none⟩ u5) B y c :=
  h.kx (((((((Kx.refl (fun b => b = p) w).setCell (.inl rfl) _).setCell (.inl rfl) _).setCell (.inl rfl) _).setCell (.inl rfl) _).setCell (.inl rfl) _).setCell (.inl rfl) _) (fun k e e2 => row_ne h.tk hb (by decide) k e e2.symm) (fun k e e2 => row_ne h.kp hb (by decide) k e e2.symm)
/-- the six cells of a copy, stored one after the other -/
theorem set6 (w : World) (g o : Nat) (y : Cq) : (((((w.setCell ⟨g, o, none⟩ (.int .i64 y.st)).setCell ⟨g, o + 1, none⟩ (.int .i64 y.tt)).setCell ⟨g, o + 2, none⟩ (.int .i64 y.of)).setCell ⟨g, o + 3, none⟩ (.int .i64 y.nx)).setCell ⟨g, o + 4, none⟩ (.slice y.ta y.tn y.tc)).setCell ⟨g, o + 5, none⟩ (.slice y.ka y.kn y.kc) = w.setCells g o y.vs := rfl
set_option maxHeartbeats 4000000 in
theorem rpass_any (w : World) (B g cap : Nat) (fv : Value) (q : List Cq) (X : Wd) (j : Nat) (rash : Bool) (hj : j < X.fr.length) (hf : frmOK X (gp X.fr j)) (hs : Sml X) (hs2 : ∀ i, (gc X.cs i).tk.length ≤ 90000 ∧ (gc X.cs i).kp.length ≤ 90000) (hB : B ≤ w.heap.size) (hc : ∀ i, i < X.cs.length → copOK X ((i : Int) + 1) (gc X.cs i)) (h : OR w B g cap fv q X) :
    Calls Try.prog 61 #[wV X (.slice (some ⟨g, 0, none⟩) X.cs.length cap) fv, .int .i64 (j : Int), .bool rash] w (ROut w B g cap fv q (pasW rash (outF X j) (gp X.fr j))) := by
  obtain ⟨hn, _, hkd⟩ := frm_tn hf
  obtain ⟨i, hi, hfi, hat0⟩ := atC_get hn
  obtain ⟨fa, fc, rfl⟩ := owns_form h.frs
  obtain ⟨f, HFf⟩ : ∃ f, Hid (gp X.fr j = f) := ⟨_, Lib.hid rfl⟩
  rw [HFf.out] at hfi hat0 hkd ⊢
  obtain ⟨XE, HXE⟩ : ∃ XE, Hid (pasW rash (outF X j) f = XE) := ⟨_, Lib.hid rfl⟩
  rw [HXE.out]
  obtain ⟨F, hF⟩ : ∃ F, X.fr.length = F := ⟨_, rfl⟩
  obtain ⟨N, hN⟩ : ∃ N, X.cs.length = N := ⟨_, rfl⟩
  have hcop := hc i hi
  have hsl := hs2 i
  have hFs : F ≤ 100000 := by rw [← hF]; exact hs.fr
  have hNs : N ≤ 100000 := by rw [← hN]; exact hs.cs
  rw [hF] at hj
  rw [hN] at hi
  have HOR := Lib.hid h
  have HF := Lib.hid hF
  have HN := Lib.hid hN
  have HCO := Lib.hid hcop
  have HAT := Lib.hid hat0
  have HKD := Lib.hid hkd
  have HFI := Lib.hid hfi
  have hgw : g < w.heap.size := (h.gt_lt (.inl rfl)).2
  rw [hF, hN]
  clear h hF hN hc hcop hat0 hkd hn hf hs hs2 hfi
  obtain ⟨W, hW⟩ : ∃ W : World, W = (w.alloc (.cells #[.int .i64 X.ds, .slice (some ⟨g, 0, none⟩) N cap, .slice fa F fc] 25)).alloc (.cells #[.int .i64 0, .slice none 0 0, .slice none 0 0] 25) := ⟨_, rfl⟩
  have hB0 : Below w.heap.size w W := by rw [hW]; exact (by repeat (first | assumption | exact Below.refl _ _ | apply Below.al | apply below_drewN | apply Below.drew | refine Below.next ?_ (by assumption)))
  have hWs : w.heap.size + 2 ≤ W.heap.size := by rw [hW]; simp
  have b3 : BoxN W w.heap.size 25 #[.int .i64 X.ds, .slice (some ⟨g, 0, none⟩) N cap, .slice fa F fc] := by rw [hW]; exact (BoxN.new w _ _).below (by repeat (first | assumption | exact Below.refl _ _ | apply Below.al | apply below_drewN | apply Below.drew | refine Below.next ?_ (by assumption)))
  have b6 : BoxN W (w.heap.size + 1) 25 #[.int .i64 0, .slice none 0 0, .slice none 0 0] := by
    rw [hW]
    have := BoxN.new (w.alloc (.cells #[.int .i64 X.ds, .slice (some ⟨g, 0, none⟩) N cap, .slice fa F fc] 25)) 25 #[.int .i64 0, .slice none 0 0, .slice none 0 0]
    simpa using this
  have hrf : RdP W (.slice fa F fc) X.fr := by
    have e := (HOR.out.below hB0).pt.frs
    rw [HF.out] at e
    exact e
  obtain ⟨rb, ro, hra, hrc, g0, g1, g2, g3⟩ := RdP.at hrf HF.out j hj
  subst hra
  rw [HFf.out] at g0 g1 g2 g3
  obtain ⟨v1, hv1, hr1⟩ := cutS_take hrf HF.out j (by omega) 23 (by kernel_rfl) (fun w => by kernel_rfl)
  obtain ⟨v2, hv2, hr2⟩ := cutS_drop hrf HF.out (j + 1) (by omega) 23 (by kernel_rfl) (fun w => by kernel_rfl)
  rw [show (((j + 1 : Nat) : Int)) = (j : Int) + 1 by omega] at hv2
  have i1 : (0 : Int) ≤ (j : Int) := by omega
  have i2 : (j : Int) < (F : Int) := by omega
  have hwj : IntKind.i64.wrap ((j : Int) + 1) = (j : Int) + 1 := IntWalk.i64_in _ (by omega)
  have hwj0 : IntKind.i64.wrap (j : Int) = (j : Int) := IntWalk.i64_in _ (by omega)
  have x0 : W.cell? ⟨w.heap.size, 0, none⟩ = some (.int .i64 X.ds) := b3.cell 0
  have x1 : W.cell? ⟨w.heap.size, 1, none⟩ = some (.slice (some ⟨g, 0, none⟩) N cap) := b3.cell 1
  have x2 : W.cell? ⟨w.heap.size, 2, none⟩ = some (.slice (some ⟨rb, ro, none⟩) F fc) := b3.cell 2
  obtain ⟨W7, hW7⟩ : ∃ V : World, V = W.alloc (.cells #[.int .i64 f.kd, .int .i64 f.fr, .int .i64 f.tt, .int .i64 f.of] 47) := ⟨_, rfl⟩
  obtain ⟨p7, hp7⟩ : ∃ p, W.heap.size = p := ⟨_, rfl⟩
  have hb7 : Below W.heap.size W W7 := by rw [hW7]; exact (by repeat (first | assumption | exact Below.refl _ _ | apply Below.al | apply below_drewN | apply Below.drew | refine Below.next ?_ (by assumption)))
  have b7 : BoxN W7 p7 47 #[.int .i64 f.kd, .int .i64 f.fr, .int .i64 f.tt, .int .i64 f.of] := by rw [hW7, ← hp7]; exact BoxN.new _ _ _
  have HB7 := Lib.hid b7
  have HB3 := Lib.hid (b3.below hb7)
  have HB6 := Lib.hid (b6.below hb7)
  have HBW := Lib.hid (Below.next hB0 hb7)
  have HR1 : Hid (∀ w', Below W7.heap.size W7 w' → RdS w' 4 v1 j (rcs psR (X.fr.take j))) := Lib.hid (fun w' hb => (RdS.keep hb7 hr1).keep hb)
  have HR2 : Hid (∀ w', Below W7.heap.size W7 w' → RdS w' 4 v2 (F - (j + 1)) (rcs psR (X.fr.drop (j + 1)))) := Lib.hid (fun w' hb => (RdS.keep hb7 hr2).keep hb)
  have hsz7 : W.heap.size ≤ W7.heap.size := hb7.size
  have HW7 := Lib.hid hW7
  have HP7 := Lib.hid hp7
  have xc2 := cell_later hb7 x2
  clear b3 b6 b7 hr1 hr2 hrf hb7 hB0 hW7 hp7
  go_enter Try.func61, Try.ntmps61
  go_upto_region 1 with fail
  rw [← hW]
  clear hW
  go_upto_region 2 with fail
  rw [← HW7.out, HP7.out]
  have hwp7 : w.heap.size + 2 ≤ p7 := by rw [← HP7.out]; exact hWs
  have hp7s : p7 ≤ W7.heap.size := by rw [← HP7.out]; exact hsz7
  clear HW7 HP7 x0 x1 x2 g0 g1 g2 g3 hsz7 hWs
  refine wp_region_noPanic ?_
  refine wp_region_late (fun _ => True) (fun w' => Below W7.heap.size W7 w') [13] (by kernel_rfl) trivial ((Below.refl _ W7).drew) (fun hHeld0 hHeld => ?_)
  refine reg0_tk (v := ?_) 1 17 rfl rfl (by kernel_rfl) (by kernel_rfl) (by kernel_rfl) (by kernel_rfl) (by kernel_rfl) (fun _ _ _ h => h) (by rfl) ?_ (by assumption) (by assumption) ?_
  rotate_left
  · (intro w3 hS; (try dsimp only at hS); skip; go_simp; (try with_reducible rfl))
  simp only [List.setIfInBounds_toArray, List.set_cons_zero, List.set_cons_succ]
  refine regG_tk (v := ?_) 2 18 rfl rfl (by kernel_rfl) (by kernel_rfl) (by kernel_rfl) (by kernel_rfl) (by kernel_rfl) (fun _ _ _ h => h) (by rfl) ?_ (by assumption) (by assumption) ?_
  rotate_left
  · (intro w3 hS; (try dsimp only at hS); have j0 := cell_later hS xc2; go_simp; (try with_reducible rfl))
  simp only [List.setIfInBounds_toArray, List.set_cons_zero, List.set_cons_succ]
  refine reg0_tk (v := ?_) 3 19 rfl rfl (by kernel_rfl) (by kernel_rfl) (by kernel_rfl) (by kernel_rfl) (by kernel_rfl) (fun _ _ _ h => h) (by rfl) ?_ (by assumption) (by assumption) ?_
  rotate_left
  · (intro w3 hS; (try dsimp only at hS); skip; go_simp; (try with_reducible rfl))
  simp only [List.setIfInBounds_toArray, List.set_cons_zero, List.set_cons_succ]
  refine regG_tk (v := ?_) 4 20 rfl rfl (by kernel_rfl) (by kernel_rfl) (by kernel_rfl) (by kernel_rfl) (by kernel_rfl) (fun _ _ _ h => h) (by rfl) ?_ (by assumption) (by assumption) ?_
  rotate_left
  · (intro w3 hS; (try dsimp only at hS); have j0 := hv1; go_simp; (try with_reducible rfl))
  simp only [List.setIfInBounds_toArray, List.set_cons_zero, List.set_cons_succ]
  refine reg0_tk (v := ?_) 6 22 rfl rfl (by kernel_rfl) (by kernel_rfl) (by kernel_rfl) (by kernel_rfl) (by kernel_rfl) (fun _ _ _ h => h) (by rfl) ?_ (by assumption) (by assumption) ?_
  rotate_left
  · (intro w3 hS; (try dsimp only at hS); skip; go_simp; (try with_reducible rfl))
  simp only [List.setIfInBounds_toArray, List.set_cons_zero, List.set_cons_succ]
  refine regG_tk (v := ?_) 7 23 rfl rfl (by kernel_rfl) (by kernel_rfl) (by kernel_rfl) (by kernel_rfl) (by kernel_rfl) (fun _ _ _ h => h) (by rfl) ?_ (by assumption) (by assumption) ?_
  rotate_left
  · (intro w3 hS; (try dsimp only at hS); have j0 := cell_later hS xc2; go_simp; (try with_reducible rfl))
  simp only [List.setIfInBounds_toArray, List.set_cons_zero, List.set_cons_succ]
  refine reg0_tk (v := ?_) 8 24 rfl rfl (by kernel_rfl) (by kernel_rfl) (by kernel_rfl) (by kernel_rfl) (by kernel_rfl) (fun _ _ _ h => h) (by rfl) ?_ (by assumption) (by assumption) ?_
  rotate_left
  · (intro w3 hS; (try dsimp only at hS); skip; go_simp; (try with_reducible rfl))
  simp only [List.setIfInBounds_toArray, List.set_cons_zero, List.set_cons_succ]
  refine reg0_tk (v := ?_) 9 25 rfl rfl (by kernel_rfl) (by kernel_rfl) (by kernel_rfl) (by kernel_rfl) (by kernel_rfl) (fun _ _ _ h => h) (by rfl) ?_ (by assumption) (by assumption) ?_
  rotate_left
  · (intro w3 hS; (try dsimp only at hS); skip; go_simp; (try with_reducible rfl))
  simp only [List.setIfInBounds_toArray, List.set_cons_zero, List.set_cons_succ]
  refine regG_tk (v := ?_) 10 26 rfl rfl (by kernel_rfl) (by kernel_rfl) (by kernel_rfl) (by kernel_rfl) (by kernel_rfl) (fun _ _ _ h => h) (by rfl) ?_ (by assumption) (by assumption) ?_
  rotate_left
  · (intro w3 hS; (try dsimp only at hS); have j0 := hv2; go_simp; (try with_reducible rfl))
  simp only [List.setIfInBounds_toArray, List.set_cons_zero, List.set_cons_succ]
  refine wpAnyG_oneS (i := 0) (by kernel_rfl) rfl (by rfl) (fun K hK => ?_)
  go_simp
  obtain ⟨wa, hwa⟩ : ∃ V : World, V = (World.alloc W7 (.cells #[] 47)).drew := ⟨_, rfl⟩
  have hba : Below W7.heap.size W7 wa := by rw [hwa]; exact (Below.al (Below.refl _ _) _).drew
  have oA : wa.ownsRow W7.heap.size 47 4 (.slice (some ⟨W7.heap.size, 0, none⟩) 0 0) 0 [] := by rw [hwa]; exact owns_block _ _ 47 4 0 [] _ (Nat.le_refl _) (heap_last _ _) rfl (by decide)
  rw [← hwa]
  clear hwa
  refine hK _ _ trivial hba ?_
  clear hK K
  try simp only [Act.put, List.setIfInBounds_toArray, List.set_cons_zero, List.set_cons_succ]
  refine wpAnyG_oneS (i := 5) (by kernel_rfl) rfl (by rfl) (fun K hK => ?_)
  refine wp_app_new (.tmp 16) (.tmp 20) 23 rfl W7.heap.size 47 _ 4 32 EPs _ rfl oA v1 j _ rfl (HR1.out _ hba) (rcs_one _ _) (by unfold maxLen; omega) (by omega) hba.size ?_
  intro aA cA w1 oA1 hb1
  go_simp
  have hB1 := Below.next hba hb1
  refine hK _ _ trivial hB1 ?_
  clear hK K
  try simp only [Act.put, List.setIfInBounds_toArray, List.set_cons_zero, List.set_cons_succ]
  refine wpAnyG_oneS (i := 11) (by kernel_rfl) rfl (by rfl) (fun K hK => ?_)
  refine wp_app (.tmp 21) (.tmp 26) 23 rfl W7.heap.size 47 _ 4 32 EPs _ j (rcs psR (X.fr.take j)) rfl oA1 v2 (F - (j + 1)) _ rfl (HR2.out _ hB1) (rcs_one _ _) (by unfold maxLen; omega) (by omega) hB1.size ?_
  intro aB cB w2 oB hg2 hb2
  obtain ⟨M, hM⟩ : ∃ M, j + (F - (j + 1)) = M := ⟨_, rfl⟩
  rw [hM] at oB ⊢
  have hM0 := Lib.hid hM
  go_simp
  have hB2 := hB1.trans hb2
  obtain ⟨X2, HX2⟩ : ∃ X2, Hid (outF X j = X2) := ⟨_, Lib.hid rfl⟩
  have hcs2 : X2.cs = X.cs := by rw [← HX2.out]; rfl
  have hds2 : X2.ds = X.ds := by rw [← HX2.out]; rfl
  have hfr2 : X2.fr = X.fr.take j ++ X.fr.drop (j + 1) := by rw [← HX2.out]; rfl
  have hfl2 : X2.fr.length = M := by rw [hfr2, List.length_append, List.length_take, List.length_drop, HF.out]; omega
  have oB2 : OwP w2 W7.heap.size (.slice aB M cB) X2.fr := by
    unfold OwP
    rw [hfl2, hfr2, rcs_append]
    exact oB
  have hbx2 := HB3.out.below hB2
  have hBw2 := Below.next HBW.out hB2
  have hW7w := HBW.out.size
  have or3 : OR w2 B g cap (.slice aB M cB) q X2 := by
    have e := (HOR.out.below hBw2).frames (F := X2.fr) (Kx.refl _ w2) (own_mono oB2 (by omega))
    have e2 : ({ X with fr := X2.fr } : Wd) = X2 := by rw [← HX2.out]; rfl
    rw [e2] at e
    exact e
  obtain ⟨w8, hw8⟩ : ∃ V : World, V = w2.setCell ⟨w.heap.size, 2, none⟩ (.slice aB M cB) := ⟨_, rfl⟩
  have hk8 : Kx (fun k => k = w.heap.size) w2 w8 := by rw [hw8]; exact kx_cell _ _ _ _
  have or8 : OR w8 B g cap (.slice aB M cB) q X2 := or3.kx hk8 (fun k e e2 => or3.nbox hbx2 (by decide) (by decide) (by decide) (by rw [e2] at e; exact e))
  have hb8 : BoxN w8 w.heap.size 25 #[.int .i64 X.ds, .slice (some ⟨g, 0, none⟩) N cap, .slice aB M cB] := by rw [hw8]; exact hbx2.setc 2 _
  have hn8 : BoxN w8 p7 47 #[.int .i64 f.kd, .int .i64 f.fr, .int .i64 f.tt, .int .i64 f.of] := hk8.box (by omega) (HB7.out.below hB2)
  have hr8 : BoxN w8 (w.heap.size + 1) 25 #[.int .i64 0, .slice none 0 0, .slice none 0 0] := hk8.box (by omega) (HB6.out.below hB2)
  have hB8 : Below w.heap.size w w8 := hBw2.trans (hk8.below hBw2.size (fun b e => by omega))
  have hmn8 : ∀ k, Mn g (.slice aB M cB) q k → Mn g (.slice (some ⟨rb, ro, none⟩) F fc) q k ∨ w.heap.size ≤ k := fun k e => by
    rcases e with e | e | e
    · exact .inl (.inl e)
    · have := (oB2.lt k e).1
      exact .inr (by omega)
    · exact .inl (.inr (.inr e))
  have HAB : Hid (∀ k, (Value.slice aB M cB).ownBlock = some k → w.heap.size ≤ k) := Lib.hid (fun k e => by have := (oB2.lt k e).1; omega)
  have HO8 := Lib.hid or8
  have HW8 := Lib.hid hb8
  have HF8 := Lib.hid hn8
  have HR8 := Lib.hid hr8
  have HB8 := Lib.hid hB8
  have HM8 := Lib.hid hmn8
  have HCS := Lib.hid hcs2
  have HDS := Lib.hid hds2
  have HFL := Lib.hid hfl2
  have q2 := hbx2.frozen 2
  have q1 := cell_later hB2 xc2
  refine hK _ _ trivial hB2 ?_
  clear hK K
  try simp only [Act.put, List.setIfInBounds_toArray, List.set_cons_zero, List.set_cons_succ]
  refine reg0_tk (v := ?_) 12 28 rfl rfl (by kernel_rfl) (by kernel_rfl) (by kernel_rfl) (by kernel_rfl) (by kernel_rfl) (fun _ _ _ h => h) (by rfl) ?_ (by assumption) (by assumption) ?_
  rotate_left
  · (intro w3 hS; (try dsimp only at hS); skip; go_simp; (try with_reducible rfl))
  simp only [List.setIfInBounds_toArray, List.set_cons_zero, List.set_cons_succ]
  refine wpAnyG_one (i := 13) (by kernel_rfl) rfl (by rfl) (by kernel_rfl) (fun K hK => ?_)
  go_simp
  refine hK _ _ trivial ?_
  clear hK K
  try simp only [Act.put, List.setIfInBounds_toArray, List.set_cons_zero, List.set_cons_succ]
  refine wpAnyG_done (by kernel_rfl) ?_ _
  refine NoPanic.normal ?_
  rw [← hw8]
  clear hw8 hk8 or3 or8 hb8 hn8 hr8 hB8 hmn8 hcs2 hds2 hfl2 hfr2 hbx2 hBw2 oB oB2 oA oA1 hg2 hb2 hb1 hba hB1 hB2 q2 q1 xc2 hM hv1 hv2
  obtain ⟨y, HY⟩ : ∃ y, Hid (gq q i = y) := ⟨_, Lib.hid rfl⟩
  obtain ⟨c, HC⟩ : ∃ c, Hid (gc X.cs i = c) := ⟨_, Lib.hid rfl⟩
  have hi2 : i < X2.cs.length := by rw [HCS.out, HN.out]; exact hi
  have hco := HO8.out.cop i
  rw [HY.out, HCS.out, HC.out] at hco
  obtain ⟨a0, a1, a2, a3, a4, a5⟩ := HO8.out.at i hi2
  rw [HY.out] at a0 a1 a2 a3 a4 a5
  have hcok := HCO.out
  rw [HC.out] at hcok hsl
  have hat2 : atC X2 f.tt = c := by
    have e := HAT.out
    unfold atC at e ⊢
    rw [HCS.out, e, HC.out]
  have hset2 : ∀ z, setC X2 f.tt z = setI X2 i z := fun z => by
    have e := HFI.out
    unfold setC setI
    rw [show (f.tt - 1).toNat = i by omega]
  have HAT2 := Lib.hid hat2
  have HSET := Lib.hid hset2
  have HCP := Lib.hid hco
  have HCK := Lib.hid hcok
  have c0 : w8.cell? ⟨w.heap.size, 0, none⟩ = some (.int .i64 X.ds) := HW8.out.cell 0
  have c1 : w8.cell? ⟨w.heap.size, 1, none⟩ = some (.slice (some ⟨g, 0, none⟩) N cap) := HW8.out.cell 1
  have n0 : w8.cell? ⟨p7, 0, none⟩ = some (.int .i64 f.kd) := HF8.out.cell 0
  have n1 : w8.cell? ⟨p7, 1, none⟩ = some (.int .i64 f.fr) := HF8.out.cell 1
  have n2 : w8.cell? ⟨p7, 2, none⟩ = some (.int .i64 f.tt) := HF8.out.cell 2
  have n3 : w8.cell? ⟨p7, 3, none⟩ = some (.int .i64 f.of) := HF8.out.cell 3
  have hws : IntKind.i64.wrap (f.tt - 1) = (i : Int) := by
    have e := HFI.out
    rw [show f.tt - 1 = (i : Int) by omega]
    exact IntWalk.i64_in _ (by omega)
  have i3 : (0 : Int) ≤ (i : Int) := by omega
  have i4 : (i : Int) < (N : Int) := by omega
  have hwi : IntKind.i64.wrap (i : Int) = (i : Int) := IntWalk.i64_in _ (by omega)
  clear hco hcok hat2 hset2 i1 i2 hwj hwj0 hi2
  go_upto_region 4 with fail
  by_cases hk : f.kd = 3
  · have d1 : (f.kd == 3) = true := by simp [hk]
    obtain ⟨dd, hdd⟩ : ∃ b, (f.tt == X.ds) = b := ⟨_, rfl⟩
    have HDD := Lib.hid hdd
    obtain ⟨ak, HAK⟩ : ∃ z, Hid (ansK c ⟨f.fr, f.of⟩ rash = z) := ⟨_, Lib.hid rfl⟩
    obtain ⟨ce, HC1⟩ : ∃ z, Hid (ansC dd c ⟨f.fr, f.of⟩ rash = z) := ⟨_, Lib.hid rfl⟩
    obtain ⟨X3, HX3⟩ : ∃ X3, Hid (setI X2 i ce = X3) := ⟨_, Lib.hid rfl⟩
    have hxe : XE = { X3 with fr := X2.fr ++ [⟨ak, f.tt, f.fr, f.of⟩] } := by
      have e1 : decide (f.tt = X2.ds) = dd := by rw [HDS.out, ← HDD.out]; rfl
      rw [← HXE.out, HX2.out]
      unfold pasW
      rw [if_pos hk, e1, HAT2.out, HSET.out, HAK.out, HC1.out, HX3.out]
    have HXF := Lib.hid hxe
    have HAN := Lib.hid (fun w' (hb : Below w8.heap.size w8 w') => ranswer_any w' B y c dd rash ⟨f.fr, f.of⟩ (by have := hb.size; have := HB8.out.size; omega) (HCP.out.below hb) (fun b e1 e2 => HO8.out.ap.tk i i b (by rw [HY.out]; exact e1) (by rw [HY.out]; exact e2)) HCK.out.2.2.1 HCK.out.2.2.2.1 HCK.out.2.2.2.2.2 hsl.1 hsl.2)
    rw [HAK.out, HC1.out] at HAN
    clear hxe hk
    go_upto_region 5 with fail
    go_cut [9, 10] (fun s9 s10 wx => ∃ (cq1 : Cq) (pb : Nat), s9 = .int .i64 ak ∧ s10 = ptr pb ∧ BoxN wx pb 45 #[.int .i64 cq1.st, .int .i64 cq1.tt, .int .i64 cq1.of, .int .i64 cq1.nx, .slice cq1.ta cq1.tn cq1.tc, .slice cq1.ka cq1.kn cq1.kc] ∧ CopO wx B cq1 ce ∧ (∀ b, cq1.tv.ownBlock = some b → y.tv.ownBlock = some b ∨ w8.heap.size ≤ b) ∧ (∀ b, cq1.kv.ownBlock = some b → y.kv.ownBlock = some b ∨ w8.heap.size ≤ b) ∧ (∀ b, cq1.tv.ownBlock = some b → cq1.kv.ownBlock = some b → False) ∧ Below w8.heap.size w8 wx ∧ w8.heap.size ≤ pb)
    case first =>
      as_aux_lemma =>
      refine wp_region_noPanic ?_
      refine wp_region_held_drew (S := (fun w' => Below w8.heap.size w8 w')) (by kernel_rfl) ((Below.refl _ w8).drew) (fun hHeld => ?_)
      refine reg_tk (v := .pointer (some ⟨g, i * 6, none⟩)) 0 39 rfl rfl (by kernel_rfl) (by kernel_rfl) (by kernel_rfl) (fun _ _ _ h => h) (by rfl) (fun w3 hS => by skip; go_simp) (by assumption) ?_
      simp only [List.setIfInBounds_toArray, List.set_cons_zero, List.set_cons_succ]
      refine reg_tk (v := .pointer (some ⟨g, i * 6, none⟩)) 1 40 rfl rfl (by kernel_rfl) (by kernel_rfl) (by kernel_rfl) (fun _ _ _ h => h) (by rfl) (fun w3 hS => by skip; go_simp) (by assumption) ?_
      simp only [List.setIfInBounds_toArray, List.set_cons_zero, List.set_cons_succ]
      refine reg_tk (v := .agg #[.int .i64 y.st, .int .i64 y.tt, .int .i64 y.of, .int .i64 y.nx, .slice y.ta y.tn y.tc, .slice y.ka y.kn y.kc]) 2 41 rfl rfl (by kernel_rfl) (by kernel_rfl) (by kernel_rfl) (fun _ _ _ h => h) (by rfl) (fun w3 hS => by (have j0 := cell_later hS a0; have j1 := cell_later hS a1; have j2 := cell_later hS a2; have j3 := cell_later hS a3; have j4 := cell_later hS a4; have j5 := cell_later hS a5); go_simp) (by assumption) ?_
      simp only [List.setIfInBounds_toArray, List.set_cons_zero, List.set_cons_succ]
      refine reg_tk (v := ?_) 3 42 rfl rfl (by kernel_rfl) (by kernel_rfl) (by kernel_rfl) (fun _ _ _ h => h) (by rfl) ?_ (by assumption) ?_
      rotate_left
      · (intro w hSw; (try dsimp only at hSw); go_simp; (try with_reducible rfl))
      simp only [List.setIfInBounds_toArray, List.set_cons_zero, List.set_cons_succ]
      refine reg_tk (v := .int .i64 f.tt) 4 43 rfl rfl (by kernel_rfl) (by kernel_rfl) (by kernel_rfl) (fun _ _ _ h => h) (by rfl) (fun w3 hS => by have j0 := cell_later hS n2; go_simp) (by assumption) ?_
      simp only [List.setIfInBounds_toArray, List.set_cons_zero, List.set_cons_succ]
      refine reg_tk (v := ?_) 5 44 rfl rfl (by kernel_rfl) (by kernel_rfl) (by kernel_rfl) (fun _ _ _ h => h) (by rfl) ?_ (by assumption) ?_
      rotate_left
      · (intro w hSw; (try dsimp only at hSw); go_simp; (try with_reducible rfl))
      simp only [List.setIfInBounds_toArray, List.set_cons_zero, List.set_cons_succ]
      refine reg_tk (v := .int .i64 X.ds) 6 45 rfl rfl (by kernel_rfl) (by kernel_rfl) (by kernel_rfl) (fun _ _ _ h => h) (by rfl) (fun w3 hS => by have j0 := cell_later hS c0; go_simp) (by assumption) ?_
      simp only [List.setIfInBounds_toArray, List.set_cons_zero, List.set_cons_succ]
      refine reg_tk (v := .bool dd) 7 46 rfl rfl (by kernel_rfl) (by kernel_rfl) (by kernel_rfl) (fun _ _ _ h => h) (by rfl) (fun w3 hS => by skip; go_simp) (by assumption) ?_
      simp only [List.setIfInBounds_toArray, List.set_cons_zero, List.set_cons_succ]
      refine reg_tk (v := ?_) 8 47 rfl rfl (by kernel_rfl) (by kernel_rfl) (by kernel_rfl) (fun _ _ _ h => h) (by rfl) ?_ (by assumption) ?_
      rotate_left
      · (intro w hSw; (try dsimp only at hSw); go_simp; (try with_reducible rfl))
      simp only [List.setIfInBounds_toArray, List.set_cons_zero, List.set_cons_succ]
      refine reg_tk (v := .int .i64 f.fr) 9 48 rfl rfl (by kernel_rfl) (by kernel_rfl) (by kernel_rfl) (fun _ _ _ h => h) (by rfl) (fun w3 hS => by have j0 := cell_later hS n1; go_simp) (by assumption) ?_
      simp only [List.setIfInBounds_toArray, List.set_cons_zero, List.set_cons_succ]
      refine reg_tk (v := ?_) 10 49 rfl rfl (by kernel_rfl) (by kernel_rfl) (by kernel_rfl) (fun _ _ _ h => h) (by rfl) ?_ (by assumption) ?_
      rotate_left
      · (intro w hSw; (try dsimp only at hSw); go_simp; (try with_reducible rfl))
      simp only [List.setIfInBounds_toArray, List.set_cons_zero, List.set_cons_succ]
      refine reg_tk (v := .int .i64 f.of) 11 50 rfl rfl (by kernel_rfl) (by kernel_rfl) (by kernel_rfl) (fun _ _ _ h => h) (by rfl) (fun w3 hS => by have j0 := cell_later hS n3; go_simp) (by assumption) ?_
      simp only [List.setIfInBounds_toArray, List.set_cons_zero, List.set_cons_succ]
      refine reg_tk (v := .agg #[.int .i64 f.fr, .int .i64 f.of]) 12 51 rfl rfl (by kernel_rfl) (by kernel_rfl) (by kernel_rfl) (fun _ _ _ h => h) (by rfl) (fun w3 hS => by skip; go_simp) (by assumption) ?_
      simp only [List.setIfInBounds_toArray, List.set_cons_zero, List.set_cons_succ]
      refine reg_tk (v := .bool rash) 13 52 rfl rfl (by kernel_rfl) (by kernel_rfl) (by kernel_rfl) (fun _ _ _ h => h) (by rfl) (fun w3 hS => by skip; go_simp) (by assumption) ?_
      simp only [List.setIfInBounds_toArray, List.set_cons_zero, List.set_cons_succ]
      have hB0 : Below w8.heap.size w8 w8.drew := (Below.refl _ w8).drew
      refine wpAnyH_ready (rs := [14, 18]) (by kernel_rfl) (by simp) ?_
      refine AllReadyH.cons rfl (fun K hK => ?_) (AllReadyH.cons rfl (fun K hK => ?_) AllReadyH.nil)
      · go_simp
        refine (HAN.out _ hB0).mono ?_
        rintro e v1 ⟨cq1, rfl, hcp, hb1, hT, hK, hTK⟩
        have hle8 := (hB0).size
        have hT8 : ∀ b, cq1.tv.ownBlock = some b → y.tv.ownBlock = some b ∨ w8.heap.size ≤ b := fun b e => (hT b e).imp id (fun h => Nat.le_trans hle8 h)
        have hK8 : ∀ b, cq1.kv.ownBlock = some b → y.kv.ownBlock = some b ∨ w8.heap.size ≤ b := fun b e => (hK b e).imp id (fun h => Nat.le_trans hle8 h)
        clear hT hK hle8
        have hB1 : Below w8.heap.size w8 v1 := Below.next hB0 hb1
        refine hK.out _ _ hB1 (fun hHeld2 => ?_)
        clear hK K hHeld
        have hHeld := hHeld2
        clear hHeld2
        try simp only [Act.put, List.setIfInBounds_toArray, List.set_cons_zero, List.set_cons_succ]
        refine reg_tk (v := ?_) 15 38 rfl rfl (by kernel_rfl) (by kernel_rfl) (by kernel_rfl) (fun _ _ _ h => h) (by rfl) ?_ (by assumption) ?_
        rotate_left
        · (intro w hSw; (try dsimp only at hSw); go_simp; (try with_reducible rfl))
        simp only [List.setIfInBounds_toArray, List.set_cons_zero, List.set_cons_succ]
        refine reg_tk (v := ?_) 16 54 rfl rfl (by kernel_rfl) (by kernel_rfl) (by kernel_rfl) (fun _ _ _ h => h) (by rfl) ?_ (by assumption) ?_
        rotate_left
        · (intro w hSw; (try dsimp only at hSw); go_simp; (try with_reducible rfl))
        simp only [List.setIfInBounds_toArray, List.set_cons_zero, List.set_cons_succ]
        refine reg_tk (v := ?_) 17 55 rfl rfl (by kernel_rfl) (by kernel_rfl) (by kernel_rfl) (fun _ _ _ h => h) (by rfl) ?_ (by assumption) ?_
        rotate_left
        · (intro w hSw; (try dsimp only at hSw); go_simp; (try with_reducible rfl))
        simp only [List.setIfInBounds_toArray, List.set_cons_zero, List.set_cons_succ]
        refine wpAnyH_ready (rs := [18]) (by kernel_rfl) (by simp) ?_
        refine AllReadyH.cons rfl (fun K hK => ?_) AllReadyH.nil
        go_simp
        refine hK.out _ _ (Below.al hB1 _) (fun hHeld2 => ?_)
        clear hK K hHeld
        have hHeld := hHeld2
        clear hHeld2
        try simp only [Act.put, List.setIfInBounds_toArray, List.set_cons_zero, List.set_cons_succ]
        refine reg_tk (v := ?_) 19 9 rfl rfl (by kernel_rfl) (by kernel_rfl) (by kernel_rfl) (fun _ _ _ h => h) (by rfl) ?_ (by assumption) ?_
        rotate_left
        · (intro w hSw; (try dsimp only at hSw); go_simp; (try with_reducible rfl))
        simp only [List.setIfInBounds_toArray, List.set_cons_zero, List.set_cons_succ]
        refine wpAnyH_ready (rs := [20]) (by kernel_rfl) (by simp) ?_
        refine AllReadyH.cons rfl (fun K hK => ?_) AllReadyH.nil
        go_simp
        obtain ⟨W3, hW3⟩ : ∃ V : World, V = World.alloc v1 (.cells #[.int .i64 cq1.st, .int .i64 cq1.tt, .int .i64 cq1.of, .int .i64 cq1.nx, .slice cq1.ta cq1.tn cq1.tc, .slice cq1.ka cq1.kn cq1.kc] 45) := ⟨_, rfl⟩
        have b3 : BoxN W3 (v1.heap.size) 45 #[.int .i64 cq1.st, .int .i64 cq1.tt, .int .i64 cq1.of, .int .i64 cq1.nx, .slice cq1.ta cq1.tn cq1.tc, .slice cq1.ka cq1.kn cq1.kc] := by rw [hW3]; exact BoxN.new _ _ _
        have hb3 : Below (World.heap v1).size v1 W3 := by rw [hW3]; exact (by repeat (first | assumption | exact Below.refl _ _ | apply Below.al | apply below_drewN | apply Below.drew | refine Below.next ?_ (by assumption)))
        have hB3 := Below.next hB1 hb3
        have hz3 := (hB1).size
        have hcp3 : CopO W3 B cq1 ce := by rw [hW3]; first | exact hcp.box6 bz1 _ _ _ _ _ _ | exact hcp.below (by rw [hW3] at hb3; exact hb3)
        have hz8 : w8.heap.size ≤ v1.heap.size := by first | exact hza | exact hz3
        rw [← hW3]
        refine hK.out _ _ hB3 (fun hHeld2 => ?_)
        clear hK K hHeld
        have hHeld := hHeld2
        clear hHeld2
        try simp only [Act.put, List.setIfInBounds_toArray, List.set_cons_zero, List.set_cons_succ]
        refine wpAnyH_done (by kernel_rfl) ?_ _
        refine NoPanic.normal ?_
        clear hHeld hW3 hb3
        go_wp2_with fail
        go_meet
        exact ⟨cq1, _, rfl, rfl, b3, hcp3, hT8, hK8, hTK, hB3, hz8⟩
      · go_simp
        have hal := Below.al hB0 (.cells #[.int .i64 0, .int .i64 0, .int .i64 0, .int .i64 0, .slice none 0 0, .slice none 0 0] 45)
        refine hK.out _ _ hal (fun hHeld2 => ?_)
        clear hK K hHeld
        have hHeld := hHeld2
        clear hHeld2
        try simp only [Act.put, List.setIfInBounds_toArray, List.set_cons_zero, List.set_cons_succ]
        have bzA : BoxN (World.alloc w8.drew (.cells #[.int .i64 0, .int .i64 0, .int .i64 0, .int .i64 0, .slice none 0 0, .slice none 0 0] 45)) (w8.heap.size) 45 #[.int .i64 0, .int .i64 0, .int .i64 0, .int .i64 0, .slice none 0 0, .slice none 0 0] := BoxN.new _ _ _
        have hza : w8.heap.size ≤ w8.heap.size := (hB0).size
        refine wpAnyH_ready (rs := [14]) (by kernel_rfl) (by simp) ?_
        refine AllReadyH.cons rfl (fun K hK => ?_) AllReadyH.nil
        go_simp
        refine (HAN.out _ hal).mono ?_
        rintro e v1 ⟨cq1, rfl, hcp, hb1, hT, hK, hTK⟩
        have hle8 := (hal).size
        have hT8 : ∀ b, cq1.tv.ownBlock = some b → y.tv.ownBlock = some b ∨ w8.heap.size ≤ b := fun b e => (hT b e).imp id (fun h => Nat.le_trans hle8 h)
        have hK8 : ∀ b, cq1.kv.ownBlock = some b → y.kv.ownBlock = some b ∨ w8.heap.size ≤ b := fun b e => (hK b e).imp id (fun h => Nat.le_trans hle8 h)
        clear hT hK hle8
        have hB1 : Below w8.heap.size w8 v1 := Below.next hal hb1
        have bz1 : BoxN v1 (w8.heap.size) 45 #[.int .i64 0, .int .i64 0, .int .i64 0, .int .i64 0, .slice none 0 0, .slice none 0 0] := bzA.below hb1
        refine hK.out _ _ hB1 (fun hHeld2 => ?_)
        clear hK K hHeld
        have hHeld := hHeld2
        clear hHeld2
        try simp only [Act.put, List.setIfInBounds_toArray, List.set_cons_zero, List.set_cons_succ]
        refine reg_tk (v := ?_) 15 38 rfl rfl (by kernel_rfl) (by kernel_rfl) (by kernel_rfl) (fun _ _ _ h => h) (by rfl) ?_ (by assumption) ?_
        rotate_left
        · (intro w hSw; (try dsimp only at hSw); go_simp; (try with_reducible rfl))
        simp only [List.setIfInBounds_toArray, List.set_cons_zero, List.set_cons_succ]
        refine reg_tk (v := ?_) 16 54 rfl rfl (by kernel_rfl) (by kernel_rfl) (by kernel_rfl) (fun _ _ _ h => h) (by rfl) ?_ (by assumption) ?_
        rotate_left
        · (intro w hSw; (try dsimp only at hSw); go_simp; (try with_reducible rfl))
        simp only [List.setIfInBounds_toArray, List.set_cons_zero, List.set_cons_succ]
        refine reg_tk (v := ?_) 17 55 rfl rfl (by kernel_rfl) (by kernel_rfl) (by kernel_rfl) (fun _ _ _ h => h) (by rfl) ?_ (by assumption) ?_
        rotate_left
        · (intro w hSw; (try dsimp only at hSw); go_simp; (try with_reducible rfl))
        simp only [List.setIfInBounds_toArray, List.set_cons_zero, List.set_cons_succ]
        have t0 : World.cell? v1 ⟨w8.heap.size, 0, none⟩ = some (.int .i64 0) := bz1.cell 0
        have y0 := bz1.frozen 0
        have t1 : World.cell? v1 ⟨w8.heap.size, 1, none⟩ = some (.int .i64 0) := bz1.cell 1
        have y1 := bz1.frozen 1
        have t2 : World.cell? v1 ⟨w8.heap.size, 2, none⟩ = some (.int .i64 0) := bz1.cell 2
        have y2 := bz1.frozen 2
        have t3 : World.cell? v1 ⟨w8.heap.size, 3, none⟩ = some (.int .i64 0) := bz1.cell 3
        have y3 := bz1.frozen 3
        have t4 : World.cell? v1 ⟨w8.heap.size, 4, none⟩ = some (.slice none 0 0) := bz1.cell 4
        have y4 := bz1.frozen 4
        have t5 : World.cell? v1 ⟨w8.heap.size, 5, none⟩ = some (.slice none 0 0) := bz1.cell 5
        have y5 := bz1.frozen 5
        refine reg_tk (v := ?_) 19 9 rfl rfl (by kernel_rfl) (by kernel_rfl) (by kernel_rfl) (fun _ _ _ h => h) (by rfl) ?_ (by assumption) ?_
        rotate_left
        · (intro w hSw; (try dsimp only at hSw); go_simp; (try with_reducible rfl))
        simp only [List.setIfInBounds_toArray, List.set_cons_zero, List.set_cons_succ]
        refine wpAnyH_ready (rs := [20]) (by kernel_rfl) (by simp) ?_
        refine AllReadyH.cons rfl (fun K hK => ?_) AllReadyH.nil
        go_simp
        obtain ⟨W3, hW3⟩ : ∃ V : World, V = (((((World.setCell v1 ⟨w8.heap.size, 0, none⟩ (.int .i64 cq1.st)).setCell ⟨w8.heap.size, 1, none⟩ (.int .i64 cq1.tt)).setCell ⟨w8.heap.size, 2, none⟩ (.int .i64 cq1.of)).setCell ⟨w8.heap.size, 3, none⟩ (.int .i64 cq1.nx)).setCell ⟨w8.heap.size, 4, none⟩ (.slice cq1.ta cq1.tn cq1.tc)).setCell ⟨w8.heap.size, 5, none⟩ (.slice cq1.ka cq1.kn cq1.kc) := ⟨_, rfl⟩
        have b3 : BoxN W3 (w8.heap.size) 45 #[.int .i64 cq1.st, .int .i64 cq1.tt, .int .i64 cq1.of, .int .i64 cq1.nx, .slice cq1.ta cq1.tn cq1.tc, .slice cq1.ka cq1.kn cq1.kc] := by rw [hW3]; exact ((((((bz1).setc 0 _).setc 1 _).setc 2 _).setc 3 _).setc 4 _).setc 5 _
        have hB3 : Below w8.heap.size w8 W3 := by rw [hW3]; exact (((((hB1.setCell (p := ⟨w8.heap.size, 0, none⟩) hza _).setCell (p := ⟨w8.heap.size, 1, none⟩) hza _).setCell (p := ⟨w8.heap.size, 2, none⟩) hza _).setCell (p := ⟨w8.heap.size, 3, none⟩) hza _).setCell (p := ⟨w8.heap.size, 4, none⟩) hza _).setCell (p := ⟨w8.heap.size, 5, none⟩) hza _
        have hcp3 : CopO W3 B cq1 ce := by rw [hW3]; first | exact hcp.box6 bz1 _ _ _ _ _ _ | exact hcp.below (by rw [hW3] at hb3; exact hb3)
        have hz8 : w8.heap.size ≤ w8.heap.size := by first | exact hza | exact hz3
        rw [← hW3]
        refine hK.out _ _ hB3 (fun hHeld2 => ?_)
        clear hK K hHeld
        have hHeld := hHeld2
        clear hHeld2
        try simp only [Act.put, List.setIfInBounds_toArray, List.set_cons_zero, List.set_cons_succ]
        refine wpAnyH_done (by kernel_rfl) ?_ _
        refine NoPanic.normal ?_
        clear hHeld hW3 t0 y0 t1 y1 t2 y2 t3 y3 t4 y4 t5 y5
        go_wp2_with fail
        go_meet
        exact ⟨cq1, _, rfl, rfl, b3, hcp3, hT8, hK8, hTK, hB3, hz8⟩
    case rest =>
      obtain ⟨cq1, pb, rfl, rfl, bcq, hcp1, hT, hK, hTK, hb9, hpb⟩ := hcut
      rename World => wx
      have hiq : i < q.length := by rw [HO8.out.len, HCS.out, HN.out]; exact hi
      have hi2 : i < X2.cs.length := by rw [HCS.out, HN.out]; exact hi
      have hap := ap_new HO8.out hiq (y' := cq1) (by rw [HY.out]; exact hT) (by rw [HY.out]; exact hK) hTK
      have HO9 := Lib.hid (HO8.out.below hb9)
      obtain ⟨h6, hk6⟩ := HO9.out.whole hi2 hcp1 hap
      rw [HX3.out] at h6
      have a0 := cell_later hb9 a0
      have a1 := cell_later hb9 a1
      have a2 := cell_later hb9 a2
      have a3 := cell_later hb9 a3
      have a4 : wx.cell? ⟨g, i * 6 + 4, none⟩ = some (.slice y.ta y.tn y.tc) := cell_later hb9 a4
      have a5 : wx.cell? ⟨g, i * 6 + 5, none⟩ = some (.slice y.ka y.kn y.kc) := cell_later hb9 a5
      have z0 := HO9.out.there (i * 6)
      have z1 := HO9.out.there (i * 6 + 1)
      have z2 := HO9.out.there (i * 6 + 2)
      have z3 := HO9.out.there (i * 6 + 3)
      have z4 := HO9.out.there (i * 6 + 4)
      have z5 := HO9.out.there (i * 6 + 5)
      have u0 : wx.cell? ⟨pb, 0, none⟩ = some (.int .i64 cq1.st) := bcq.cell 0
      have u1 : wx.cell? ⟨pb, 1, none⟩ = some (.int .i64 cq1.tt) := bcq.cell 1
      have u2 : wx.cell? ⟨pb, 2, none⟩ = some (.int .i64 cq1.of) := bcq.cell 2
      have u3 : wx.cell? ⟨pb, 3, none⟩ = some (.int .i64 cq1.nx) := bcq.cell 3
      have u4 : wx.cell? ⟨pb, 4, none⟩ = some (.slice cq1.ta cq1.tn cq1.tc) := bcq.cell 4
      have u5 : wx.cell? ⟨pb, 5, none⟩ = some (.slice cq1.ka cq1.kn cq1.kc) := bcq.cell 5
      obtain ⟨wy, HWY⟩ : ∃ V : World, Hid (V = wx.setCells g (i * 6) cq1.vs) := ⟨_, Lib.hid rfl⟩
      rw [← HWY.out] at h6 hk6
      have hmn6 : ∀ k, Mn g (.slice aB M cB) (q.set i cq1) k → Mn g (.slice (some ⟨rb, ro, none⟩) F fc) q k ∨ w.heap.size ≤ k := fun k hk => by
        have h88 := HB8.out.size
        rcases mn_set hiq hk with e | e | e
        · exact HM8.out k e
        · rcases hT k e with e | e
          · exact HM8.out k (.inr (.inr ⟨i, .inl (by rw [HY.out]; exact e)⟩))
          · exact .inr (by omega)
        · rcases hK k e with e | e
          · exact HM8.out k (.inr (.inr ⟨i, .inr (by rw [HY.out]; exact e)⟩))
          · exact .inr (by omega)
      have HM6 := Lib.hid hmn6
      have HOY := Lib.hid h6
      have HWYB := Lib.hid (hk6.box (by omega) (HW8.out.below hb9))
      have HFY := Lib.hid (hk6.box (by omega) (HF8.out.below hb9))
      have HRY := Lib.hid (hk6.box (by omega) (HR8.out.below hb9))
      have hkx6 : Kx (Mn g (.slice (some ⟨rb, ro, none⟩) F fc) q) w wy := (Kx.of_below (X := Mn g (.slice (some ⟨rb, ro, none⟩) F fc) q) (Below.next HB8.out hb9)).trans hk6 (fun k _ e => .inl e)
      have HKY := Lib.hid hkx6
      clear HAN hap h6 hk6 hmn6 hkx6 bcq hcp1 hT hK hTK hb9 c0 c1 n0 n1 n2 n3
      go_upto_region 7 with fail
      rw [set6, ← HWY.out]
      clear HWY a0 a1 a2 a3 a4 a5 z0 z1 z2 z3 z4 z5 u0 u1 u2 u3 u4 u5
      obtain ⟨q9, HQ9⟩ : ∃ z, Hid (q.set i cq1 = z) := ⟨_, Lib.hid rfl⟩
      rw [HQ9.out] at HOY HM6
      have hfl3 : X3.fr.length = M := by rw [← HX3.out]; exact HFL.out
      have hfr3 : X3.fr = X2.fr := by rw [← HX3.out]; rfl
      have hds3 : XE.ds = X.ds := by rw [HXF.out, ← HX3.out]; exact HDS.out
      have hcs3 : XE.cs.length = N := by
        rw [HXF.out, ← HX3.out]
        show (setI X2 i ce).cs.length = N
        rw [setI_len, HCS.out]
        exact HN.out
      have HDZ := Lib.hid hds3
      have HNZ := Lib.hid hcs3
      have HFL3 := Lib.hid hfl3
      have HFR3 := Lib.hid hfr3
      have hMF : M ≤ F := by rw [← hM0.out]; omega
      have hV : Below wy.heap.size wy (wy.alloc (.cells #[.int .i64 ak, .int .i64 f.tt, .int .i64 f.fr, .int .i64 f.of] 47)) := Below.al (Below.refl _ _) _
      have hOV := HOY.out.below hV
      have hVo := hOV.frs
      unfold OwP at hVo
      rw [hfl3] at hVo
      have hVn : RdS (wy.alloc (.cells #[.int .i64 ak, .int .i64 f.tt, .int .i64 f.fr, .int .i64 f.of] 47)) 4 (.slice (some ⟨wy.heap.size, 0, none⟩) 1 1) 1 (rcs psR [⟨ak, f.tt, f.fr, f.of⟩]) := RdS.boxP wy _ ⟨ak, f.tt, f.fr, f.of⟩
      have HOV := Lib.hid hOV
      have HVO := Lib.hid hVo
      have HVN := Lib.hid hVn
      have HVB := Lib.hid hV
      have m2 : wy.cell? ⟨w.heap.size, 2, none⟩ = some (.slice aB M cB) := HWYB.out.cell 2
      have n1 : wy.cell? ⟨p7, 1, none⟩ = some (.int .i64 f.fr) := HFY.out.cell 1
      have n2 : wy.cell? ⟨p7, 2, none⟩ = some (.int .i64 f.tt) := HFY.out.cell 2
      have n3 : wy.cell? ⟨p7, 3, none⟩ = some (.int .i64 f.of) := HFY.out.cell 3
      have hBy : B ≤ wy.heap.size := by have := HB8.out.size; have := HKY.out.size; omega
      clear hV hOV hVo hVn hfl3 hfr3 hds3 hcs3
      go_upto_region 8 with (at_builtin; refine wpList_app_at rfl (.tmp 60) (.tmp 69) 23 rfl B 47 _ 4 32 EPs _ M (rcs psR X3.fr) rfl HVO.out _ 1 (rcs psR [⟨ak, f.tt, f.fr, f.of⟩]) (by decide) rfl HVN.out (rcs_one _ _) ?_ ?_ ?_ ?_)
      · unfold maxLen; omega
      · omega
      · simp; omega
      intro a' c' w3 hown hg hwh
      have hkk : Kx (fun k => (Value.slice aB M cB).ownBlock = some k) (wy.alloc (.cells #[.int .i64 ak, .int .i64 f.tt, .int .i64 f.fr, .int .i64 f.of] 47)) w3 := (Kx.refl (fun k => (Value.slice aB M cB).ownBlock = some k) _).grown hg (fun k e => .inl e)
      have hbV := HWYB.out.below HVB.out
      have hrV := HRY.out.below HVB.out
      have hb3 : BoxN w3 w.heap.size 25 #[.int .i64 X.ds, .slice (some ⟨g, 0, none⟩) N cap, .slice aB M cB] := hkk.box (fun e => HOV.out.nbox hbV (by decide) (by decide) (by decide) (.inr (.inl e))) hbV
      have hr3 : BoxN w3 (w.heap.size + 1) 25 #[.int .i64 0, .slice none 0 0, .slice none 0 0] := hkk.box (fun e => HOV.out.nbox hrV (by decide) (by decide) (by decide) (.inr (.inl e))) hrV
      have or3 : OR w3 B g cap (.slice a' (M + 1) c') q9 XE := by
        have e := HOV.out.frames (F := X3.fr ++ [⟨ak, f.tt, f.fr, f.of⟩]) hkk (by unfold OwP; rw [List.length_append, HFL3.out, rcs_append]; exact hown)
        have e2 : ({ X3 with fr := X3.fr ++ [⟨ak, f.tt, f.fr, f.of⟩] } : Wd) = XE := by rw [HXF.out, HFR3.out]
        rw [e2] at e
        exact e
      obtain ⟨w9, hw9⟩ : ∃ V : World, V = w3.setCell ⟨w.heap.size, 2, none⟩ (.slice a' (M + 1) c') := ⟨_, rfl⟩
      have hk9 : Kx (fun k => k = w.heap.size) w3 w9 := by rw [hw9]; exact kx_cell _ _ _ _
      have HOZ := Lib.hid (or3.kx hk9 (fun k e e2 => or3.nbox hb3 (by decide) (by decide) (by decide) (by rw [e2] at e; exact e)))
      have HWZ : Hid (BoxN w9 w.heap.size 25 #[.int .i64 X.ds, .slice (some ⟨g, 0, none⟩) N cap, .slice a' (M + 1) c']) := Lib.hid (by rw [hw9]; exact hb3.setc 2 _)
      have HRZ := Lib.hid (hk9.box (by omega) hr3)
      have HKZ := Lib.hid (((HKY.out.next HVB.out).trans hkk (fun k hlt e => by have := HAB.out k e; omega)).trans hk9 (fun k hlt e => by omega))
      have HMZ : Hid (∀ k, Mn g (.slice a' (M + 1) c') q9 k → Mn g (.slice (some ⟨rb, ro, none⟩) F fc) q k ∨ w.heap.size ≤ k) := Lib.hid (fun k hk => by
        rcases hk with e | e | e
        · exact .inl (.inl e)
        · rcases hwh k e with e | e
          · exact .inr (HAB.out k e)
          · have h1 := HVB.out.size
            have h2 := HKY.out.size
            exact .inr (by omega)
        · exact HM6.out k (.inr (.inr e)))
      have v2 : w3.cell? ⟨w.heap.size, 2, none⟩ = some (.slice aB M cB) := hb3.cell 2
      have y2 := hb3.frozen 2
      clear hkk hbV hrV hb3 hr3 or3 hk9 hown hg hwh m2 n1 n2 n3
      go_upto_region 8 with fail
      rw [← hw9]
      clear hw9 v2 y2
      have m0 : World.cell? w9 ⟨w.heap.size, 0, none⟩ = some (.int .i64 X.ds) := HWZ.out.cell 0
      have m1 : World.cell? w9 ⟨w.heap.size, 1, none⟩ = some (.slice (some ⟨g, 0, none⟩) N cap) := HWZ.out.cell 1
      have m2 : World.cell? w9 ⟨w.heap.size, 2, none⟩ = some (.slice a' (M + 1) c') := HWZ.out.cell 2
      have l0 : World.cell? w9 ⟨w.heap.size + 1, 0, none⟩ = some (.int .i64 0) := HRZ.out.cell 0
      have l1 : World.cell? w9 ⟨w.heap.size + 1, 1, none⟩ = some (.slice none 0 0) := HRZ.out.cell 1
      have l2 : World.cell? w9 ⟨w.heap.size + 1, 2, none⟩ = some (.slice none 0 0) := HRZ.out.cell 2
      have k0 := HRZ.out.frozen 0
      have k1 := HRZ.out.frozen 1
      have k2 := HRZ.out.frozen 2
      obtain ⟨wE, hwE⟩ : ∃ V : World, V = ((World.setCell w9 ⟨w.heap.size + 1, 0, none⟩ (.int .i64 X.ds)).setCell ⟨w.heap.size + 1, 1, none⟩ (.slice (some ⟨g, 0, none⟩) N cap)).setCell ⟨w.heap.size + 1, 2, none⟩ (.slice a' (M + 1) c') := ⟨_, rfl⟩
      have hkr : Kx (fun k => k = w.heap.size + 1) w9 wE := by rw [hwE]; exact (((Kx.refl (fun k => k = w.heap.size + 1) w9).setCell (.inl rfl) _).setCell (.inl rfl) _).setCell (.inl rfl) _
      have hbE : BoxN wE (w.heap.size + 1) 25 #[.int .i64 X.ds, .slice (some ⟨g, 0, none⟩) N cap, (.slice a' (M + 1) c')] := by rw [hwE]; exact ((HRZ.out.setc 0 _).setc 1 _).setc 2 _
      have HFIN : Hid (ROut w B g cap (.slice (some ⟨rb, ro, none⟩) F fc) q XE (.returned (.agg #[.int .i64 X.ds, .slice (some ⟨g, 0, none⟩) N cap, (.slice a' (M + 1) c')])) wE) := Lib.hid ⟨(.slice a' (M + 1) c'), q9, by rw [HNZ.out, ← HDZ.out], HOZ.out.kx hkr (fun k e e2 => HOZ.out.nbox HRZ.out (by decide) (by decide) (by decide) (by rw [e2] at e; exact e)), HKZ.out.trans hkr (fun k hlt e => by omega), HMZ.out⟩
      have r0 : wE.cell? ⟨w.heap.size + 1, 0, none⟩ = some (.int .i64 X.ds) := hbE.cell 0
      have r1 : wE.cell? ⟨w.heap.size + 1, 1, none⟩ = some (.slice (some ⟨g, 0, none⟩) N cap) := hbE.cell 1
      have r2 : wE.cell? ⟨w.heap.size + 1, 2, none⟩ = some (.slice a' (M + 1) c') := hbE.cell 2
      clear hkr hbE
      go_wp2_with fail
      rw [← hwE]
      exact bodyPost_ret (v := .agg #[.int .i64 X.ds, .slice (some ⟨g, 0, none⟩) N cap, (.slice a' (M + 1) c')]) (by simp [results, Try.results61, go_sem, r0, r1, r2]) rfl HFIN.out
  · have d1 : (f.kd == 3) = false := by simp [hk]
    obtain ⟨bad, hbad⟩ : ∃ b, decide (¬ (y.st = 2 ∧ y.tt = f.fr ∧ y.of = f.of)) = b := ⟨_, rfl⟩
    have HBAD := Lib.hid hbad
    have hxe : XE = if c.st = 2 ∧ c.tt = f.fr ∧ c.of = f.of then setI X2 i { c with st := if f.kd = 5 then 3 else 1, tt := 0, of := 0 } else X2 := by
      rw [← HXE.out, HX2.out]
      unfold pasW
      rw [if_neg hk, HAT2.out, HSET.out]
    have HXF := Lib.hid hxe
    have hds3 : XE.ds = X.ds := by rw [hxe]; split <;> exact HDS.out
    have hcs3 : XE.cs.length = N := by
      rw [hxe]
      split
      · rw [setI_len, HCS.out]; exact HN.out
      · rw [HCS.out]; exact HN.out
    have HDZ := Lib.hid hds3
    have HNZ := Lib.hid hcs3
    clear hxe hk hds3 hcs3 hbad
    go_upto_region 9 with fail
    go_cut [95] (fun s9 wx => s9 = .bool bad ∧ Below w8.heap.size w8 wx)
    case first =>
      as_aux_lemma =>
      by_cases e1 : y.st = 2
      · have d2 : (y.st != 2) = false := by simp [e1]
        by_cases e2 : y.tt = f.fr
        · have d3 : (y.tt != f.fr) = false := by simp [e2]
          by_cases e3 : y.of = f.of
          · have d4 : (y.of != f.of) = false := by simp [e3]
            obtain rfl : bad = false := by rw [← HBAD.out]; exact nb (fun h => h ⟨e1, e2, e3⟩)
            clear e1 e2 e3
            go_quiet (fail)
            go_wp2_with fail
            go_meet
            exact ⟨rfl, below_drewN (Below.refl w8.heap.size w8) _⟩
          · have d4 : (y.of != f.of) = true := by simp [e3]
            obtain rfl : bad = true := by rw [← HBAD.out]; exact yb (fun h => e3 h.2.2)
            clear e1 e2 e3
            go_quiet (fail)
            go_wp2_with fail
            go_meet
            exact ⟨rfl, below_drewN (Below.refl w8.heap.size w8) _⟩
        · have d3 : (y.tt != f.fr) = true := by simp [e2]
          obtain rfl : bad = true := by rw [← HBAD.out]; exact yb (fun h => e2 h.2.1)
          clear e1 e2
          go_quiet (fail)
          go_wp2_with fail
          go_meet
          exact ⟨rfl, below_drewN (Below.refl w8.heap.size w8) _⟩
      · have d2 : (y.st != 2) = true := by simp [e1]
        obtain rfl : bad = true := by rw [← HBAD.out]; exact yb (fun h => e1 h.1)
        clear e1
        go_quiet (fail)
        go_wp2_with fail
        go_meet
        exact ⟨rfl, below_drewN (Below.refl w8.heap.size w8) _⟩
    case rest =>
      obtain ⟨rfl, hb9⟩ := hcut
      rename World => wx
      have HO9 := Lib.hid (HO8.out.below hb9)
      have HW9 := Lib.hid (HW8.out.below hb9)
      have HF9 := Lib.hid (HF8.out.below hb9)
      have HR9 := Lib.hid (HR8.out.below hb9)
      have HK9 : Hid (Kx (Mn g (.slice (some ⟨rb, ro, none⟩) F fc) q) w wx) := Lib.hid (Kx.of_below (X := Mn g (.slice (some ⟨rb, ro, none⟩) F fc) q) (Below.next HB8.out hb9))
      have hi2 : i < X2.cs.length := by rw [HCS.out, HN.out]; exact hi
      clear c0 c1 n0 n1 n2 n3 a0 a1 a2 a3 a4 a5 hb9
      by_cases hv : c.st = 2 ∧ c.tt = f.fr ∧ c.of = f.of
      · obtain rfl : bad = false := by rw [← HBAD.out, HCP.out.st, HCP.out.tt, HCP.out.of]; exact nb (fun h => h hv)
        have hpas := HXF.out
        rw [if_pos hv] at hpas
        have HPE := Lib.hid hpas
        have hhq : hldq y = { y with st := 1, tt := 0, of := 0 } := by unfold hldq; rw [if_pos (by rw [HCP.out.st]; exact hv.1)]
        have hhc : hld c = { c with st := 1, tt := 0, of := 0 } := by unfold hld; rw [if_pos hv.1]
        have hhold := held_any wx B g cap (.slice aB M cB) q X2 i hi2 HO9.out
        rw [HY.out, HCS.out, HC.out, hhq, hhc] at hhold
        have HHD := Lib.hid hhold
        clear hpas hv hhq hhc hhold
        go_wp2_with fail
        refine HHD.out.mono ?_
        rintro e w3 ⟨rfl, h3, hk3⟩
        have hiq : i < q.length := by rw [HO8.out.len, HCS.out, HN.out]; exact hi
        have hq3 : gq (q.set i { y with st := 1, tt := 0, of := 0 }) i = { y with st := 1, tt := 0, of := 0 } := by rw [gq_set hiq, if_pos rfl]
        have hc3 : gc (setI X2 i { c with st := 1, tt := 0, of := 0 }).cs i = { c with st := 1, tt := 0, of := 0 } := by show gc (X2.cs.set i _) i = _; rw [gc_set hi2, if_pos rfl]
        have hmn3 : ∀ (y' : Cq), y'.tv = y.tv → y'.kv = y.kv → ∀ k, Mn g (.slice aB M cB) (q.set i y') k → Mn g (.slice (some ⟨rb, ro, none⟩) F fc) q k ∨ w.heap.size ≤ k := fun y' e1 e2 k hk => by
          rcases mn_set hiq hk with e | e | e
          · exact HM8.out k e
          · exact HM8.out k (.inr (.inr ⟨i, .inl (by rw [HY.out, ← e1]; exact e)⟩))
          · exact HM8.out k (.inr (.inr ⟨i, .inr (by rw [HY.out, ← e2]; exact e)⟩))
        have HMN3 := Lib.hid hmn3
        have HW3 := Lib.hid (hk3.box (by omega) HW9.out)
        have HR3 := Lib.hid (hk3.box (by omega) HR9.out)
        have HF3 := Lib.hid (hk3.box (by omega) HF9.out)
        have HK3 := Lib.hid (HK9.out.trans hk3 (fun k _ e => .inl e))
        have n0 : w3.cell? ⟨p7, 0, none⟩ = some (.int .i64 f.kd) := HF3.out.cell 0
        clear hmn3 hk3
        by_cases h5 : f.kd = 5
        · have d5 : (f.kd == 5) = true := by simp [h5]
          have hst3 := h3.st (i := i) (by rw [setI_len]; exact hi2) 3
          rw [hq3, List.set_set, setI_setI, hc3] at hst3
          have hks : Kx (fun k => k = g) w3 (w3.setCell ⟨g, i * 6, none⟩ (.int .i64 3)) := kx_cell w3 g _ _
          have v0 := (h3.at i (by rw [setI_len]; exact hi2)).1
          have v1 := h3.there (i * 6)
          rw [hq3] at v0
          have v0 : w3.cell? ⟨g, i * 6, none⟩ = some (.int .i64 1) := v0
          obtain ⟨w9, hw9⟩ : ∃ V : World, V = w3.setCell ⟨g, i * 6, none⟩ (.int .i64 3) := ⟨_, rfl⟩
          rw [← hw9] at hst3 hks
          have HOZ : Hid (OR w9 B g cap (.slice aB M cB) (q.set i { y with st := 3, tt := 0, of := 0 }) XE) := Lib.hid (by rw [HPE.out, if_pos h5]; exact hst3)
          have HWZ := Lib.hid (hks.box (by omega) HW3.out)
          have HRZ := Lib.hid (hks.box (by omega) HR3.out)
          have HKZ := Lib.hid (HK3.out.trans hks (fun k _ e => .inl e))
          have HMZ := Lib.hid (HMN3.out { y with st := 3, tt := 0, of := 0 } rfl rfl)
          clear hst3 hks h3 h5 hq3 hc3
          go_upto_region 14 with fail
          rw [← hw9]
          clear hw9 v0 v1 n0
          have m0 : World.cell? w9 ⟨w.heap.size, 0, none⟩ = some (.int .i64 X.ds) := HWZ.out.cell 0
          have m1 : World.cell? w9 ⟨w.heap.size, 1, none⟩ = some (.slice (some ⟨g, 0, none⟩) N cap) := HWZ.out.cell 1
          have m2 : World.cell? w9 ⟨w.heap.size, 2, none⟩ = some (.slice aB M cB) := HWZ.out.cell 2
          have l0 : World.cell? w9 ⟨w.heap.size + 1, 0, none⟩ = some (.int .i64 0) := HRZ.out.cell 0
          have l1 : World.cell? w9 ⟨w.heap.size + 1, 1, none⟩ = some (.slice none 0 0) := HRZ.out.cell 1
          have l2 : World.cell? w9 ⟨w.heap.size + 1, 2, none⟩ = some (.slice none 0 0) := HRZ.out.cell 2
          have k0 := HRZ.out.frozen 0
          have k1 := HRZ.out.frozen 1
          have k2 := HRZ.out.frozen 2
          obtain ⟨wE, hwE⟩ : ∃ V : World, V = ((World.setCell w9 ⟨w.heap.size + 1, 0, none⟩ (.int .i64 X.ds)).setCell ⟨w.heap.size + 1, 1, none⟩ (.slice (some ⟨g, 0, none⟩) N cap)).setCell ⟨w.heap.size + 1, 2, none⟩ (.slice aB M cB) := ⟨_, rfl⟩
          have hkr : Kx (fun k => k = w.heap.size + 1) w9 wE := by rw [hwE]; exact (((Kx.refl (fun k => k = w.heap.size + 1) w9).setCell (.inl rfl) _).setCell (.inl rfl) _).setCell (.inl rfl) _
          have hbE : BoxN wE (w.heap.size + 1) 25 #[.int .i64 X.ds, .slice (some ⟨g, 0, none⟩) N cap, (.slice aB M cB)] := by rw [hwE]; exact ((HRZ.out.setc 0 _).setc 1 _).setc 2 _
          have HFIN : Hid (ROut w B g cap (.slice (some ⟨rb, ro, none⟩) F fc) q XE (.returned (.agg #[.int .i64 X.ds, .slice (some ⟨g, 0, none⟩) N cap, (.slice aB M cB)])) wE) := Lib.hid ⟨(.slice aB M cB), (q.set i { y with st := 3, tt := 0, of := 0 }), by rw [HNZ.out, ← HDZ.out], HOZ.out.kx hkr (fun k e e2 => HOZ.out.nbox HRZ.out (by decide) (by decide) (by decide) (by rw [e2] at e; exact e)), HKZ.out.trans hkr (fun k hlt e => by omega), HMZ.out⟩
          have r0 : wE.cell? ⟨w.heap.size + 1, 0, none⟩ = some (.int .i64 X.ds) := hbE.cell 0
          have r1 : wE.cell? ⟨w.heap.size + 1, 1, none⟩ = some (.slice (some ⟨g, 0, none⟩) N cap) := hbE.cell 1
          have r2 : wE.cell? ⟨w.heap.size + 1, 2, none⟩ = some (.slice aB M cB) := hbE.cell 2
          clear hkr hbE
          go_wp2_with fail
          rw [← hwE]
          exact bodyPost_ret (v := .agg #[.int .i64 X.ds, .slice (some ⟨g, 0, none⟩) N cap, (.slice aB M cB)]) (by simp [results, Try.results61, go_sem, r0, r1, r2]) rfl HFIN.out
        · have d5 : (f.kd == 5) = false := by simp [h5]
          have HOZ : Hid (OR w3 B g cap (.slice aB M cB) (q.set i { y with st := 1, tt := 0, of := 0 }) XE) := Lib.hid (by rw [HPE.out, if_neg h5]; exact h3)
          have HWZ := HW3
          have HRZ := HR3
          have HKZ := HK3
          have HMZ := Lib.hid (HMN3.out { y with st := 1, tt := 0, of := 0 } rfl rfl)
          clear h3 h5 hq3 hc3
          go_upto_region 14 with fail
          clear n0
          have m0 : World.cell? w3 ⟨w.heap.size, 0, none⟩ = some (.int .i64 X.ds) := HWZ.out.cell 0
          have m1 : World.cell? w3 ⟨w.heap.size, 1, none⟩ = some (.slice (some ⟨g, 0, none⟩) N cap) := HWZ.out.cell 1
          have m2 : World.cell? w3 ⟨w.heap.size, 2, none⟩ = some (.slice aB M cB) := HWZ.out.cell 2
          have l0 : World.cell? w3 ⟨w.heap.size + 1, 0, none⟩ = some (.int .i64 0) := HRZ.out.cell 0
          have l1 : World.cell? w3 ⟨w.heap.size + 1, 1, none⟩ = some (.slice none 0 0) := HRZ.out.cell 1
          have l2 : World.cell? w3 ⟨w.heap.size + 1, 2, none⟩ = some (.slice none 0 0) := HRZ.out.cell 2
          have k0 := HRZ.out.frozen 0
          have k1 := HRZ.out.frozen 1
          have k2 := HRZ.out.frozen 2
          obtain ⟨wE, hwE⟩ : ∃ V : World, V = ((World.setCell w3 ⟨w.heap.size + 1, 0, none⟩ (.int .i64 X.ds)).setCell ⟨w.heap.size + 1, 1, none⟩ (.slice (some ⟨g, 0, none⟩) N cap)).setCell ⟨w.heap.size + 1, 2, none⟩ (.slice aB M cB) := ⟨_, rfl⟩
          have hkr : Kx (fun k => k = w.heap.size + 1) w3 wE := by rw [hwE]; exact (((Kx.refl (fun k => k = w.heap.size + 1) w3).setCell (.inl rfl) _).setCell (.inl rfl) _).setCell (.inl rfl) _
          have hbE : BoxN wE (w.heap.size + 1) 25 #[.int .i64 X.ds, .slice (some ⟨g, 0, none⟩) N cap, (.slice aB M cB)] := by rw [hwE]; exact ((HRZ.out.setc 0 _).setc 1 _).setc 2 _
          have HFIN : Hid (ROut w B g cap (.slice (some ⟨rb, ro, none⟩) F fc) q XE (.returned (.agg #[.int .i64 X.ds, .slice (some ⟨g, 0, none⟩) N cap, (.slice aB M cB)])) wE) := Lib.hid ⟨(.slice aB M cB), (q.set i { y with st := 1, tt := 0, of := 0 }), by rw [HNZ.out, ← HDZ.out], HOZ.out.kx hkr (fun k e e2 => HOZ.out.nbox HRZ.out (by decide) (by decide) (by decide) (by rw [e2] at e; exact e)), HKZ.out.trans hkr (fun k hlt e => by omega), HMZ.out⟩
          have r0 : wE.cell? ⟨w.heap.size + 1, 0, none⟩ = some (.int .i64 X.ds) := hbE.cell 0
          have r1 : wE.cell? ⟨w.heap.size + 1, 1, none⟩ = some (.slice (some ⟨g, 0, none⟩) N cap) := hbE.cell 1
          have r2 : wE.cell? ⟨w.heap.size + 1, 2, none⟩ = some (.slice aB M cB) := hbE.cell 2
          clear hkr hbE
          go_wp2_with fail
          rw [← hwE]
          exact bodyPost_ret (v := .agg #[.int .i64 X.ds, .slice (some ⟨g, 0, none⟩) N cap, (.slice aB M cB)]) (by simp [results, Try.results61, go_sem, r0, r1, r2]) rfl HFIN.out
      · obtain rfl : bad = true := by rw [← HBAD.out, HCP.out.st, HCP.out.tt, HCP.out.of]; exact yb hv
        have hpas := HXF.out
        rw [if_neg hv] at hpas
        have HOZ : Hid (OR wx B g cap (.slice aB M cB) q XE) := Lib.hid (by rw [hpas]; exact HO9.out)
        have HWZ := HW9
        have HRZ := HR9
        have HKZ := HK9
        have HMZ := HM8
        clear hpas hv
        have m0 : World.cell? wx ⟨w.heap.size, 0, none⟩ = some (.int .i64 X.ds) := HWZ.out.cell 0
        have m1 : World.cell? wx ⟨w.heap.size, 1, none⟩ = some (.slice (some ⟨g, 0, none⟩) N cap) := HWZ.out.cell 1
        have m2 : World.cell? wx ⟨w.heap.size, 2, none⟩ = some (.slice aB M cB) := HWZ.out.cell 2
        have l0 : World.cell? wx ⟨w.heap.size + 1, 0, none⟩ = some (.int .i64 0) := HRZ.out.cell 0
        have l1 : World.cell? wx ⟨w.heap.size + 1, 1, none⟩ = some (.slice none 0 0) := HRZ.out.cell 1
        have l2 : World.cell? wx ⟨w.heap.size + 1, 2, none⟩ = some (.slice none 0 0) := HRZ.out.cell 2
        have k0 := HRZ.out.frozen 0
        have k1 := HRZ.out.frozen 1
        have k2 := HRZ.out.frozen 2
        obtain ⟨wE, hwE⟩ : ∃ V : World, V = ((World.setCell wx ⟨w.heap.size + 1, 0, none⟩ (.int .i64 X.ds)).setCell ⟨w.heap.size + 1, 1, none⟩ (.slice (some ⟨g, 0, none⟩) N cap)).setCell ⟨w.heap.size + 1, 2, none⟩ (.slice aB M cB) := ⟨_, rfl⟩
        have hkr : Kx (fun k => k = w.heap.size + 1) wx wE := by rw [hwE]; exact (((Kx.refl (fun k => k = w.heap.size + 1) wx).setCell (.inl rfl) _).setCell (.inl rfl) _).setCell (.inl rfl) _
        have hbE : BoxN wE (w.heap.size + 1) 25 #[.int .i64 X.ds, .slice (some ⟨g, 0, none⟩) N cap, (.slice aB M cB)] := by rw [hwE]; exact ((HRZ.out.setc 0 _).setc 1 _).setc 2 _
        have HFIN : Hid (ROut w B g cap (.slice (some ⟨rb, ro, none⟩) F fc) q XE (.returned (.agg #[.int .i64 X.ds, .slice (some ⟨g, 0, none⟩) N cap, (.slice aB M cB)])) wE) := Lib.hid ⟨(.slice aB M cB), q, by rw [HNZ.out, ← HDZ.out], HOZ.out.kx hkr (fun k e e2 => HOZ.out.nbox HRZ.out (by decide) (by decide) (by decide) (by rw [e2] at e; exact e)), HKZ.out.trans hkr (fun k hlt e => by omega), HMZ.out⟩
        have r0 : wE.cell? ⟨w.heap.size + 1, 0, none⟩ = some (.int .i64 X.ds) := hbE.cell 0
        have r1 : wE.cell? ⟨w.heap.size + 1, 1, none⟩ = some (.slice (some ⟨g, 0, none⟩) N cap) := hbE.cell 1
        have r2 : wE.cell? ⟨w.heap.size + 1, 2, none⟩ = some (.slice aB M cB) := hbE.cell 2
        clear hkr hbE
        go_wp2_with fail
        rw [← hwE]
        exact bodyPost_ret (v := .agg #[.int .i64 X.ds, .slice (some ⟨g, 0, none⟩) N cap, (.slice aB M cB)]) (by simp [results, Try.results61, go_sem, r0, r1, r2]) rfl HFIN.out
end Go.Proofs.Ytnkpjfogjkjcfaa
