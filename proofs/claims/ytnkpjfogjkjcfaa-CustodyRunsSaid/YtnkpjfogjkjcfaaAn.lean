


/- Custody: the reference's answer to Data. -/
import Derived.Test.YtnkpjfogjkjcfaaIn
import Derived.Test.YtnkpjfogjkjcfaaRo
namespace Go.Proofs.Ytnkpjfogjkjcfaa
open Go.RowKit
set_option linter.unusedSimpArgs false
set_option linter.unusedVariables false
set_option maxRecDepth 100000

theorem CopO.below {w w' : World} {B : Nat} {y : Cq} {c : Cp} (h : CopO w B y c) (hb : Below w.heap.size w w') : CopO w' B y c := ⟨h.st, h.tt, h.of, h.nx, Own.keep h.tk hb, Own.keep h.kp hb⟩
/-- a copy behind Data, and the kind of the answer -/
def AnR (w : World) (B : Nat) (y : Cq) (c : Cp) (k : Int) (e : Ending) (w' : World) : Prop := ∃ y' : Cq, e = .returned (.tuple #[.int .i64 k, y'.v]) ∧ CopO w' B y' c ∧ Below w.heap.size w w' ∧ (∀ b, y'.tv.ownBlock = some b → y.tv.ownBlock = some b ∨ w.heap.size ≤ b) ∧ (∀ b, y'.kv.ownBlock = some b → y.kv.ownBlock = some b ∨ w.heap.size ≤ b) ∧ (∀ b, y'.tv.ownBlock = some b → y'.kv.ownBlock = some b → False)
set_option maxHeartbeats 2000000 in
theorem ranswer_any (w : World) (B : Nat) (y : Cq) (c : Cp) (d rash : Bool) (t : Tg) (hB : B ≤ w.heap.size) (h : CopO w B y c) (hap : ∀ b, y.tv.ownBlock = some b → y.kv.ownBlock = some b → False) (ha : asc c.tk) (hk : asc c.kp) (hsub : ∀ x, x ∈ c.kp → x ∈ c.tk) (hl1 : c.tk.length ≤ 90000) (hl2 : c.kp.length ≤ 90000) :
    Calls Try.prog 75 #[y.v, .bool d, t.v, .bool rash] w (AnR w B y (ansC d c t rash) (ansK c t rash)) := by
  have hrt := h.rd
  obtain ⟨ca, HCA⟩ : ∃ z, Hid (ansC d c t rash = z) := ⟨_, Lib.hid rfl⟩
  obtain ⟨kd, HKD⟩ : ∃ z, Hid (ansK c t rash = z) := ⟨_, Lib.hid rfl⟩
  rw [HCA.out, HKD.out]
  have htn : y.tn = c.tk.length := by
    obtain ⟨a9, c9, e9⟩ := hrt.tk.form
    simp only [Cq.tv, Value.slice.injEq] at e9
    exact e9.2.1
  have hkn : y.kn = c.kp.length := by
    obtain ⟨a9, c9, e9⟩ := hrt.kp.form
    simp only [Cq.kv, Value.slice.injEq] at e9
    exact e9.2.1
  obtain ⟨st, hst⟩ : ∃ st, y.st = st := ⟨_, rfl⟩
  have hcst : c.st = st := by rw [← hst]; exact h.st.symm
  obtain ⟨wc, hW⟩ : ∃ W : World, W = ((w.alloc (.cells #[.int .i64 y.st, .int .i64 y.tt, .int .i64 y.of, .int .i64 y.nx, .slice y.ta y.tn y.tc, .slice y.ka y.kn y.kc] 45)).alloc (.cells #[.int .i64 t.nd, .int .i64 t.of] 80)).alloc (.cells #[.int .i64 0, .int .i64 0, .int .i64 0, .int .i64 0, .slice none 0 0, .slice none 0 0] 45) := ⟨_, rfl⟩
  have hB0 : Below w.heap.size w wc := by rw [hW]; exact (by repeat (first | assumption | exact Below.refl _ _ | apply Below.al | apply below_drewN | apply Below.drew | refine Below.next ?_ (by assumption)))
  have hWs : w.heap.size + 3 ≤ wc.heap.size := by rw [hW]; simp
  have b4 : BoxN wc w.heap.size 45 #[.int .i64 y.st, .int .i64 y.tt, .int .i64 y.of, .int .i64 y.nx, .slice y.ta y.tn y.tc, .slice y.ka y.kn y.kc] := by rw [hW]; exact (BoxN.new w _ _).below (by repeat (first | assumption | exact Below.refl _ _ | apply Below.al | apply below_drewN | apply Below.drew | refine Below.next ?_ (by assumption)))
  have b6 : BoxN wc (w.heap.size + 1) 80 #[.int .i64 t.nd, .int .i64 t.of] := by
    rw [hW]
    have := BoxN.new (w.alloc (.cells #[.int .i64 y.st, .int .i64 y.tt, .int .i64 y.of, .int .i64 y.nx, .slice y.ta y.tn y.tc, .slice y.ka y.kn y.kc] 45)) 80 #[.int .i64 t.nd, .int .i64 t.of]
    have e2 := this.below (Below.al (Below.refl _ _) (.cells #[.int .i64 0, .int .i64 0, .int .i64 0, .int .i64 0, .slice none 0 0, .slice none 0 0] 45))
    simpa using e2
  have b9 : BoxN wc (w.heap.size + 2) 45 #[.int .i64 0, .int .i64 0, .int .i64 0, .int .i64 0, .slice none 0 0, .slice none 0 0] := by
    rw [hW]
    have := BoxN.new ((w.alloc (.cells #[.int .i64 y.st, .int .i64 y.tt, .int .i64 y.of, .int .i64 y.nx, .slice y.ta y.tn y.tc, .slice y.ka y.kn y.kc] 45)).alloc (.cells #[.int .i64 t.nd, .int .i64 t.of] 80)) 45 #[.int .i64 0, .int .i64 0, .int .i64 0, .int .i64 0, .slice none 0 0, .slice none 0 0]
    simpa using this
  have HC := Lib.hid h
  have HAP := Lib.hid hap
  have H4 := Lib.hid b4
  have H6 := Lib.hid b6
  have H9 := Lib.hid b9
  have HB := Lib.hid hB0
  have HTN := Lib.hid htn
  have HKN := Lib.hid hkn
  have HST := Lib.hid hst
  have HCS := Lib.hid hcst
  have v0 : wc.cell? ⟨w.heap.size, 0, none⟩ = some (.int .i64 st) := by rw [← hst]; exact b4.cell 0
  have v4 : wc.cell? ⟨w.heap.size, 4, none⟩ = some (.slice y.ta y.tn y.tc) := b4.cell 4
  have v5 : wc.cell? ⟨w.heap.size, 5, none⟩ = some (.slice y.ka y.kn y.kc) := b4.cell 5
  have s0 : wc.cell? ⟨w.heap.size + 1, 0, none⟩ = some (.int .i64 t.nd) := b6.cell 0
  have s1 : wc.cell? ⟨w.heap.size + 1, 1, none⟩ = some (.int .i64 t.of) := b6.cell 1
  have hh1 := rhas_any y.tv c.tk t wc (hrt.tk.keep hB0)
  have HH2 := Lib.hid (fun w' (hb : Below wc.heap.size wc w') => rhas_any y.kv c.kp t w' ((hrt.kp.keep hB0).keep hb))
  clear b4 b6 b9 h hap htn hkn hst hcst hrt
  go_enter Try.func75, Try.ntmps75
  go_upto_region 1 with fail
  rw [← hW]
  clear hW
  by_cases h1 : t ∈ c.tk
  · rw [yb h1] at hh1
    have HH1 := Lib.hid hh1
    have HCE : Hid (ca = c) := Lib.hid (by rw [← HCA.out]; unfold ansC; rw [if_pos h1])
    have hke : kd = if t ∈ c.kp ∨ c.st = 1 ∨ c.st = 4 then 5 else 6 := by rw [← HKD.out]; unfold ansK; rw [if_pos h1]
    rw [HCS.out] at hke
    have HKE := Lib.hid hke
    clear hh1 h1 hke hB0
    go_wp2_with fail
    refine HH1.out.mono ?_
    rintro e w1 ⟨rfl, hb1⟩
    have v0 := cell_later hb1 v0
    have v5 := cell_later hb1 v5
    have s0 := cell_later hb1 s0
    have s1 := cell_later hb1 s1
    have HB1 := Lib.hid hb1
    go_wp2_with fail
    refine (HH2.out w1 hb1).mono ?_
    obtain ⟨r, hr⟩ : ∃ r, decide (t ∈ c.kp) = r := ⟨_, rfl⟩
    rw [hr]
    have HRR := Lib.hid hr
    clear hr
    rintro e w2 ⟨rfl, hb2⟩
    have hb12 := Below.next hb1 hb2
    replace H4 := Lib.hid (H4.out.below hb12)
    replace H9 := Lib.hid (H9.out.below hb12)
    replace HB := Lib.hid (Below.next HB.out hb12)
    have v0 := cell_later hb2 v0
    clear hb1 hb2 hb12 HB1 HH1 HH2 s0 s1 v5 v4
    obtain ⟨wc, rfl⟩ : ∃ V : World, V = w2 := ⟨_, rfl⟩
    obtain rfl : c = ca := HCE.out.symm
    cases r
    · have hk1 : t ∉ c.kp := fun e => by have := HRR.out; rw [yb e] at this; cases this
      by_cases c1 : st = 1
      · have d1 : (st == 1) = true := by simp [c1]
        obtain rfl : kd = 5 := by rw [HKE.out, if_pos (.inr (.inl c1))]
        clear hk1 c1
        have u0 := H4.out.cell 0
        have u1 := H4.out.cell 1
        have u2 := H4.out.cell 2
        have u3 := H4.out.cell 3
        have u4 := H4.out.cell 4
        have u5 := H4.out.cell 5
        have u0 : wc.cell? ⟨w.heap.size, 0, none⟩ = some (.int .i64 (y).st) := u0
        have u1 : wc.cell? ⟨w.heap.size, 1, none⟩ = some (.int .i64 (y).tt) := u1
        have u2 : wc.cell? ⟨w.heap.size, 2, none⟩ = some (.int .i64 (y).of) := u2
        have u3 : wc.cell? ⟨w.heap.size, 3, none⟩ = some (.int .i64 (y).nx) := u3
        have u4 : wc.cell? ⟨w.heap.size, 4, none⟩ = some (.slice (y).ta (y).tn (y).tc) := u4
        have u5 : wc.cell? ⟨w.heap.size, 5, none⟩ = some (.slice (y).ka (y).kn (y).kc) := u5
        go_upto_region 3 with fail
        refine wp_region_noPanic ?_
        refine wp_region_late (fun _ => True) (fun w' => Below wc.heap.size wc w') [2] (by kernel_rfl) trivial ((Below.refl _ wc).drew) (fun hHeld0 hHeld => ?_)
        refine regG_tk (v := ?_) 0 28 rfl rfl (by kernel_rfl) (by kernel_rfl) (by kernel_rfl) (by kernel_rfl) (by kernel_rfl) (fun _ _ _ h => h) (by rfl) ?_ (by assumption) (by assumption) ?_
        rotate_left
        · (intro w3 hS; (try dsimp only at hS); (have j0 := cell_later hS u0; have j1 := cell_later hS u1; have j2 := cell_later hS u2; have j3 := cell_later hS u3; have j4 := cell_later hS u4; have j5 := cell_later hS u5); go_simp; (try with_reducible rfl))
        simp only [List.setIfInBounds_toArray, List.set_cons_zero, List.set_cons_succ]
        refine reg0_tk (v := ?_) 1 8 rfl rfl (by kernel_rfl) (by kernel_rfl) (by kernel_rfl) (by kernel_rfl) (by kernel_rfl) (fun _ _ _ h => h) (by rfl) ?_ (by assumption) (by assumption) ?_
        rotate_left
        · (intro w3 hS; (try dsimp only at hS); skip; go_simp; (try with_reducible rfl))
        simp only [List.setIfInBounds_toArray, List.set_cons_zero, List.set_cons_succ]
        have H9d := H9.out
        have t0 : wc.cell? ⟨w.heap.size + 2, 0, none⟩ = some (.int .i64 0) := H9d.cell 0
        have t1 : wc.cell? ⟨w.heap.size + 2, 1, none⟩ = some (.int .i64 0) := H9d.cell 1
        have t2 : wc.cell? ⟨w.heap.size + 2, 2, none⟩ = some (.int .i64 0) := H9d.cell 2
        have t3 : wc.cell? ⟨w.heap.size + 2, 3, none⟩ = some (.int .i64 0) := H9d.cell 3
        have t4 : wc.cell? ⟨w.heap.size + 2, 4, none⟩ = some (.slice none 0 0) := H9d.cell 4
        have t5 : wc.cell? ⟨w.heap.size + 2, 5, none⟩ = some (.slice none 0 0) := H9d.cell 5
        have y0 := H9d.frozen 0
        have y1 := H9d.frozen 1
        have y2 := H9d.frozen 2
        have y3 := H9d.frozen 3
        have y4 := H9d.frozen 4
        have y5 := H9d.frozen 5
        refine wpAnyG_one (i := 2) (by kernel_rfl) rfl (by rfl) (by kernel_rfl) (fun K hK => ?_)
        go_simp
        refine hK _ _ trivial ?_
        clear hK K
        try simp only [Act.put, List.setIfInBounds_toArray, List.set_cons_zero, List.set_cons_succ]
        refine wpAnyG_done (by kernel_rfl) ?_ _
        refine NoPanic.normal ?_
        obtain ⟨wf, HWF⟩ : ∃ V : World, Hid (V = ((((((wc.setCell ⟨w.heap.size + 2, 0, none⟩ (.int .i64 (y).st)).setCell ⟨w.heap.size + 2, 1, none⟩ (.int .i64 (y).tt)).setCell ⟨w.heap.size + 2, 2, none⟩ (.int .i64 (y).of)).setCell ⟨w.heap.size + 2, 3, none⟩ (.int .i64 (y).nx)).setCell ⟨w.heap.size + 2, 4, none⟩ (.slice (y).ta (y).tn (y).tc)).setCell ⟨w.heap.size + 2, 5, none⟩ (.slice (y).ka (y).kn (y).kc)).drew) := ⟨_, Lib.hid rfl⟩
        have hkf : Kx (fun b => b = w.heap.size + 2) wc wf := by rw [HWF.out]; exact ((((((Kx.refl (fun b => b = w.heap.size + 2) wc).setCell (.inl rfl) _).setCell (.inl rfl) _).setCell (.inl rfl) _).setCell (.inl rfl) _).setCell (.inl rfl) _).setCell (.inl rfl) _ |>.drew
        have hb9 : BoxN wf (w.heap.size + 2) 45 #[.int .i64 (y).st, .int .i64 (y).tt, .int .i64 (y).of, .int .i64 (y).nx, .slice (y).ta (y).tn (y).tc, .slice (y).ka (y).kn (y).kc] := by
          rw [HWF.out]
          exact ((((((H9d.setc 0 _).setc 1 _).setc 2 _).setc 3 _).setc 4 _).setc 5 _).below (Below.refl _ _).drew
        have hBf : Below w.heap.size w wf := HB.out.trans (hkf.below HB.out.size (fun b e => by omega))
        have r0 : wf.cell? ⟨w.heap.size + 2, 0, none⟩ = some (.int .i64 (y).st) := hb9.cell 0
        have r1 : wf.cell? ⟨w.heap.size + 2, 1, none⟩ = some (.int .i64 (y).tt) := hb9.cell 1
        have r2 : wf.cell? ⟨w.heap.size + 2, 2, none⟩ = some (.int .i64 (y).of) := hb9.cell 2
        have r3 : wf.cell? ⟨w.heap.size + 2, 3, none⟩ = some (.int .i64 (y).nx) := hb9.cell 3
        have r4 : wf.cell? ⟨w.heap.size + 2, 4, none⟩ = some (.slice (y).ta (y).tn (y).tc) := hb9.cell 4
        have r5 : wf.cell? ⟨w.heap.size + 2, 5, none⟩ = some (.slice (y).ka (y).kn (y).kc) := hb9.cell 5
        have HKF := Lib.hid hkf
        have HBF := Lib.hid hBf
        rw [← HWF.out]
        clear HWF hkf hBf hb9 t0 t1 t2 t3 t4 t5 y0 y1 y2 y3 y4 y5 u0 u1 u2 u3 u4 u5 H9d
        go_wp2_with fail
        refine bodyPost_ret (v := .tuple #[.int .i64 5, .agg #[.int .i64 (y).st, .int .i64 (y).tt, .int .i64 (y).of, .int .i64 (y).nx, .slice (y).ta (y).tn (y).tc, .slice (y).ka (y).kn (y).kc]]) (by simp [results, Try.results75, go_sem, r0, r1, r2, r3, r4, r5]) rfl ⟨y, rfl, ?_⟩
        exact ⟨HC.out.below HBF.out, HBF.out, fun b e => .inl e, fun b e => .inl e, HAP.out⟩
      · have d1 : (st == 1) = false := by simp [c1]
        by_cases c2 : st = 4
        · have d2 : (st == 4) = true := by simp [c2]
          obtain rfl : kd = 5 := by rw [HKE.out, if_pos (.inr (.inr c2))]
          clear hk1 c1 c2
          have u0 := H4.out.cell 0
          have u1 := H4.out.cell 1
          have u2 := H4.out.cell 2
          have u3 := H4.out.cell 3
          have u4 := H4.out.cell 4
          have u5 := H4.out.cell 5
          have u0 : wc.cell? ⟨w.heap.size, 0, none⟩ = some (.int .i64 (y).st) := u0
          have u1 : wc.cell? ⟨w.heap.size, 1, none⟩ = some (.int .i64 (y).tt) := u1
          have u2 : wc.cell? ⟨w.heap.size, 2, none⟩ = some (.int .i64 (y).of) := u2
          have u3 : wc.cell? ⟨w.heap.size, 3, none⟩ = some (.int .i64 (y).nx) := u3
          have u4 : wc.cell? ⟨w.heap.size, 4, none⟩ = some (.slice (y).ta (y).tn (y).tc) := u4
          have u5 : wc.cell? ⟨w.heap.size, 5, none⟩ = some (.slice (y).ka (y).kn (y).kc) := u5
          go_upto_region 3 with fail
          refine wp_region_noPanic ?_
          refine wp_region_late (fun _ => True) (fun w' => Below wc.heap.size wc w') [2] (by kernel_rfl) trivial ((Below.refl _ wc).drew) (fun hHeld0 hHeld => ?_)
          refine regG_tk (v := ?_) 0 28 rfl rfl (by kernel_rfl) (by kernel_rfl) (by kernel_rfl) (by kernel_rfl) (by kernel_rfl) (fun _ _ _ h => h) (by rfl) ?_ (by assumption) (by assumption) ?_
          rotate_left
          · (intro w3 hS; (try dsimp only at hS); (have j0 := cell_later hS u0; have j1 := cell_later hS u1; have j2 := cell_later hS u2; have j3 := cell_later hS u3; have j4 := cell_later hS u4; have j5 := cell_later hS u5); go_simp; (try with_reducible rfl))
          simp only [List.setIfInBounds_toArray, List.set_cons_zero, List.set_cons_succ]
          refine reg0_tk (v := ?_) 1 8 rfl rfl (by kernel_rfl) (by kernel_rfl) (by kernel_rfl) (by kernel_rfl) (by kernel_rfl) (fun _ _ _ h => h) (by rfl) ?_ (by assumption) (by assumption) ?_
          rotate_left
          · (intro w3 hS; (try dsimp only at hS); skip; go_simp; (try with_reducible rfl))
          simp only [List.setIfInBounds_toArray, List.set_cons_zero, List.set_cons_succ]
          have H9d := H9.out
          have t0 : wc.cell? ⟨w.heap.size + 2, 0, none⟩ = some (.int .i64 0) := H9d.cell 0
          have t1 : wc.cell? ⟨w.heap.size + 2, 1, none⟩ = some (.int .i64 0) := H9d.cell 1
          have t2 : wc.cell? ⟨w.heap.size + 2, 2, none⟩ = some (.int .i64 0) := H9d.cell 2
          have t3 : wc.cell? ⟨w.heap.size + 2, 3, none⟩ = some (.int .i64 0) := H9d.cell 3
          have t4 : wc.cell? ⟨w.heap.size + 2, 4, none⟩ = some (.slice none 0 0) := H9d.cell 4
          have t5 : wc.cell? ⟨w.heap.size + 2, 5, none⟩ = some (.slice none 0 0) := H9d.cell 5
          have y0 := H9d.frozen 0
          have y1 := H9d.frozen 1
          have y2 := H9d.frozen 2
          have y3 := H9d.frozen 3
          have y4 := H9d.frozen 4
          have y5 := H9d.frozen 5
          refine wpAnyG_one (i := 2) (by kernel_rfl) rfl (by rfl) (by kernel_rfl) (fun K hK => ?_)
          go_simp
          refine hK _ _ trivial ?_
          clear hK K
          try simp only [Act.put, List.setIfInBounds_toArray, List.set_cons_zero, List.set_cons_succ]
          refine wpAnyG_done (by kernel_rfl) ?_ _
          refine NoPanic.normal ?_
          obtain ⟨wf, HWF⟩ : ∃ V : World, Hid (V = ((((((wc.setCell ⟨w.heap.size + 2, 0, none⟩ (.int .i64 (y).st)).setCell ⟨w.heap.size + 2, 1, none⟩ (.int .i64 (y).tt)).setCell ⟨w.heap.size + 2, 2, none⟩ (.int .i64 (y).of)).setCell ⟨w.heap.size + 2, 3, none⟩ (.int .i64 (y).nx)).setCell ⟨w.heap.size + 2, 4, none⟩ (.slice (y).ta (y).tn (y).tc)).setCell ⟨w.heap.size + 2, 5, none⟩ (.slice (y).ka (y).kn (y).kc)).drew) := ⟨_, Lib.hid rfl⟩
          have hkf : Kx (fun b => b = w.heap.size + 2) wc wf := by rw [HWF.out]; exact ((((((Kx.refl (fun b => b = w.heap.size + 2) wc).setCell (.inl rfl) _).setCell (.inl rfl) _).setCell (.inl rfl) _).setCell (.inl rfl) _).setCell (.inl rfl) _).setCell (.inl rfl) _ |>.drew
          have hb9 : BoxN wf (w.heap.size + 2) 45 #[.int .i64 (y).st, .int .i64 (y).tt, .int .i64 (y).of, .int .i64 (y).nx, .slice (y).ta (y).tn (y).tc, .slice (y).ka (y).kn (y).kc] := by
            rw [HWF.out]
            exact ((((((H9d.setc 0 _).setc 1 _).setc 2 _).setc 3 _).setc 4 _).setc 5 _).below (Below.refl _ _).drew
          have hBf : Below w.heap.size w wf := HB.out.trans (hkf.below HB.out.size (fun b e => by omega))
          have r0 : wf.cell? ⟨w.heap.size + 2, 0, none⟩ = some (.int .i64 (y).st) := hb9.cell 0
          have r1 : wf.cell? ⟨w.heap.size + 2, 1, none⟩ = some (.int .i64 (y).tt) := hb9.cell 1
          have r2 : wf.cell? ⟨w.heap.size + 2, 2, none⟩ = some (.int .i64 (y).of) := hb9.cell 2
          have r3 : wf.cell? ⟨w.heap.size + 2, 3, none⟩ = some (.int .i64 (y).nx) := hb9.cell 3
          have r4 : wf.cell? ⟨w.heap.size + 2, 4, none⟩ = some (.slice (y).ta (y).tn (y).tc) := hb9.cell 4
          have r5 : wf.cell? ⟨w.heap.size + 2, 5, none⟩ = some (.slice (y).ka (y).kn (y).kc) := hb9.cell 5
          have HKF := Lib.hid hkf
          have HBF := Lib.hid hBf
          rw [← HWF.out]
          clear HWF hkf hBf hb9 t0 t1 t2 t3 t4 t5 y0 y1 y2 y3 y4 y5 u0 u1 u2 u3 u4 u5 H9d
          go_wp2_with fail
          refine bodyPost_ret (v := .tuple #[.int .i64 5, .agg #[.int .i64 (y).st, .int .i64 (y).tt, .int .i64 (y).of, .int .i64 (y).nx, .slice (y).ta (y).tn (y).tc, .slice (y).ka (y).kn (y).kc]]) (by simp [results, Try.results75, go_sem, r0, r1, r2, r3, r4, r5]) rfl ⟨y, rfl, ?_⟩
          exact ⟨HC.out.below HBF.out, HBF.out, fun b e => .inl e, fun b e => .inl e, HAP.out⟩
        · have d2 : (st == 4) = false := by simp [c2]
          obtain rfl : kd = 6 := by rw [HKE.out, if_neg (fun e => by rcases e with e | e | e; exact hk1 e; exact c1 e; exact c2 e)]
          clear hk1 c1 c2
          have u0 := H4.out.cell 0
          have u1 := H4.out.cell 1
          have u2 := H4.out.cell 2
          have u3 := H4.out.cell 3
          have u4 := H4.out.cell 4
          have u5 := H4.out.cell 5
          have u0 : wc.cell? ⟨w.heap.size, 0, none⟩ = some (.int .i64 (y).st) := u0
          have u1 : wc.cell? ⟨w.heap.size, 1, none⟩ = some (.int .i64 (y).tt) := u1
          have u2 : wc.cell? ⟨w.heap.size, 2, none⟩ = some (.int .i64 (y).of) := u2
          have u3 : wc.cell? ⟨w.heap.size, 3, none⟩ = some (.int .i64 (y).nx) := u3
          have u4 : wc.cell? ⟨w.heap.size, 4, none⟩ = some (.slice (y).ta (y).tn (y).tc) := u4
          have u5 : wc.cell? ⟨w.heap.size, 5, none⟩ = some (.slice (y).ka (y).kn (y).kc) := u5
          go_upto_region 4 with fail
          refine wp_region_noPanic ?_
          refine wp_region_late (fun _ => True) (fun w' => Below wc.heap.size wc w') [2] (by kernel_rfl) trivial ((Below.refl _ wc).drew) (fun hHeld0 hHeld => ?_)
          refine regG_tk (v := ?_) 0 29 rfl rfl (by kernel_rfl) (by kernel_rfl) (by kernel_rfl) (by kernel_rfl) (by kernel_rfl) (fun _ _ _ h => h) (by rfl) ?_ (by assumption) (by assumption) ?_
          rotate_left
          · (intro w3 hS; (try dsimp only at hS); (have j0 := cell_later hS u0; have j1 := cell_later hS u1; have j2 := cell_later hS u2; have j3 := cell_later hS u3; have j4 := cell_later hS u4; have j5 := cell_later hS u5); go_simp; (try with_reducible rfl))
          simp only [List.setIfInBounds_toArray, List.set_cons_zero, List.set_cons_succ]
          refine reg0_tk (v := ?_) 1 8 rfl rfl (by kernel_rfl) (by kernel_rfl) (by kernel_rfl) (by kernel_rfl) (by kernel_rfl) (fun _ _ _ h => h) (by rfl) ?_ (by assumption) (by assumption) ?_
          rotate_left
          · (intro w3 hS; (try dsimp only at hS); skip; go_simp; (try with_reducible rfl))
          simp only [List.setIfInBounds_toArray, List.set_cons_zero, List.set_cons_succ]
          have H9d := H9.out
          have t0 : wc.cell? ⟨w.heap.size + 2, 0, none⟩ = some (.int .i64 0) := H9d.cell 0
          have t1 : wc.cell? ⟨w.heap.size + 2, 1, none⟩ = some (.int .i64 0) := H9d.cell 1
          have t2 : wc.cell? ⟨w.heap.size + 2, 2, none⟩ = some (.int .i64 0) := H9d.cell 2
          have t3 : wc.cell? ⟨w.heap.size + 2, 3, none⟩ = some (.int .i64 0) := H9d.cell 3
          have t4 : wc.cell? ⟨w.heap.size + 2, 4, none⟩ = some (.slice none 0 0) := H9d.cell 4
          have t5 : wc.cell? ⟨w.heap.size + 2, 5, none⟩ = some (.slice none 0 0) := H9d.cell 5
          have y0 := H9d.frozen 0
          have y1 := H9d.frozen 1
          have y2 := H9d.frozen 2
          have y3 := H9d.frozen 3
          have y4 := H9d.frozen 4
          have y5 := H9d.frozen 5
          refine wpAnyG_one (i := 2) (by kernel_rfl) rfl (by rfl) (by kernel_rfl) (fun K hK => ?_)
          go_simp
          refine hK _ _ trivial ?_
          clear hK K
          try simp only [Act.put, List.setIfInBounds_toArray, List.set_cons_zero, List.set_cons_succ]
          refine wpAnyG_done (by kernel_rfl) ?_ _
          refine NoPanic.normal ?_
          obtain ⟨wf, HWF⟩ : ∃ V : World, Hid (V = ((((((wc.setCell ⟨w.heap.size + 2, 0, none⟩ (.int .i64 (y).st)).setCell ⟨w.heap.size + 2, 1, none⟩ (.int .i64 (y).tt)).setCell ⟨w.heap.size + 2, 2, none⟩ (.int .i64 (y).of)).setCell ⟨w.heap.size + 2, 3, none⟩ (.int .i64 (y).nx)).setCell ⟨w.heap.size + 2, 4, none⟩ (.slice (y).ta (y).tn (y).tc)).setCell ⟨w.heap.size + 2, 5, none⟩ (.slice (y).ka (y).kn (y).kc)).drew) := ⟨_, Lib.hid rfl⟩
          have hkf : Kx (fun b => b = w.heap.size + 2) wc wf := by rw [HWF.out]; exact ((((((Kx.refl (fun b => b = w.heap.size + 2) wc).setCell (.inl rfl) _).setCell (.inl rfl) _).setCell (.inl rfl) _).setCell (.inl rfl) _).setCell (.inl rfl) _).setCell (.inl rfl) _ |>.drew
          have hb9 : BoxN wf (w.heap.size + 2) 45 #[.int .i64 (y).st, .int .i64 (y).tt, .int .i64 (y).of, .int .i64 (y).nx, .slice (y).ta (y).tn (y).tc, .slice (y).ka (y).kn (y).kc] := by
            rw [HWF.out]
            exact ((((((H9d.setc 0 _).setc 1 _).setc 2 _).setc 3 _).setc 4 _).setc 5 _).below (Below.refl _ _).drew
          have hBf : Below w.heap.size w wf := HB.out.trans (hkf.below HB.out.size (fun b e => by omega))
          have r0 : wf.cell? ⟨w.heap.size + 2, 0, none⟩ = some (.int .i64 (y).st) := hb9.cell 0
          have r1 : wf.cell? ⟨w.heap.size + 2, 1, none⟩ = some (.int .i64 (y).tt) := hb9.cell 1
          have r2 : wf.cell? ⟨w.heap.size + 2, 2, none⟩ = some (.int .i64 (y).of) := hb9.cell 2
          have r3 : wf.cell? ⟨w.heap.size + 2, 3, none⟩ = some (.int .i64 (y).nx) := hb9.cell 3
          have r4 : wf.cell? ⟨w.heap.size + 2, 4, none⟩ = some (.slice (y).ta (y).tn (y).tc) := hb9.cell 4
          have r5 : wf.cell? ⟨w.heap.size + 2, 5, none⟩ = some (.slice (y).ka (y).kn (y).kc) := hb9.cell 5
          have HKF := Lib.hid hkf
          have HBF := Lib.hid hBf
          rw [← HWF.out]
          clear HWF hkf hBf hb9 t0 t1 t2 t3 t4 t5 y0 y1 y2 y3 y4 y5 u0 u1 u2 u3 u4 u5 H9d
          go_wp2_with fail
          refine bodyPost_ret (v := .tuple #[.int .i64 6, .agg #[.int .i64 (y).st, .int .i64 (y).tt, .int .i64 (y).of, .int .i64 (y).nx, .slice (y).ta (y).tn (y).tc, .slice (y).ka (y).kn (y).kc]]) (by simp [results, Try.results75, go_sem, r0, r1, r2, r3, r4, r5]) rfl ⟨y, rfl, ?_⟩
          exact ⟨HC.out.below HBF.out, HBF.out, fun b e => .inl e, fun b e => .inl e, HAP.out⟩
    · obtain rfl : kd = 5 := by rw [HKE.out, if_pos (.inl (of_decide_eq_true HRR.out))]
      skip
      have u0 := H4.out.cell 0
      have u1 := H4.out.cell 1
      have u2 := H4.out.cell 2
      have u3 := H4.out.cell 3
      have u4 := H4.out.cell 4
      have u5 := H4.out.cell 5
      have u0 : wc.cell? ⟨w.heap.size, 0, none⟩ = some (.int .i64 (y).st) := u0
      have u1 : wc.cell? ⟨w.heap.size, 1, none⟩ = some (.int .i64 (y).tt) := u1
      have u2 : wc.cell? ⟨w.heap.size, 2, none⟩ = some (.int .i64 (y).of) := u2
      have u3 : wc.cell? ⟨w.heap.size, 3, none⟩ = some (.int .i64 (y).nx) := u3
      have u4 : wc.cell? ⟨w.heap.size, 4, none⟩ = some (.slice (y).ta (y).tn (y).tc) := u4
      have u5 : wc.cell? ⟨w.heap.size, 5, none⟩ = some (.slice (y).ka (y).kn (y).kc) := u5
      go_upto_region 3 with fail
      refine wp_region_noPanic ?_
      refine wp_region_late (fun _ => True) (fun w' => Below wc.heap.size wc w') [2] (by kernel_rfl) trivial ((Below.refl _ wc).drew) (fun hHeld0 hHeld => ?_)
      refine regG_tk (v := ?_) 0 28 rfl rfl (by kernel_rfl) (by kernel_rfl) (by kernel_rfl) (by kernel_rfl) (by kernel_rfl) (fun _ _ _ h => h) (by rfl) ?_ (by assumption) (by assumption) ?_
      rotate_left
      · (intro w3 hS; (try dsimp only at hS); (have j0 := cell_later hS u0; have j1 := cell_later hS u1; have j2 := cell_later hS u2; have j3 := cell_later hS u3; have j4 := cell_later hS u4; have j5 := cell_later hS u5); go_simp; (try with_reducible rfl))
      simp only [List.setIfInBounds_toArray, List.set_cons_zero, List.set_cons_succ]
      refine reg0_tk (v := ?_) 1 8 rfl rfl (by kernel_rfl) (by kernel_rfl) (by kernel_rfl) (by kernel_rfl) (by kernel_rfl) (fun _ _ _ h => h) (by rfl) ?_ (by assumption) (by assumption) ?_
      rotate_left
      · (intro w3 hS; (try dsimp only at hS); skip; go_simp; (try with_reducible rfl))
      simp only [List.setIfInBounds_toArray, List.set_cons_zero, List.set_cons_succ]
      have H9d := H9.out
      have t0 : wc.cell? ⟨w.heap.size + 2, 0, none⟩ = some (.int .i64 0) := H9d.cell 0
      have t1 : wc.cell? ⟨w.heap.size + 2, 1, none⟩ = some (.int .i64 0) := H9d.cell 1
      have t2 : wc.cell? ⟨w.heap.size + 2, 2, none⟩ = some (.int .i64 0) := H9d.cell 2
      have t3 : wc.cell? ⟨w.heap.size + 2, 3, none⟩ = some (.int .i64 0) := H9d.cell 3
      have t4 : wc.cell? ⟨w.heap.size + 2, 4, none⟩ = some (.slice none 0 0) := H9d.cell 4
      have t5 : wc.cell? ⟨w.heap.size + 2, 5, none⟩ = some (.slice none 0 0) := H9d.cell 5
      have y0 := H9d.frozen 0
      have y1 := H9d.frozen 1
      have y2 := H9d.frozen 2
      have y3 := H9d.frozen 3
      have y4 := H9d.frozen 4
      have y5 := H9d.frozen 5
      refine wpAnyG_one (i := 2) (by kernel_rfl) rfl (by rfl) (by kernel_rfl) (fun K hK => ?_)
      go_simp
      refine hK _ _ trivial ?_
      clear hK K
      try simp only [Act.put, List.setIfInBounds_toArray, List.set_cons_zero, List.set_cons_succ]
      refine wpAnyG_done (by kernel_rfl) ?_ _
      refine NoPanic.normal ?_
      obtain ⟨wf, HWF⟩ : ∃ V : World, Hid (V = ((((((wc.setCell ⟨w.heap.size + 2, 0, none⟩ (.int .i64 (y).st)).setCell ⟨w.heap.size + 2, 1, none⟩ (.int .i64 (y).tt)).setCell ⟨w.heap.size + 2, 2, none⟩ (.int .i64 (y).of)).setCell ⟨w.heap.size + 2, 3, none⟩ (.int .i64 (y).nx)).setCell ⟨w.heap.size + 2, 4, none⟩ (.slice (y).ta (y).tn (y).tc)).setCell ⟨w.heap.size + 2, 5, none⟩ (.slice (y).ka (y).kn (y).kc)).drew) := ⟨_, Lib.hid rfl⟩
      have hkf : Kx (fun b => b = w.heap.size + 2) wc wf := by rw [HWF.out]; exact ((((((Kx.refl (fun b => b = w.heap.size + 2) wc).setCell (.inl rfl) _).setCell (.inl rfl) _).setCell (.inl rfl) _).setCell (.inl rfl) _).setCell (.inl rfl) _).setCell (.inl rfl) _ |>.drew
      have hb9 : BoxN wf (w.heap.size + 2) 45 #[.int .i64 (y).st, .int .i64 (y).tt, .int .i64 (y).of, .int .i64 (y).nx, .slice (y).ta (y).tn (y).tc, .slice (y).ka (y).kn (y).kc] := by
        rw [HWF.out]
        exact ((((((H9d.setc 0 _).setc 1 _).setc 2 _).setc 3 _).setc 4 _).setc 5 _).below (Below.refl _ _).drew
      have hBf : Below w.heap.size w wf := HB.out.trans (hkf.below HB.out.size (fun b e => by omega))
      have r0 : wf.cell? ⟨w.heap.size + 2, 0, none⟩ = some (.int .i64 (y).st) := hb9.cell 0
      have r1 : wf.cell? ⟨w.heap.size + 2, 1, none⟩ = some (.int .i64 (y).tt) := hb9.cell 1
      have r2 : wf.cell? ⟨w.heap.size + 2, 2, none⟩ = some (.int .i64 (y).of) := hb9.cell 2
      have r3 : wf.cell? ⟨w.heap.size + 2, 3, none⟩ = some (.int .i64 (y).nx) := hb9.cell 3
      have r4 : wf.cell? ⟨w.heap.size + 2, 4, none⟩ = some (.slice (y).ta (y).tn (y).tc) := hb9.cell 4
      have r5 : wf.cell? ⟨w.heap.size + 2, 5, none⟩ = some (.slice (y).ka (y).kn (y).kc) := hb9.cell 5
      have HKF := Lib.hid hkf
      have HBF := Lib.hid hBf
      rw [← HWF.out]
      clear HWF hkf hBf hb9 t0 t1 t2 t3 t4 t5 y0 y1 y2 y3 y4 y5 u0 u1 u2 u3 u4 u5 H9d
      go_wp2_with fail
      refine bodyPost_ret (v := .tuple #[.int .i64 5, .agg #[.int .i64 (y).st, .int .i64 (y).tt, .int .i64 (y).of, .int .i64 (y).nx, .slice (y).ta (y).tn (y).tc, .slice (y).ka (y).kn (y).kc]]) (by simp [results, Try.results75, go_sem, r0, r1, r2, r3, r4, r5]) rfl ⟨y, rfl, ?_⟩
      exact ⟨HC.out.below HBF.out, HBF.out, fun b e => .inl e, fun b e => .inl e, HAP.out⟩
  · rw [nb h1] at hh1
    have HH1 := Lib.hid hh1
    have hkp : t ∉ c.kp := fun e => h1 (hsub _ e)
    have HIT := Lib.hid (fun w' (hb : Below w.heap.size w w') => rinsert_any y.tv c.tk t ha h1 (by omega) w' (HC.out.rd.tk.keep hb))
    have HIK := Lib.hid (fun w' (hb : Below w.heap.size w w') => rinsert_any y.kv c.kp t hk hkp (by omega) w' (HC.out.rd.kp.keep hb))
    have HTI : Hid (t ∉ c.tk) := Lib.hid h1
    clear hh1 h1 hkp hB0 HH2
    go_wp2_with fail
    refine HH1.out.mono ?_
    rintro e w1 ⟨rfl, hb1⟩
    have v4 := cell_later hb1 v4
    have s0 := cell_later hb1 s0
    have s1 := cell_later hb1 s1
    replace HB := Lib.hid (Below.next HB.out hb1)
    replace H4 := Lib.hid (H4.out.below hb1)
    replace H6 := Lib.hid (H6.out.below hb1)
    replace H9 := Lib.hid (H9.out.below hb1)
    clear hb1 HH1 v5 v0
    obtain ⟨l1, HL1⟩ : ∃ l, Hid (insG c.tk t = l) := ⟨_, Lib.hid rfl⟩
    have hit := HIT.out w1 HB.out
    have hw13 := HB.out.size
    go_wp2_with fail
    refine hit.mono ?_
    rintro e w2 ⟨ta, tc, rfl, ho2, hb2⟩
    rw [HL1.out] at ho2 ⊢
    have b4 := H4.out.below hb2
    have v4 := cell_later hb2 v4
    have f4 := b4.frozen 4
    have b44 := b4.setc 4 (.slice ta l1.length tc)
    have hk4 : Kx (fun b => b = w.heap.size) w2 (w2.setCell ⟨w.heap.size, 4, none⟩ (.slice ta l1.length tc)) := kx_cell _ _ _ _
    have h6 := hk4.box (by omega) (H6.out.below hb2)
    have h9 := hk4.box (by omega) (H9.out.below hb2)
    have ho3 := hk4.owns (fun b e e2 => row_ne ho2 b4 (by decide) b e e2.symm) ho2
    have hB3 := (Below.next HB.out hb2).trans (hk4.below (n := w.heap.size) (by have := hb2.size; omega) (fun b e => by omega))
    obtain ⟨wc, HWC⟩ : ∃ V : World, Hid (V = w2.setCell ⟨w.heap.size, 4, none⟩ (.slice ta l1.length tc)) := ⟨_, Lib.hid rfl⟩
    rw [← HWC.out] at b44 h6 h9 ho3 hB3
    have hsz3 : w.heap.size ≤ w1.heap.size := hw13
    have HOT := Lib.hid (own_mono ho3 hsz3)
    replace H4 := Lib.hid b44
    replace H6 := Lib.hid h6
    replace H9 := Lib.hid h9
    replace HB := Lib.hid hB3
    clear b4 b44 hk4 h6 h9 ho2 ho3 hB3 hb2 hit s0 s1 hsz3 hw13
    go_upto_region 6 with fail
    rw [← HWC.out]
    clear HWC v4 f4
    have v0 : wc.cell? ⟨w.heap.size, 0, none⟩ = some (.int .i64 st) := by rw [← HST.out]; exact H4.out.cell 0
    have v5 : wc.cell? ⟨w.heap.size, 5, none⟩ = some (.slice y.ka y.kn y.kc) := H4.out.cell 5
    have s0 : wc.cell? ⟨w.heap.size + 1, 0, none⟩ = some (.int .i64 t.nd) := H6.out.cell 0
    have s1 : wc.cell? ⟨w.heap.size + 1, 1, none⟩ = some (.int .i64 t.of) := H6.out.cell 1
    by_cases cA : st = 2 ∧ rash = false
    · obtain ⟨cs, cr⟩ := cA
      have d1 : (st == 2) = true := by simp [cs]
      subst cr
      obtain rfl : kd = 6 := by rw [← HKD.out]; unfold ansK; rw [if_neg HTI.out, if_pos ⟨HCS.out.trans cs, rfl⟩]
      have HCE : Hid (ca = { c with tk := l1 }) := Lib.hid (by rw [← HCA.out, ← HL1.out]; unfold ansC; rw [if_neg HTI.out, if_pos ⟨HCS.out.trans cs, rfl⟩])
      obtain ⟨y', HY⟩ : ∃ z : Cq, Hid (z = { y with ta := ta, tn := l1.length, tc := tc }) := ⟨_, Lib.hid rfl⟩
      replace H4 : Hid (BoxN wc w.heap.size 45 #[.int .i64 y'.st, .int .i64 y'.tt, .int .i64 y'.of, .int .i64 y'.nx, .slice y'.ta y'.tn y'.tc, .slice y'.ka y'.kn y'.kc]) := Lib.hid (by rw [HY.out]; exact H4.out)
      clear cs v5 s0 s1
      have u0 := H4.out.cell 0
      have u1 := H4.out.cell 1
      have u2 := H4.out.cell 2
      have u3 := H4.out.cell 3
      have u4 := H4.out.cell 4
      have u5 := H4.out.cell 5
      have u0 : wc.cell? ⟨w.heap.size, 0, none⟩ = some (.int .i64 (y').st) := u0
      have u1 : wc.cell? ⟨w.heap.size, 1, none⟩ = some (.int .i64 (y').tt) := u1
      have u2 : wc.cell? ⟨w.heap.size, 2, none⟩ = some (.int .i64 (y').of) := u2
      have u3 : wc.cell? ⟨w.heap.size, 3, none⟩ = some (.int .i64 (y').nx) := u3
      have u4 : wc.cell? ⟨w.heap.size, 4, none⟩ = some (.slice (y').ta (y').tn (y').tc) := u4
      have u5 : wc.cell? ⟨w.heap.size, 5, none⟩ = some (.slice (y').ka (y').kn (y').kc) := u5
      go_upto_region 7 with fail
      refine wp_region_noPanic ?_
      refine wp_region_late (fun _ => True) (fun w' => Below wc.heap.size wc w') [2] (by kernel_rfl) trivial ((Below.refl _ wc).drew) (fun hHeld0 hHeld => ?_)
      refine regG_tk (v := ?_) 0 42 rfl rfl (by kernel_rfl) (by kernel_rfl) (by kernel_rfl) (by kernel_rfl) (by kernel_rfl) (fun _ _ _ h => h) (by rfl) ?_ (by assumption) (by assumption) ?_
      rotate_left
      · (intro w3 hS; (try dsimp only at hS); (have j0 := cell_later hS u0; have j1 := cell_later hS u1; have j2 := cell_later hS u2; have j3 := cell_later hS u3; have j4 := cell_later hS u4; have j5 := cell_later hS u5); go_simp; (try with_reducible rfl))
      simp only [List.setIfInBounds_toArray, List.set_cons_zero, List.set_cons_succ]
      refine reg0_tk (v := ?_) 1 8 rfl rfl (by kernel_rfl) (by kernel_rfl) (by kernel_rfl) (by kernel_rfl) (by kernel_rfl) (fun _ _ _ h => h) (by rfl) ?_ (by assumption) (by assumption) ?_
      rotate_left
      · (intro w3 hS; (try dsimp only at hS); skip; go_simp; (try with_reducible rfl))
      simp only [List.setIfInBounds_toArray, List.set_cons_zero, List.set_cons_succ]
      have H9d := H9.out
      have t0 : wc.cell? ⟨w.heap.size + 2, 0, none⟩ = some (.int .i64 0) := H9d.cell 0
      have t1 : wc.cell? ⟨w.heap.size + 2, 1, none⟩ = some (.int .i64 0) := H9d.cell 1
      have t2 : wc.cell? ⟨w.heap.size + 2, 2, none⟩ = some (.int .i64 0) := H9d.cell 2
      have t3 : wc.cell? ⟨w.heap.size + 2, 3, none⟩ = some (.int .i64 0) := H9d.cell 3
      have t4 : wc.cell? ⟨w.heap.size + 2, 4, none⟩ = some (.slice none 0 0) := H9d.cell 4
      have t5 : wc.cell? ⟨w.heap.size + 2, 5, none⟩ = some (.slice none 0 0) := H9d.cell 5
      have y0 := H9d.frozen 0
      have y1 := H9d.frozen 1
      have y2 := H9d.frozen 2
      have y3 := H9d.frozen 3
      have y4 := H9d.frozen 4
      have y5 := H9d.frozen 5
      refine wpAnyG_one (i := 2) (by kernel_rfl) rfl (by rfl) (by kernel_rfl) (fun K hK => ?_)
      go_simp
      refine hK _ _ trivial ?_
      clear hK K
      try simp only [Act.put, List.setIfInBounds_toArray, List.set_cons_zero, List.set_cons_succ]
      refine wpAnyG_done (by kernel_rfl) ?_ _
      refine NoPanic.normal ?_
      obtain ⟨wf, HWF⟩ : ∃ V : World, Hid (V = ((((((wc.setCell ⟨w.heap.size + 2, 0, none⟩ (.int .i64 (y').st)).setCell ⟨w.heap.size + 2, 1, none⟩ (.int .i64 (y').tt)).setCell ⟨w.heap.size + 2, 2, none⟩ (.int .i64 (y').of)).setCell ⟨w.heap.size + 2, 3, none⟩ (.int .i64 (y').nx)).setCell ⟨w.heap.size + 2, 4, none⟩ (.slice (y').ta (y').tn (y').tc)).setCell ⟨w.heap.size + 2, 5, none⟩ (.slice (y').ka (y').kn (y').kc)).drew) := ⟨_, Lib.hid rfl⟩
      have hkf : Kx (fun b => b = w.heap.size + 2) wc wf := by rw [HWF.out]; exact ((((((Kx.refl (fun b => b = w.heap.size + 2) wc).setCell (.inl rfl) _).setCell (.inl rfl) _).setCell (.inl rfl) _).setCell (.inl rfl) _).setCell (.inl rfl) _).setCell (.inl rfl) _ |>.drew
      have hb9 : BoxN wf (w.heap.size + 2) 45 #[.int .i64 (y').st, .int .i64 (y').tt, .int .i64 (y').of, .int .i64 (y').nx, .slice (y').ta (y').tn (y').tc, .slice (y').ka (y').kn (y').kc] := by
        rw [HWF.out]
        exact ((((((H9d.setc 0 _).setc 1 _).setc 2 _).setc 3 _).setc 4 _).setc 5 _).below (Below.refl _ _).drew
      have hBf : Below w.heap.size w wf := HB.out.trans (hkf.below HB.out.size (fun b e => by omega))
      have r0 : wf.cell? ⟨w.heap.size + 2, 0, none⟩ = some (.int .i64 (y').st) := hb9.cell 0
      have r1 : wf.cell? ⟨w.heap.size + 2, 1, none⟩ = some (.int .i64 (y').tt) := hb9.cell 1
      have r2 : wf.cell? ⟨w.heap.size + 2, 2, none⟩ = some (.int .i64 (y').of) := hb9.cell 2
      have r3 : wf.cell? ⟨w.heap.size + 2, 3, none⟩ = some (.int .i64 (y').nx) := hb9.cell 3
      have r4 : wf.cell? ⟨w.heap.size + 2, 4, none⟩ = some (.slice (y').ta (y').tn (y').tc) := hb9.cell 4
      have r5 : wf.cell? ⟨w.heap.size + 2, 5, none⟩ = some (.slice (y').ka (y').kn (y').kc) := hb9.cell 5
      have HKF := Lib.hid hkf
      have HBF := Lib.hid hBf
      rw [← HWF.out]
      clear HWF hkf hBf hb9 t0 t1 t2 t3 t4 t5 y0 y1 y2 y3 y4 y5 u0 u1 u2 u3 u4 u5 H9d
      go_wp2_with fail
      refine bodyPost_ret (v := .tuple #[.int .i64 6, .agg #[.int .i64 (y').st, .int .i64 (y').tt, .int .i64 (y').of, .int .i64 (y').nx, .slice (y').ta (y').tn (y').tc, .slice (y').ka (y').kn (y').kc]]) (by simp [results, Try.results75, go_sem, r0, r1, r2, r3, r4, r5]) rfl ⟨y', rfl, ?_⟩
      have hot := HKF.out.owns (fun b e e2 => row_ne HOT.out H9.out (by decide) b e e2.symm) HOT.out
      refine ⟨?_, HBF.out, fun b e => .inr ?_, fun b e => .inl (by rw [HY.out] at e; exact e), fun b e1 e2 => ?_⟩
      · rw [HY.out, HCE.out]
        exact ⟨HC.out.st, HC.out.tt, HC.out.of, HC.out.nx, own_mono hot hB, Own.keep HC.out.kp HBF.out⟩
      · rw [HY.out] at e
        exact (hot.lt b e).1
      · rw [HY.out] at e1 e2
        have h1 := (hot.lt b e1).1
        have h2 := (HC.out.kp.lt b e2).2
        omega
    · have hk5 : kd = 5 := by rw [← HKD.out]; unfold ansK; rw [if_neg HTI.out, if_neg (fun e => cA ⟨HCS.out ▸ e.1, e.2⟩)]
      obtain rfl : kd = 5 := hk5
      have hce : ca = { c with tk := insG c.tk t, kp := insG c.kp t, st := if d = true then 4 else if c.st = 0 ∨ c.st = 3 then 1 else c.st } := by rw [← HCA.out]; unfold ansC; rw [if_neg HTI.out, if_neg (fun e => cA ⟨HCS.out ▸ e.1, e.2⟩)]
      obtain ⟨l2, HL2⟩ : ∃ l, Hid (insG c.kp t = l) := ⟨_, Lib.hid rfl⟩
      rw [HL1.out, HL2.out, HCS.out] at hce
      have HCE := Lib.hid hce
      have hik := HIK.out wc HB.out
      rw [show InR wc c.kp t = fun e w' => ∃ (a : Option Addr) (c' : Nat), e = .returned (.slice a l2.length c') ∧ OwG w' wc.heap.size (.slice a l2.length c') l2 ∧ Below wc.heap.size wc w' by unfold InR; rw [HL2.out]] at hik
      have HIK2 := Lib.hid hik
      have hzc := HB.out.size
      clear hce hik HIK HIT
      -- up to the second insert
      have key : (st == 2 && !rash) = false := by
        cases rash
        · have : ¬ st = 2 := fun e => cA ⟨e, rfl⟩
          simp [this]
        · simp
      by_cases cs : st = 2
      · have d1 : (st == 2) = true := by simp [cs]
        obtain rfl : rash = true := by
          cases rash
          · exact absurd ⟨cs, rfl⟩ cA
          · rfl
        clear cA key cs
        go_wp2_with fail
        refine HIK2.out.mono ?_
        rintro e w3 ⟨ka, kc, rfl, ho3, hb3⟩
        have b4 := H4.out.below hb3
        have v5 := cell_later hb3 v5
        have f5 := b4.frozen 5
        have b45 := b4.setc 5 (.slice ka l2.length kc)
        have hk5 : Kx (fun b => b = w.heap.size) w3 (w3.setCell ⟨w.heap.size, 5, none⟩ (.slice ka l2.length kc)) := kx_cell _ _ _ _
        have h9 := hk5.box (by omega) (H9.out.below hb3)
        have ho5 := hk5.owns (fun b e e2 => row_ne ho3 b4 (by decide) b e e2.symm) ho3
        have hot3 := Own.keep HOT.out hb3
        have hot5 := hk5.owns (fun b e e2 => row_ne hot3 b4 (by decide) b e e2.symm) hot3
        have HTL : Hid (∀ b, (Value.slice ta l1.length tc).ownBlock = some b → b < wc.heap.size) := Lib.hid (fun b e => (HOT.out.lt b e).2)
        have hB5 := (Below.next HB.out hb3).trans (hk5.below (n := w.heap.size) (by have := hb3.size; omega) (fun b e => by omega))
        obtain ⟨wd, HWD⟩ : ∃ V : World, Hid (V = w3.setCell ⟨w.heap.size, 5, none⟩ (.slice ka l2.length kc)) := ⟨_, Lib.hid rfl⟩
        rw [← HWD.out] at b45 h9 ho5 hot5 hB5
        obtain ⟨sz, hsz⟩ : ∃ s, wc.heap.size = s := ⟨_, rfl⟩
        rw [hsz] at ho5 HTL hzc
        have HOK := Lib.hid ho5
        replace HOT := Lib.hid hot5
        replace H4 := Lib.hid b45
        replace H9 := Lib.hid h9
        replace HB := Lib.hid hB5
        clear b4 b45 hk5 h9 ho3 ho5 hot3 hot5 hB5 hb3 HIK2 s0 s1 v0 hsz
        go_upto_region 9 with fail
        rw [← HWD.out]
        clear HWD v5 f5
        obtain ⟨wc, rfl⟩ : ∃ V : World, V = wd := ⟨_, rfl⟩
        have v0 : wc.cell? ⟨w.heap.size, 0, none⟩ = some (.int .i64 st) := by rw [← HST.out]; exact H4.out.cell 0
        have f0 := H4.out.frozen 0
        cases d
        · -- not the destination
          by_cases c1 : st = 0 ∨ st = 3
          · have HSTE0 : Hid ((if false = true then (4 : Int) else if st = 0 ∨ st = 3 then 1 else st) = 1) := Lib.hid (by rw [if_neg (by decide), if_pos c1])
            rw [HSTE0.out] at HCE
            by_cases c2 : st = 0
            · have d2 : (st == 0) = true := by simp [c2]
              clear c1 c2
              have b40 := H4.out.setc 0 (.int .i64 1)
              have hk0 : Kx (fun b => b = w.heap.size) wc (wc.setCell ⟨w.heap.size, 0, none⟩ (.int .i64 1)) := kx_cell _ _ _ _
              have h9 := hk0.box (by omega) H9.out
              have ho0 := hk0.owns (fun b e e2 => row_ne HOK.out H4.out (by decide) b e e2.symm) HOK.out
              have ht0 := hk0.owns (fun b e e2 => row_ne HOT.out H4.out (by decide) b e e2.symm) HOT.out
              have hB9 := HB.out.trans (hk0.below (n := w.heap.size) HB.out.size (fun b e => by omega))
              obtain ⟨we, HWE⟩ : ∃ V : World, Hid (V = wc.setCell ⟨w.heap.size, 0, none⟩ (.int .i64 1)) := ⟨_, Lib.hid rfl⟩
              rw [← HWE.out] at b40 h9 ho0 ht0 hB9
              replace HOK := Lib.hid ho0
              replace HOT := Lib.hid ht0
              replace H4 := Lib.hid b40
              replace H9 := Lib.hid h9
              replace HB := Lib.hid hB9
              clear b40 hk0 h9 ho0 ht0 hB9
              go_upto_region 13 with fail
              rw [← HWE.out]
              clear HWE v0 f0
              obtain ⟨wc, rfl⟩ : ∃ V : World, V = we := ⟨_, rfl⟩
              obtain ⟨y', HY⟩ : ∃ z : Cq, Hid (z = { y with st := 1, ta := ta, tn := l1.length, tc := tc, ka := ka, kn := l2.length, kc := kc }) := ⟨_, Lib.hid rfl⟩
              replace H4 : Hid (BoxN wc w.heap.size 45 #[.int .i64 y'.st, .int .i64 y'.tt, .int .i64 y'.of, .int .i64 y'.nx, .slice y'.ta y'.tn y'.tc, .slice y'.ka y'.kn y'.kc]) := Lib.hid (by rw [HY.out]; exact H4.out)
              have HSTE : Hid ((1 : Int) = 1) := Lib.hid rfl
              have u0 := H4.out.cell 0
              have u1 := H4.out.cell 1
              have u2 := H4.out.cell 2
              have u3 := H4.out.cell 3
              have u4 := H4.out.cell 4
              have u5 := H4.out.cell 5
              have u0 : wc.cell? ⟨w.heap.size, 0, none⟩ = some (.int .i64 (y').st) := u0
              have u1 : wc.cell? ⟨w.heap.size, 1, none⟩ = some (.int .i64 (y').tt) := u1
              have u2 : wc.cell? ⟨w.heap.size, 2, none⟩ = some (.int .i64 (y').of) := u2
              have u3 : wc.cell? ⟨w.heap.size, 3, none⟩ = some (.int .i64 (y').nx) := u3
              have u4 : wc.cell? ⟨w.heap.size, 4, none⟩ = some (.slice (y').ta (y').tn (y').tc) := u4
              have u5 : wc.cell? ⟨w.heap.size, 5, none⟩ = some (.slice (y').ka (y').kn (y').kc) := u5
              go_upto_region 13 with fail
              refine wp_region_noPanic ?_
              refine wp_region_late (fun _ => True) (fun w' => Below wc.heap.size wc w') [2] (by kernel_rfl) trivial ((Below.refl _ wc).drew) (fun hHeld0 hHeld => ?_)
              refine regG_tk (v := ?_) 0 61 rfl rfl (by kernel_rfl) (by kernel_rfl) (by kernel_rfl) (by kernel_rfl) (by kernel_rfl) (fun _ _ _ h => h) (by rfl) ?_ (by assumption) (by assumption) ?_
              rotate_left
              · (intro w3 hS; (try dsimp only at hS); (have j0 := cell_later hS u0; have j1 := cell_later hS u1; have j2 := cell_later hS u2; have j3 := cell_later hS u3; have j4 := cell_later hS u4; have j5 := cell_later hS u5); go_simp; (try with_reducible rfl))
              simp only [List.setIfInBounds_toArray, List.set_cons_zero, List.set_cons_succ]
              refine reg0_tk (v := ?_) 1 8 rfl rfl (by kernel_rfl) (by kernel_rfl) (by kernel_rfl) (by kernel_rfl) (by kernel_rfl) (fun _ _ _ h => h) (by rfl) ?_ (by assumption) (by assumption) ?_
              rotate_left
              · (intro w3 hS; (try dsimp only at hS); skip; go_simp; (try with_reducible rfl))
              simp only [List.setIfInBounds_toArray, List.set_cons_zero, List.set_cons_succ]
              have H9d := H9.out
              have t0 : wc.cell? ⟨w.heap.size + 2, 0, none⟩ = some (.int .i64 0) := H9d.cell 0
              have t1 : wc.cell? ⟨w.heap.size + 2, 1, none⟩ = some (.int .i64 0) := H9d.cell 1
              have t2 : wc.cell? ⟨w.heap.size + 2, 2, none⟩ = some (.int .i64 0) := H9d.cell 2
              have t3 : wc.cell? ⟨w.heap.size + 2, 3, none⟩ = some (.int .i64 0) := H9d.cell 3
              have t4 : wc.cell? ⟨w.heap.size + 2, 4, none⟩ = some (.slice none 0 0) := H9d.cell 4
              have t5 : wc.cell? ⟨w.heap.size + 2, 5, none⟩ = some (.slice none 0 0) := H9d.cell 5
              have y0 := H9d.frozen 0
              have y1 := H9d.frozen 1
              have y2 := H9d.frozen 2
              have y3 := H9d.frozen 3
              have y4 := H9d.frozen 4
              have y5 := H9d.frozen 5
              refine wpAnyG_one (i := 2) (by kernel_rfl) rfl (by rfl) (by kernel_rfl) (fun K hK => ?_)
              go_simp
              refine hK _ _ trivial ?_
              clear hK K
              try simp only [Act.put, List.setIfInBounds_toArray, List.set_cons_zero, List.set_cons_succ]
              refine wpAnyG_done (by kernel_rfl) ?_ _
              refine NoPanic.normal ?_
              obtain ⟨wf, HWF⟩ : ∃ V : World, Hid (V = ((((((wc.setCell ⟨w.heap.size + 2, 0, none⟩ (.int .i64 (y').st)).setCell ⟨w.heap.size + 2, 1, none⟩ (.int .i64 (y').tt)).setCell ⟨w.heap.size + 2, 2, none⟩ (.int .i64 (y').of)).setCell ⟨w.heap.size + 2, 3, none⟩ (.int .i64 (y').nx)).setCell ⟨w.heap.size + 2, 4, none⟩ (.slice (y').ta (y').tn (y').tc)).setCell ⟨w.heap.size + 2, 5, none⟩ (.slice (y').ka (y').kn (y').kc)).drew) := ⟨_, Lib.hid rfl⟩
              have hkf : Kx (fun b => b = w.heap.size + 2) wc wf := by rw [HWF.out]; exact ((((((Kx.refl (fun b => b = w.heap.size + 2) wc).setCell (.inl rfl) _).setCell (.inl rfl) _).setCell (.inl rfl) _).setCell (.inl rfl) _).setCell (.inl rfl) _).setCell (.inl rfl) _ |>.drew
              have hb9 : BoxN wf (w.heap.size + 2) 45 #[.int .i64 (y').st, .int .i64 (y').tt, .int .i64 (y').of, .int .i64 (y').nx, .slice (y').ta (y').tn (y').tc, .slice (y').ka (y').kn (y').kc] := by
                rw [HWF.out]
                exact ((((((H9d.setc 0 _).setc 1 _).setc 2 _).setc 3 _).setc 4 _).setc 5 _).below (Below.refl _ _).drew
              have hBf : Below w.heap.size w wf := HB.out.trans (hkf.below HB.out.size (fun b e => by omega))
              have r0 : wf.cell? ⟨w.heap.size + 2, 0, none⟩ = some (.int .i64 (y').st) := hb9.cell 0
              have r1 : wf.cell? ⟨w.heap.size + 2, 1, none⟩ = some (.int .i64 (y').tt) := hb9.cell 1
              have r2 : wf.cell? ⟨w.heap.size + 2, 2, none⟩ = some (.int .i64 (y').of) := hb9.cell 2
              have r3 : wf.cell? ⟨w.heap.size + 2, 3, none⟩ = some (.int .i64 (y').nx) := hb9.cell 3
              have r4 : wf.cell? ⟨w.heap.size + 2, 4, none⟩ = some (.slice (y').ta (y').tn (y').tc) := hb9.cell 4
              have r5 : wf.cell? ⟨w.heap.size + 2, 5, none⟩ = some (.slice (y').ka (y').kn (y').kc) := hb9.cell 5
              have HKF := Lib.hid hkf
              have HBF := Lib.hid hBf
              rw [← HWF.out]
              clear HWF hkf hBf hb9 t0 t1 t2 t3 t4 t5 y0 y1 y2 y3 y4 y5 u0 u1 u2 u3 u4 u5 H9d
              go_wp2_with fail
              refine bodyPost_ret (v := .tuple #[.int .i64 5, .agg #[.int .i64 (y').st, .int .i64 (y').tt, .int .i64 (y').of, .int .i64 (y').nx, .slice (y').ta (y').tn (y').tc, .slice (y').ka (y').kn (y').kc]]) (by simp [results, Try.results75, go_sem, r0, r1, r2, r3, r4, r5]) rfl ⟨y', rfl, ?_⟩
              have hot := HKF.out.owns (fun b e e2 => row_ne HOT.out H9.out (by decide) b e e2.symm) HOT.out
              have hok := HKF.out.owns (fun b e e2 => row_ne HOK.out H9.out (by decide) b e e2.symm) HOK.out
              refine ⟨?_, HBF.out, fun b e => .inr ?_, fun b e => .inr ?_, fun b e1 e2 => ?_⟩
              · rw [HY.out, HCE.out]
                exact ⟨(by first | exact HSTE.out | rfl), HC.out.tt, HC.out.of, HC.out.nx, own_mono hot hB, own_mono hok (by omega)⟩
              · rw [HY.out] at e
                exact (hot.lt b e).1
              · rw [HY.out] at e
                have := (hok.lt b e).1
                omega
              · rw [HY.out] at e1 e2
                have h1 := HTL.out b e1
                have h2 := (hok.lt b e2).1
                omega
            · have d2 : (st == 0) = false := by simp [c2]
              have d3 : (st == 3) = true := by simp; omega
              clear c1 c2
              have b40 := H4.out.setc 0 (.int .i64 1)
              have hk0 : Kx (fun b => b = w.heap.size) wc (wc.setCell ⟨w.heap.size, 0, none⟩ (.int .i64 1)) := kx_cell _ _ _ _
              have h9 := hk0.box (by omega) H9.out
              have ho0 := hk0.owns (fun b e e2 => row_ne HOK.out H4.out (by decide) b e e2.symm) HOK.out
              have ht0 := hk0.owns (fun b e e2 => row_ne HOT.out H4.out (by decide) b e e2.symm) HOT.out
              have hB9 := HB.out.trans (hk0.below (n := w.heap.size) HB.out.size (fun b e => by omega))
              obtain ⟨we, HWE⟩ : ∃ V : World, Hid (V = wc.setCell ⟨w.heap.size, 0, none⟩ (.int .i64 1)) := ⟨_, Lib.hid rfl⟩
              rw [← HWE.out] at b40 h9 ho0 ht0 hB9
              replace HOK := Lib.hid ho0
              replace HOT := Lib.hid ht0
              replace H4 := Lib.hid b40
              replace H9 := Lib.hid h9
              replace HB := Lib.hid hB9
              clear b40 hk0 h9 ho0 ht0 hB9
              go_upto_region 13 with fail
              rw [← HWE.out]
              clear HWE v0 f0
              obtain ⟨wc, rfl⟩ : ∃ V : World, V = we := ⟨_, rfl⟩
              obtain ⟨y', HY⟩ : ∃ z : Cq, Hid (z = { y with st := 1, ta := ta, tn := l1.length, tc := tc, ka := ka, kn := l2.length, kc := kc }) := ⟨_, Lib.hid rfl⟩
              replace H4 : Hid (BoxN wc w.heap.size 45 #[.int .i64 y'.st, .int .i64 y'.tt, .int .i64 y'.of, .int .i64 y'.nx, .slice y'.ta y'.tn y'.tc, .slice y'.ka y'.kn y'.kc]) := Lib.hid (by rw [HY.out]; exact H4.out)
              have HSTE : Hid ((1 : Int) = 1) := Lib.hid rfl
              have u0 := H4.out.cell 0
              have u1 := H4.out.cell 1
              have u2 := H4.out.cell 2
              have u3 := H4.out.cell 3
              have u4 := H4.out.cell 4
              have u5 := H4.out.cell 5
              have u0 : wc.cell? ⟨w.heap.size, 0, none⟩ = some (.int .i64 (y').st) := u0
              have u1 : wc.cell? ⟨w.heap.size, 1, none⟩ = some (.int .i64 (y').tt) := u1
              have u2 : wc.cell? ⟨w.heap.size, 2, none⟩ = some (.int .i64 (y').of) := u2
              have u3 : wc.cell? ⟨w.heap.size, 3, none⟩ = some (.int .i64 (y').nx) := u3
              have u4 : wc.cell? ⟨w.heap.size, 4, none⟩ = some (.slice (y').ta (y').tn (y').tc) := u4
              have u5 : wc.cell? ⟨w.heap.size, 5, none⟩ = some (.slice (y').ka (y').kn (y').kc) := u5
              go_upto_region 13 with fail
              refine wp_region_noPanic ?_
              refine wp_region_late (fun _ => True) (fun w' => Below wc.heap.size wc w') [2] (by kernel_rfl) trivial ((Below.refl _ wc).drew) (fun hHeld0 hHeld => ?_)
              refine regG_tk (v := ?_) 0 61 rfl rfl (by kernel_rfl) (by kernel_rfl) (by kernel_rfl) (by kernel_rfl) (by kernel_rfl) (fun _ _ _ h => h) (by rfl) ?_ (by assumption) (by assumption) ?_
              rotate_left
              · (intro w3 hS; (try dsimp only at hS); (have j0 := cell_later hS u0; have j1 := cell_later hS u1; have j2 := cell_later hS u2; have j3 := cell_later hS u3; have j4 := cell_later hS u4; have j5 := cell_later hS u5); go_simp; (try with_reducible rfl))
              simp only [List.setIfInBounds_toArray, List.set_cons_zero, List.set_cons_succ]
              refine reg0_tk (v := ?_) 1 8 rfl rfl (by kernel_rfl) (by kernel_rfl) (by kernel_rfl) (by kernel_rfl) (by kernel_rfl) (fun _ _ _ h => h) (by rfl) ?_ (by assumption) (by assumption) ?_
              rotate_left
              · (intro w3 hS; (try dsimp only at hS); skip; go_simp; (try with_reducible rfl))
              simp only [List.setIfInBounds_toArray, List.set_cons_zero, List.set_cons_succ]
              have H9d := H9.out
              have t0 : wc.cell? ⟨w.heap.size + 2, 0, none⟩ = some (.int .i64 0) := H9d.cell 0
              have t1 : wc.cell? ⟨w.heap.size + 2, 1, none⟩ = some (.int .i64 0) := H9d.cell 1
              have t2 : wc.cell? ⟨w.heap.size + 2, 2, none⟩ = some (.int .i64 0) := H9d.cell 2
              have t3 : wc.cell? ⟨w.heap.size + 2, 3, none⟩ = some (.int .i64 0) := H9d.cell 3
              have t4 : wc.cell? ⟨w.heap.size + 2, 4, none⟩ = some (.slice none 0 0) := H9d.cell 4
              have t5 : wc.cell? ⟨w.heap.size + 2, 5, none⟩ = some (.slice none 0 0) := H9d.cell 5
              have y0 := H9d.frozen 0
              have y1 := H9d.frozen 1
              have y2 := H9d.frozen 2
              have y3 := H9d.frozen 3
              have y4 := H9d.frozen 4
              have y5 := H9d.frozen 5
              refine wpAnyG_one (i := 2) (by kernel_rfl) rfl (by rfl) (by kernel_rfl) (fun K hK => ?_)
              go_simp
              refine hK _ _ trivial ?_
              clear hK K
              try simp only [Act.put, List.setIfInBounds_toArray, List.set_cons_zero, List.set_cons_succ]
              refine wpAnyG_done (by kernel_rfl) ?_ _
              refine NoPanic.normal ?_
              obtain ⟨wf, HWF⟩ : ∃ V : World, Hid (V = ((((((wc.setCell ⟨w.heap.size + 2, 0, none⟩ (.int .i64 (y').st)).setCell ⟨w.heap.size + 2, 1, none⟩ (.int .i64 (y').tt)).setCell ⟨w.heap.size + 2, 2, none⟩ (.int .i64 (y').of)).setCell ⟨w.heap.size + 2, 3, none⟩ (.int .i64 (y').nx)).setCell ⟨w.heap.size + 2, 4, none⟩ (.slice (y').ta (y').tn (y').tc)).setCell ⟨w.heap.size + 2, 5, none⟩ (.slice (y').ka (y').kn (y').kc)).drew) := ⟨_, Lib.hid rfl⟩
              have hkf : Kx (fun b => b = w.heap.size + 2) wc wf := by rw [HWF.out]; exact ((((((Kx.refl (fun b => b = w.heap.size + 2) wc).setCell (.inl rfl) _).setCell (.inl rfl) _).setCell (.inl rfl) _).setCell (.inl rfl) _).setCell (.inl rfl) _).setCell (.inl rfl) _ |>.drew
              have hb9 : BoxN wf (w.heap.size + 2) 45 #[.int .i64 (y').st, .int .i64 (y').tt, .int .i64 (y').of, .int .i64 (y').nx, .slice (y').ta (y').tn (y').tc, .slice (y').ka (y').kn (y').kc] := by
                rw [HWF.out]
                exact ((((((H9d.setc 0 _).setc 1 _).setc 2 _).setc 3 _).setc 4 _).setc 5 _).below (Below.refl _ _).drew
              have hBf : Below w.heap.size w wf := HB.out.trans (hkf.below HB.out.size (fun b e => by omega))
              have r0 : wf.cell? ⟨w.heap.size + 2, 0, none⟩ = some (.int .i64 (y').st) := hb9.cell 0
              have r1 : wf.cell? ⟨w.heap.size + 2, 1, none⟩ = some (.int .i64 (y').tt) := hb9.cell 1
              have r2 : wf.cell? ⟨w.heap.size + 2, 2, none⟩ = some (.int .i64 (y').of) := hb9.cell 2
              have r3 : wf.cell? ⟨w.heap.size + 2, 3, none⟩ = some (.int .i64 (y').nx) := hb9.cell 3
              have r4 : wf.cell? ⟨w.heap.size + 2, 4, none⟩ = some (.slice (y').ta (y').tn (y').tc) := hb9.cell 4
              have r5 : wf.cell? ⟨w.heap.size + 2, 5, none⟩ = some (.slice (y').ka (y').kn (y').kc) := hb9.cell 5
              have HKF := Lib.hid hkf
              have HBF := Lib.hid hBf
              rw [← HWF.out]
              clear HWF hkf hBf hb9 t0 t1 t2 t3 t4 t5 y0 y1 y2 y3 y4 y5 u0 u1 u2 u3 u4 u5 H9d
              go_wp2_with fail
              refine bodyPost_ret (v := .tuple #[.int .i64 5, .agg #[.int .i64 (y').st, .int .i64 (y').tt, .int .i64 (y').of, .int .i64 (y').nx, .slice (y').ta (y').tn (y').tc, .slice (y').ka (y').kn (y').kc]]) (by simp [results, Try.results75, go_sem, r0, r1, r2, r3, r4, r5]) rfl ⟨y', rfl, ?_⟩
              have hot := HKF.out.owns (fun b e e2 => row_ne HOT.out H9.out (by decide) b e e2.symm) HOT.out
              have hok := HKF.out.owns (fun b e e2 => row_ne HOK.out H9.out (by decide) b e e2.symm) HOK.out
              refine ⟨?_, HBF.out, fun b e => .inr ?_, fun b e => .inr ?_, fun b e1 e2 => ?_⟩
              · rw [HY.out, HCE.out]
                exact ⟨(by first | exact HSTE.out | rfl), HC.out.tt, HC.out.of, HC.out.nx, own_mono hot hB, own_mono hok (by omega)⟩
              · rw [HY.out] at e
                exact (hot.lt b e).1
              · rw [HY.out] at e
                have := (hok.lt b e).1
                omega
              · rw [HY.out] at e1 e2
                have h1 := HTL.out b e1
                have h2 := (hok.lt b e2).1
                omega
          · have HSTE0 : Hid ((if false = true then (4 : Int) else if st = 0 ∨ st = 3 then 1 else st) = st) := Lib.hid (by rw [if_neg (by decide), if_neg c1])
            rw [HSTE0.out] at HCE
            have d2 : (st == 0) = false := by simp; omega
            have d3 : (st == 3) = false := by simp; omega
            clear c1
            obtain ⟨y', HY⟩ : ∃ z : Cq, Hid (z = { y with ta := ta, tn := l1.length, tc := tc, ka := ka, kn := l2.length, kc := kc }) := ⟨_, Lib.hid rfl⟩
            replace H4 : Hid (BoxN wc w.heap.size 45 #[.int .i64 y'.st, .int .i64 y'.tt, .int .i64 y'.of, .int .i64 y'.nx, .slice y'.ta y'.tn y'.tc, .slice y'.ka y'.kn y'.kc]) := Lib.hid (by rw [HY.out]; exact H4.out)
            have HSTE : Hid (y.st = st) := HST
            have u0 := H4.out.cell 0
            have u1 := H4.out.cell 1
            have u2 := H4.out.cell 2
            have u3 := H4.out.cell 3
            have u4 := H4.out.cell 4
            have u5 := H4.out.cell 5
            have u0 : wc.cell? ⟨w.heap.size, 0, none⟩ = some (.int .i64 (y').st) := u0
            have u1 : wc.cell? ⟨w.heap.size, 1, none⟩ = some (.int .i64 (y').tt) := u1
            have u2 : wc.cell? ⟨w.heap.size, 2, none⟩ = some (.int .i64 (y').of) := u2
            have u3 : wc.cell? ⟨w.heap.size, 3, none⟩ = some (.int .i64 (y').nx) := u3
            have u4 : wc.cell? ⟨w.heap.size, 4, none⟩ = some (.slice (y').ta (y').tn (y').tc) := u4
            have u5 : wc.cell? ⟨w.heap.size, 5, none⟩ = some (.slice (y').ka (y').kn (y').kc) := u5
            go_upto_region 13 with fail
            refine wp_region_noPanic ?_
            refine wp_region_late (fun _ => True) (fun w' => Below wc.heap.size wc w') [2] (by kernel_rfl) trivial ((Below.refl _ wc).drew) (fun hHeld0 hHeld => ?_)
            refine regG_tk (v := ?_) 0 61 rfl rfl (by kernel_rfl) (by kernel_rfl) (by kernel_rfl) (by kernel_rfl) (by kernel_rfl) (fun _ _ _ h => h) (by rfl) ?_ (by assumption) (by assumption) ?_
            rotate_left
            · (intro w3 hS; (try dsimp only at hS); (have j0 := cell_later hS u0; have j1 := cell_later hS u1; have j2 := cell_later hS u2; have j3 := cell_later hS u3; have j4 := cell_later hS u4; have j5 := cell_later hS u5); go_simp; (try with_reducible rfl))
            simp only [List.setIfInBounds_toArray, List.set_cons_zero, List.set_cons_succ]
            refine reg0_tk (v := ?_) 1 8 rfl rfl (by kernel_rfl) (by kernel_rfl) (by kernel_rfl) (by kernel_rfl) (by kernel_rfl) (fun _ _ _ h => h) (by rfl) ?_ (by assumption) (by assumption) ?_
            rotate_left
            · (intro w3 hS; (try dsimp only at hS); skip; go_simp; (try with_reducible rfl))
            simp only [List.setIfInBounds_toArray, List.set_cons_zero, List.set_cons_succ]
            have H9d := H9.out
            have t0 : wc.cell? ⟨w.heap.size + 2, 0, none⟩ = some (.int .i64 0) := H9d.cell 0
            have t1 : wc.cell? ⟨w.heap.size + 2, 1, none⟩ = some (.int .i64 0) := H9d.cell 1
            have t2 : wc.cell? ⟨w.heap.size + 2, 2, none⟩ = some (.int .i64 0) := H9d.cell 2
            have t3 : wc.cell? ⟨w.heap.size + 2, 3, none⟩ = some (.int .i64 0) := H9d.cell 3
            have t4 : wc.cell? ⟨w.heap.size + 2, 4, none⟩ = some (.slice none 0 0) := H9d.cell 4
            have t5 : wc.cell? ⟨w.heap.size + 2, 5, none⟩ = some (.slice none 0 0) := H9d.cell 5
            have y0 := H9d.frozen 0
            have y1 := H9d.frozen 1
            have y2 := H9d.frozen 2
            have y3 := H9d.frozen 3
            have y4 := H9d.frozen 4
            have y5 := H9d.frozen 5
            refine wpAnyG_one (i := 2) (by kernel_rfl) rfl (by rfl) (by kernel_rfl) (fun K hK => ?_)
            go_simp
            refine hK _ _ trivial ?_
            clear hK K
            try simp only [Act.put, List.setIfInBounds_toArray, List.set_cons_zero, List.set_cons_succ]
            refine wpAnyG_done (by kernel_rfl) ?_ _
            refine NoPanic.normal ?_
            obtain ⟨wf, HWF⟩ : ∃ V : World, Hid (V = ((((((wc.setCell ⟨w.heap.size + 2, 0, none⟩ (.int .i64 (y').st)).setCell ⟨w.heap.size + 2, 1, none⟩ (.int .i64 (y').tt)).setCell ⟨w.heap.size + 2, 2, none⟩ (.int .i64 (y').of)).setCell ⟨w.heap.size + 2, 3, none⟩ (.int .i64 (y').nx)).setCell ⟨w.heap.size + 2, 4, none⟩ (.slice (y').ta (y').tn (y').tc)).setCell ⟨w.heap.size + 2, 5, none⟩ (.slice (y').ka (y').kn (y').kc)).drew) := ⟨_, Lib.hid rfl⟩
            have hkf : Kx (fun b => b = w.heap.size + 2) wc wf := by rw [HWF.out]; exact ((((((Kx.refl (fun b => b = w.heap.size + 2) wc).setCell (.inl rfl) _).setCell (.inl rfl) _).setCell (.inl rfl) _).setCell (.inl rfl) _).setCell (.inl rfl) _).setCell (.inl rfl) _ |>.drew
            have hb9 : BoxN wf (w.heap.size + 2) 45 #[.int .i64 (y').st, .int .i64 (y').tt, .int .i64 (y').of, .int .i64 (y').nx, .slice (y').ta (y').tn (y').tc, .slice (y').ka (y').kn (y').kc] := by
              rw [HWF.out]
              exact ((((((H9d.setc 0 _).setc 1 _).setc 2 _).setc 3 _).setc 4 _).setc 5 _).below (Below.refl _ _).drew
            have hBf : Below w.heap.size w wf := HB.out.trans (hkf.below HB.out.size (fun b e => by omega))
            have r0 : wf.cell? ⟨w.heap.size + 2, 0, none⟩ = some (.int .i64 (y').st) := hb9.cell 0
            have r1 : wf.cell? ⟨w.heap.size + 2, 1, none⟩ = some (.int .i64 (y').tt) := hb9.cell 1
            have r2 : wf.cell? ⟨w.heap.size + 2, 2, none⟩ = some (.int .i64 (y').of) := hb9.cell 2
            have r3 : wf.cell? ⟨w.heap.size + 2, 3, none⟩ = some (.int .i64 (y').nx) := hb9.cell 3
            have r4 : wf.cell? ⟨w.heap.size + 2, 4, none⟩ = some (.slice (y').ta (y').tn (y').tc) := hb9.cell 4
            have r5 : wf.cell? ⟨w.heap.size + 2, 5, none⟩ = some (.slice (y').ka (y').kn (y').kc) := hb9.cell 5
            have HKF := Lib.hid hkf
            have HBF := Lib.hid hBf
            rw [← HWF.out]
            clear HWF hkf hBf hb9 t0 t1 t2 t3 t4 t5 y0 y1 y2 y3 y4 y5 u0 u1 u2 u3 u4 u5 H9d
            go_wp2_with fail
            refine bodyPost_ret (v := .tuple #[.int .i64 5, .agg #[.int .i64 (y').st, .int .i64 (y').tt, .int .i64 (y').of, .int .i64 (y').nx, .slice (y').ta (y').tn (y').tc, .slice (y').ka (y').kn (y').kc]]) (by simp [results, Try.results75, go_sem, r0, r1, r2, r3, r4, r5]) rfl ⟨y', rfl, ?_⟩
            have hot := HKF.out.owns (fun b e e2 => row_ne HOT.out H9.out (by decide) b e e2.symm) HOT.out
            have hok := HKF.out.owns (fun b e e2 => row_ne HOK.out H9.out (by decide) b e e2.symm) HOK.out
            refine ⟨?_, HBF.out, fun b e => .inr ?_, fun b e => .inr ?_, fun b e1 e2 => ?_⟩
            · rw [HY.out, HCE.out]
              exact ⟨(by first | exact HSTE.out | rfl), HC.out.tt, HC.out.of, HC.out.nx, own_mono hot hB, own_mono hok (by omega)⟩
            · rw [HY.out] at e
              exact (hot.lt b e).1
            · rw [HY.out] at e
              have := (hok.lt b e).1
              omega
            · rw [HY.out] at e1 e2
              have h1 := HTL.out b e1
              have h2 := (hok.lt b e2).1
              omega
        · have HSTE0 : Hid ((if true = true then (4 : Int) else if st = 0 ∨ st = 3 then 1 else st) = 4) := Lib.hid (if_pos rfl)
          rw [HSTE0.out] at HCE
          have b40 := H4.out.setc 0 (.int .i64 4)
          have hk0 : Kx (fun b => b = w.heap.size) wc (wc.setCell ⟨w.heap.size, 0, none⟩ (.int .i64 4)) := kx_cell _ _ _ _
          have h9 := hk0.box (by omega) H9.out
          have ho0 := hk0.owns (fun b e e2 => row_ne HOK.out H4.out (by decide) b e e2.symm) HOK.out
          have ht0 := hk0.owns (fun b e e2 => row_ne HOT.out H4.out (by decide) b e e2.symm) HOT.out
          have hB9 := HB.out.trans (hk0.below (n := w.heap.size) HB.out.size (fun b e => by omega))
          obtain ⟨we, HWE⟩ : ∃ V : World, Hid (V = wc.setCell ⟨w.heap.size, 0, none⟩ (.int .i64 4)) := ⟨_, Lib.hid rfl⟩
          rw [← HWE.out] at b40 h9 ho0 ht0 hB9
          replace HOK := Lib.hid ho0
          replace HOT := Lib.hid ht0
          replace H4 := Lib.hid b40
          replace H9 := Lib.hid h9
          replace HB := Lib.hid hB9
          clear b40 hk0 h9 ho0 ht0 hB9
          go_upto_region 13 with fail
          rw [← HWE.out]
          clear HWE v0 f0
          obtain ⟨wc, rfl⟩ : ∃ V : World, V = we := ⟨_, rfl⟩
          obtain ⟨y', HY⟩ : ∃ z : Cq, Hid (z = { y with st := 4, ta := ta, tn := l1.length, tc := tc, ka := ka, kn := l2.length, kc := kc }) := ⟨_, Lib.hid rfl⟩
          replace H4 : Hid (BoxN wc w.heap.size 45 #[.int .i64 y'.st, .int .i64 y'.tt, .int .i64 y'.of, .int .i64 y'.nx, .slice y'.ta y'.tn y'.tc, .slice y'.ka y'.kn y'.kc]) := Lib.hid (by rw [HY.out]; exact H4.out)
          have HSTE : Hid ((4 : Int) = 4) := Lib.hid rfl
          have u0 := H4.out.cell 0
          have u1 := H4.out.cell 1
          have u2 := H4.out.cell 2
          have u3 := H4.out.cell 3
          have u4 := H4.out.cell 4
          have u5 := H4.out.cell 5
          have u0 : wc.cell? ⟨w.heap.size, 0, none⟩ = some (.int .i64 (y').st) := u0
          have u1 : wc.cell? ⟨w.heap.size, 1, none⟩ = some (.int .i64 (y').tt) := u1
          have u2 : wc.cell? ⟨w.heap.size, 2, none⟩ = some (.int .i64 (y').of) := u2
          have u3 : wc.cell? ⟨w.heap.size, 3, none⟩ = some (.int .i64 (y').nx) := u3
          have u4 : wc.cell? ⟨w.heap.size, 4, none⟩ = some (.slice (y').ta (y').tn (y').tc) := u4
          have u5 : wc.cell? ⟨w.heap.size, 5, none⟩ = some (.slice (y').ka (y').kn (y').kc) := u5
          go_upto_region 13 with fail
          refine wp_region_noPanic ?_
          refine wp_region_late (fun _ => True) (fun w' => Below wc.heap.size wc w') [2] (by kernel_rfl) trivial ((Below.refl _ wc).drew) (fun hHeld0 hHeld => ?_)
          refine regG_tk (v := ?_) 0 61 rfl rfl (by kernel_rfl) (by kernel_rfl) (by kernel_rfl) (by kernel_rfl) (by kernel_rfl) (fun _ _ _ h => h) (by rfl) ?_ (by assumption) (by assumption) ?_
          rotate_left
          · (intro w3 hS; (try dsimp only at hS); (have j0 := cell_later hS u0; have j1 := cell_later hS u1; have j2 := cell_later hS u2; have j3 := cell_later hS u3; have j4 := cell_later hS u4; have j5 := cell_later hS u5); go_simp; (try with_reducible rfl))
          simp only [List.setIfInBounds_toArray, List.set_cons_zero, List.set_cons_succ]
          refine reg0_tk (v := ?_) 1 8 rfl rfl (by kernel_rfl) (by kernel_rfl) (by kernel_rfl) (by kernel_rfl) (by kernel_rfl) (fun _ _ _ h => h) (by rfl) ?_ (by assumption) (by assumption) ?_
          rotate_left
          · (intro w3 hS; (try dsimp only at hS); skip; go_simp; (try with_reducible rfl))
          simp only [List.setIfInBounds_toArray, List.set_cons_zero, List.set_cons_succ]
          have H9d := H9.out
          have t0 : wc.cell? ⟨w.heap.size + 2, 0, none⟩ = some (.int .i64 0) := H9d.cell 0
          have t1 : wc.cell? ⟨w.heap.size + 2, 1, none⟩ = some (.int .i64 0) := H9d.cell 1
          have t2 : wc.cell? ⟨w.heap.size + 2, 2, none⟩ = some (.int .i64 0) := H9d.cell 2
          have t3 : wc.cell? ⟨w.heap.size + 2, 3, none⟩ = some (.int .i64 0) := H9d.cell 3
          have t4 : wc.cell? ⟨w.heap.size + 2, 4, none⟩ = some (.slice none 0 0) := H9d.cell 4
          have t5 : wc.cell? ⟨w.heap.size + 2, 5, none⟩ = some (.slice none 0 0) := H9d.cell 5
          have y0 := H9d.frozen 0
          have y1 := H9d.frozen 1
          have y2 := H9d.frozen 2
          have y3 := H9d.frozen 3
          have y4 := H9d.frozen 4
          have y5 := H9d.frozen 5
          refine wpAnyG_one (i := 2) (by kernel_rfl) rfl (by rfl) (by kernel_rfl) (fun K hK => ?_)
          go_simp
          refine hK _ _ trivial ?_
          clear hK K
          try simp only [Act.put, List.setIfInBounds_toArray, List.set_cons_zero, List.set_cons_succ]
          refine wpAnyG_done (by kernel_rfl) ?_ _
          refine NoPanic.normal ?_
          obtain ⟨wf, HWF⟩ : ∃ V : World, Hid (V = ((((((wc.setCell ⟨w.heap.size + 2, 0, none⟩ (.int .i64 (y').st)).setCell ⟨w.heap.size + 2, 1, none⟩ (.int .i64 (y').tt)).setCell ⟨w.heap.size + 2, 2, none⟩ (.int .i64 (y').of)).setCell ⟨w.heap.size + 2, 3, none⟩ (.int .i64 (y').nx)).setCell ⟨w.heap.size + 2, 4, none⟩ (.slice (y').ta (y').tn (y').tc)).setCell ⟨w.heap.size + 2, 5, none⟩ (.slice (y').ka (y').kn (y').kc)).drew) := ⟨_, Lib.hid rfl⟩
          have hkf : Kx (fun b => b = w.heap.size + 2) wc wf := by rw [HWF.out]; exact ((((((Kx.refl (fun b => b = w.heap.size + 2) wc).setCell (.inl rfl) _).setCell (.inl rfl) _).setCell (.inl rfl) _).setCell (.inl rfl) _).setCell (.inl rfl) _).setCell (.inl rfl) _ |>.drew
          have hb9 : BoxN wf (w.heap.size + 2) 45 #[.int .i64 (y').st, .int .i64 (y').tt, .int .i64 (y').of, .int .i64 (y').nx, .slice (y').ta (y').tn (y').tc, .slice (y').ka (y').kn (y').kc] := by
            rw [HWF.out]
            exact ((((((H9d.setc 0 _).setc 1 _).setc 2 _).setc 3 _).setc 4 _).setc 5 _).below (Below.refl _ _).drew
          have hBf : Below w.heap.size w wf := HB.out.trans (hkf.below HB.out.size (fun b e => by omega))
          have r0 : wf.cell? ⟨w.heap.size + 2, 0, none⟩ = some (.int .i64 (y').st) := hb9.cell 0
          have r1 : wf.cell? ⟨w.heap.size + 2, 1, none⟩ = some (.int .i64 (y').tt) := hb9.cell 1
          have r2 : wf.cell? ⟨w.heap.size + 2, 2, none⟩ = some (.int .i64 (y').of) := hb9.cell 2
          have r3 : wf.cell? ⟨w.heap.size + 2, 3, none⟩ = some (.int .i64 (y').nx) := hb9.cell 3
          have r4 : wf.cell? ⟨w.heap.size + 2, 4, none⟩ = some (.slice (y').ta (y').tn (y').tc) := hb9.cell 4
          have r5 : wf.cell? ⟨w.heap.size + 2, 5, none⟩ = some (.slice (y').ka (y').kn (y').kc) := hb9.cell 5
          have HKF := Lib.hid hkf
          have HBF := Lib.hid hBf
          rw [← HWF.out]
          clear HWF hkf hBf hb9 t0 t1 t2 t3 t4 t5 y0 y1 y2 y3 y4 y5 u0 u1 u2 u3 u4 u5 H9d
          go_wp2_with fail
          refine bodyPost_ret (v := .tuple #[.int .i64 5, .agg #[.int .i64 (y').st, .int .i64 (y').tt, .int .i64 (y').of, .int .i64 (y').nx, .slice (y').ta (y').tn (y').tc, .slice (y').ka (y').kn (y').kc]]) (by simp [results, Try.results75, go_sem, r0, r1, r2, r3, r4, r5]) rfl ⟨y', rfl, ?_⟩
          have hot := HKF.out.owns (fun b e e2 => row_ne HOT.out H9.out (by decide) b e e2.symm) HOT.out
          have hok := HKF.out.owns (fun b e e2 => row_ne HOK.out H9.out (by decide) b e e2.symm) HOK.out
          refine ⟨?_, HBF.out, fun b e => .inr ?_, fun b e => .inr ?_, fun b e1 e2 => ?_⟩
          · rw [HY.out, HCE.out]
            exact ⟨(by first | exact HSTE.out | rfl), HC.out.tt, HC.out.of, HC.out.nx, own_mono hot hB, own_mono hok (by omega)⟩
          · rw [HY.out] at e
            exact (hot.lt b e).1
          · rw [HY.out] at e
            have := (hok.lt b e).1
            omega
          · rw [HY.out] at e1 e2
            have h1 := HTL.out b e1
            have h2 := (hok.lt b e2).1
            omega
      · have d1 : (st == 2) = false := by simp [cs]
        clear cA key cs
        go_wp2_with fail
        refine HIK2.out.mono ?_
        rintro e w3 ⟨ka, kc, rfl, ho3, hb3⟩
        have b4 := H4.out.below hb3
        have v5 := cell_later hb3 v5
        have f5 := b4.frozen 5
        have b45 := b4.setc 5 (.slice ka l2.length kc)
        have hk5 : Kx (fun b => b = w.heap.size) w3 (w3.setCell ⟨w.heap.size, 5, none⟩ (.slice ka l2.length kc)) := kx_cell _ _ _ _
        have h9 := hk5.box (by omega) (H9.out.below hb3)
        have ho5 := hk5.owns (fun b e e2 => row_ne ho3 b4 (by decide) b e e2.symm) ho3
        have hot3 := Own.keep HOT.out hb3
        have hot5 := hk5.owns (fun b e e2 => row_ne hot3 b4 (by decide) b e e2.symm) hot3
        have HTL : Hid (∀ b, (Value.slice ta l1.length tc).ownBlock = some b → b < wc.heap.size) := Lib.hid (fun b e => (HOT.out.lt b e).2)
        have hB5 := (Below.next HB.out hb3).trans (hk5.below (n := w.heap.size) (by have := hb3.size; omega) (fun b e => by omega))
        obtain ⟨wd, HWD⟩ : ∃ V : World, Hid (V = w3.setCell ⟨w.heap.size, 5, none⟩ (.slice ka l2.length kc)) := ⟨_, Lib.hid rfl⟩
        rw [← HWD.out] at b45 h9 ho5 hot5 hB5
        obtain ⟨sz, hsz⟩ : ∃ s, wc.heap.size = s := ⟨_, rfl⟩
        rw [hsz] at ho5 HTL hzc
        have HOK := Lib.hid ho5
        replace HOT := Lib.hid hot5
        replace H4 := Lib.hid b45
        replace H9 := Lib.hid h9
        replace HB := Lib.hid hB5
        clear b4 b45 hk5 h9 ho3 ho5 hot3 hot5 hB5 hb3 HIK2 s0 s1 v0 hsz
        go_upto_region 9 with fail
        rw [← HWD.out]
        clear HWD v5 f5
        obtain ⟨wc, rfl⟩ : ∃ V : World, V = wd := ⟨_, rfl⟩
        have v0 : wc.cell? ⟨w.heap.size, 0, none⟩ = some (.int .i64 st) := by rw [← HST.out]; exact H4.out.cell 0
        have f0 := H4.out.frozen 0
        cases d
        · -- not the destination
          by_cases c1 : st = 0 ∨ st = 3
          · have HSTE0 : Hid ((if false = true then (4 : Int) else if st = 0 ∨ st = 3 then 1 else st) = 1) := Lib.hid (by rw [if_neg (by decide), if_pos c1])
            rw [HSTE0.out] at HCE
            by_cases c2 : st = 0
            · have d2 : (st == 0) = true := by simp [c2]
              clear c1 c2
              have b40 := H4.out.setc 0 (.int .i64 1)
              have hk0 : Kx (fun b => b = w.heap.size) wc (wc.setCell ⟨w.heap.size, 0, none⟩ (.int .i64 1)) := kx_cell _ _ _ _
              have h9 := hk0.box (by omega) H9.out
              have ho0 := hk0.owns (fun b e e2 => row_ne HOK.out H4.out (by decide) b e e2.symm) HOK.out
              have ht0 := hk0.owns (fun b e e2 => row_ne HOT.out H4.out (by decide) b e e2.symm) HOT.out
              have hB9 := HB.out.trans (hk0.below (n := w.heap.size) HB.out.size (fun b e => by omega))
              obtain ⟨we, HWE⟩ : ∃ V : World, Hid (V = wc.setCell ⟨w.heap.size, 0, none⟩ (.int .i64 1)) := ⟨_, Lib.hid rfl⟩
              rw [← HWE.out] at b40 h9 ho0 ht0 hB9
              replace HOK := Lib.hid ho0
              replace HOT := Lib.hid ht0
              replace H4 := Lib.hid b40
              replace H9 := Lib.hid h9
              replace HB := Lib.hid hB9
              clear b40 hk0 h9 ho0 ht0 hB9
              go_upto_region 13 with fail
              rw [← HWE.out]
              clear HWE v0 f0
              obtain ⟨wc, rfl⟩ : ∃ V : World, V = we := ⟨_, rfl⟩
              obtain ⟨y', HY⟩ : ∃ z : Cq, Hid (z = { y with st := 1, ta := ta, tn := l1.length, tc := tc, ka := ka, kn := l2.length, kc := kc }) := ⟨_, Lib.hid rfl⟩
              replace H4 : Hid (BoxN wc w.heap.size 45 #[.int .i64 y'.st, .int .i64 y'.tt, .int .i64 y'.of, .int .i64 y'.nx, .slice y'.ta y'.tn y'.tc, .slice y'.ka y'.kn y'.kc]) := Lib.hid (by rw [HY.out]; exact H4.out)
              have HSTE : Hid ((1 : Int) = 1) := Lib.hid rfl
              have u0 := H4.out.cell 0
              have u1 := H4.out.cell 1
              have u2 := H4.out.cell 2
              have u3 := H4.out.cell 3
              have u4 := H4.out.cell 4
              have u5 := H4.out.cell 5
              have u0 : wc.cell? ⟨w.heap.size, 0, none⟩ = some (.int .i64 (y').st) := u0
              have u1 : wc.cell? ⟨w.heap.size, 1, none⟩ = some (.int .i64 (y').tt) := u1
              have u2 : wc.cell? ⟨w.heap.size, 2, none⟩ = some (.int .i64 (y').of) := u2
              have u3 : wc.cell? ⟨w.heap.size, 3, none⟩ = some (.int .i64 (y').nx) := u3
              have u4 : wc.cell? ⟨w.heap.size, 4, none⟩ = some (.slice (y').ta (y').tn (y').tc) := u4
              have u5 : wc.cell? ⟨w.heap.size, 5, none⟩ = some (.slice (y').ka (y').kn (y').kc) := u5
              go_upto_region 13 with fail
              refine wp_region_noPanic ?_
              refine wp_region_late (fun _ => True) (fun w' => Below wc.heap.size wc w') [2] (by kernel_rfl) trivial ((Below.refl _ wc).drew) (fun hHeld0 hHeld => ?_)
              refine regG_tk (v := ?_) 0 61 rfl rfl (by kernel_rfl) (by kernel_rfl) (by kernel_rfl) (by kernel_rfl) (by kernel_rfl) (fun _ _ _ h => h) (by rfl) ?_ (by assumption) (by assumption) ?_
              rotate_left
              · (intro w3 hS; (try dsimp only at hS); (have j0 := cell_later hS u0; have j1 := cell_later hS u1; have j2 := cell_later hS u2; have j3 := cell_later hS u3; have j4 := cell_later hS u4; have j5 := cell_later hS u5); go_simp; (try with_reducible rfl))
              simp only [List.setIfInBounds_toArray, List.set_cons_zero, List.set_cons_succ]
              refine reg0_tk (v := ?_) 1 8 rfl rfl (by kernel_rfl) (by kernel_rfl) (by kernel_rfl) (by kernel_rfl) (by kernel_rfl) (fun _ _ _ h => h) (by rfl) ?_ (by assumption) (by assumption) ?_
              rotate_left
              · (intro w3 hS; (try dsimp only at hS); skip; go_simp; (try with_reducible rfl))
              simp only [List.setIfInBounds_toArray, List.set_cons_zero, List.set_cons_succ]
              have H9d := H9.out
              have t0 : wc.cell? ⟨w.heap.size + 2, 0, none⟩ = some (.int .i64 0) := H9d.cell 0
              have t1 : wc.cell? ⟨w.heap.size + 2, 1, none⟩ = some (.int .i64 0) := H9d.cell 1
              have t2 : wc.cell? ⟨w.heap.size + 2, 2, none⟩ = some (.int .i64 0) := H9d.cell 2
              have t3 : wc.cell? ⟨w.heap.size + 2, 3, none⟩ = some (.int .i64 0) := H9d.cell 3
              have t4 : wc.cell? ⟨w.heap.size + 2, 4, none⟩ = some (.slice none 0 0) := H9d.cell 4
              have t5 : wc.cell? ⟨w.heap.size + 2, 5, none⟩ = some (.slice none 0 0) := H9d.cell 5
              have y0 := H9d.frozen 0
              have y1 := H9d.frozen 1
              have y2 := H9d.frozen 2
              have y3 := H9d.frozen 3
              have y4 := H9d.frozen 4
              have y5 := H9d.frozen 5
              refine wpAnyG_one (i := 2) (by kernel_rfl) rfl (by rfl) (by kernel_rfl) (fun K hK => ?_)
              go_simp
              refine hK _ _ trivial ?_
              clear hK K
              try simp only [Act.put, List.setIfInBounds_toArray, List.set_cons_zero, List.set_cons_succ]
              refine wpAnyG_done (by kernel_rfl) ?_ _
              refine NoPanic.normal ?_
              obtain ⟨wf, HWF⟩ : ∃ V : World, Hid (V = ((((((wc.setCell ⟨w.heap.size + 2, 0, none⟩ (.int .i64 (y').st)).setCell ⟨w.heap.size + 2, 1, none⟩ (.int .i64 (y').tt)).setCell ⟨w.heap.size + 2, 2, none⟩ (.int .i64 (y').of)).setCell ⟨w.heap.size + 2, 3, none⟩ (.int .i64 (y').nx)).setCell ⟨w.heap.size + 2, 4, none⟩ (.slice (y').ta (y').tn (y').tc)).setCell ⟨w.heap.size + 2, 5, none⟩ (.slice (y').ka (y').kn (y').kc)).drew) := ⟨_, Lib.hid rfl⟩
              have hkf : Kx (fun b => b = w.heap.size + 2) wc wf := by rw [HWF.out]; exact ((((((Kx.refl (fun b => b = w.heap.size + 2) wc).setCell (.inl rfl) _).setCell (.inl rfl) _).setCell (.inl rfl) _).setCell (.inl rfl) _).setCell (.inl rfl) _).setCell (.inl rfl) _ |>.drew
              have hb9 : BoxN wf (w.heap.size + 2) 45 #[.int .i64 (y').st, .int .i64 (y').tt, .int .i64 (y').of, .int .i64 (y').nx, .slice (y').ta (y').tn (y').tc, .slice (y').ka (y').kn (y').kc] := by
                rw [HWF.out]
                exact ((((((H9d.setc 0 _).setc 1 _).setc 2 _).setc 3 _).setc 4 _).setc 5 _).below (Below.refl _ _).drew
              have hBf : Below w.heap.size w wf := HB.out.trans (hkf.below HB.out.size (fun b e => by omega))
              have r0 : wf.cell? ⟨w.heap.size + 2, 0, none⟩ = some (.int .i64 (y').st) := hb9.cell 0
              have r1 : wf.cell? ⟨w.heap.size + 2, 1, none⟩ = some (.int .i64 (y').tt) := hb9.cell 1
              have r2 : wf.cell? ⟨w.heap.size + 2, 2, none⟩ = some (.int .i64 (y').of) := hb9.cell 2
              have r3 : wf.cell? ⟨w.heap.size + 2, 3, none⟩ = some (.int .i64 (y').nx) := hb9.cell 3
              have r4 : wf.cell? ⟨w.heap.size + 2, 4, none⟩ = some (.slice (y').ta (y').tn (y').tc) := hb9.cell 4
              have r5 : wf.cell? ⟨w.heap.size + 2, 5, none⟩ = some (.slice (y').ka (y').kn (y').kc) := hb9.cell 5
              have HKF := Lib.hid hkf
              have HBF := Lib.hid hBf
              rw [← HWF.out]
              clear HWF hkf hBf hb9 t0 t1 t2 t3 t4 t5 y0 y1 y2 y3 y4 y5 u0 u1 u2 u3 u4 u5 H9d
              go_wp2_with fail
              refine bodyPost_ret (v := .tuple #[.int .i64 5, .agg #[.int .i64 (y').st, .int .i64 (y').tt, .int .i64 (y').of, .int .i64 (y').nx, .slice (y').ta (y').tn (y').tc, .slice (y').ka (y').kn (y').kc]]) (by simp [results, Try.results75, go_sem, r0, r1, r2, r3, r4, r5]) rfl ⟨y', rfl, ?_⟩
              have hot := HKF.out.owns (fun b e e2 => row_ne HOT.out H9.out (by decide) b e e2.symm) HOT.out
              have hok := HKF.out.owns (fun b e e2 => row_ne HOK.out H9.out (by decide) b e e2.symm) HOK.out
              refine ⟨?_, HBF.out, fun b e => .inr ?_, fun b e => .inr ?_, fun b e1 e2 => ?_⟩
              · rw [HY.out, HCE.out]
                exact ⟨(by first | exact HSTE.out | rfl), HC.out.tt, HC.out.of, HC.out.nx, own_mono hot hB, own_mono hok (by omega)⟩
              · rw [HY.out] at e
                exact (hot.lt b e).1
              · rw [HY.out] at e
                have := (hok.lt b e).1
                omega
              · rw [HY.out] at e1 e2
                have h1 := HTL.out b e1
                have h2 := (hok.lt b e2).1
                omega
            · have d2 : (st == 0) = false := by simp [c2]
              have d3 : (st == 3) = true := by simp; omega
              clear c1 c2
              have b40 := H4.out.setc 0 (.int .i64 1)
              have hk0 : Kx (fun b => b = w.heap.size) wc (wc.setCell ⟨w.heap.size, 0, none⟩ (.int .i64 1)) := kx_cell _ _ _ _
              have h9 := hk0.box (by omega) H9.out
              have ho0 := hk0.owns (fun b e e2 => row_ne HOK.out H4.out (by decide) b e e2.symm) HOK.out
              have ht0 := hk0.owns (fun b e e2 => row_ne HOT.out H4.out (by decide) b e e2.symm) HOT.out
              have hB9 := HB.out.trans (hk0.below (n := w.heap.size) HB.out.size (fun b e => by omega))
              obtain ⟨we, HWE⟩ : ∃ V : World, Hid (V = wc.setCell ⟨w.heap.size, 0, none⟩ (.int .i64 1)) := ⟨_, Lib.hid rfl⟩
              rw [← HWE.out] at b40 h9 ho0 ht0 hB9
              replace HOK := Lib.hid ho0
              replace HOT := Lib.hid ht0
              replace H4 := Lib.hid b40
              replace H9 := Lib.hid h9
              replace HB := Lib.hid hB9
              clear b40 hk0 h9 ho0 ht0 hB9
              go_upto_region 13 with fail
              rw [← HWE.out]
              clear HWE v0 f0
              obtain ⟨wc, rfl⟩ : ∃ V : World, V = we := ⟨_, rfl⟩
              obtain ⟨y', HY⟩ : ∃ z : Cq, Hid (z = { y with st := 1, ta := ta, tn := l1.length, tc := tc, ka := ka, kn := l2.length, kc := kc }) := ⟨_, Lib.hid rfl⟩
              replace H4 : Hid (BoxN wc w.heap.size 45 #[.int .i64 y'.st, .int .i64 y'.tt, .int .i64 y'.of, .int .i64 y'.nx, .slice y'.ta y'.tn y'.tc, .slice y'.ka y'.kn y'.kc]) := Lib.hid (by rw [HY.out]; exact H4.out)
              have HSTE : Hid ((1 : Int) = 1) := Lib.hid rfl
              have u0 := H4.out.cell 0
              have u1 := H4.out.cell 1
              have u2 := H4.out.cell 2
              have u3 := H4.out.cell 3
              have u4 := H4.out.cell 4
              have u5 := H4.out.cell 5
              have u0 : wc.cell? ⟨w.heap.size, 0, none⟩ = some (.int .i64 (y').st) := u0
              have u1 : wc.cell? ⟨w.heap.size, 1, none⟩ = some (.int .i64 (y').tt) := u1
              have u2 : wc.cell? ⟨w.heap.size, 2, none⟩ = some (.int .i64 (y').of) := u2
              have u3 : wc.cell? ⟨w.heap.size, 3, none⟩ = some (.int .i64 (y').nx) := u3
              have u4 : wc.cell? ⟨w.heap.size, 4, none⟩ = some (.slice (y').ta (y').tn (y').tc) := u4
              have u5 : wc.cell? ⟨w.heap.size, 5, none⟩ = some (.slice (y').ka (y').kn (y').kc) := u5
              go_upto_region 13 with fail
              refine wp_region_noPanic ?_
              refine wp_region_late (fun _ => True) (fun w' => Below wc.heap.size wc w') [2] (by kernel_rfl) trivial ((Below.refl _ wc).drew) (fun hHeld0 hHeld => ?_)
              refine regG_tk (v := ?_) 0 61 rfl rfl (by kernel_rfl) (by kernel_rfl) (by kernel_rfl) (by kernel_rfl) (by kernel_rfl) (fun _ _ _ h => h) (by rfl) ?_ (by assumption) (by assumption) ?_
              rotate_left
              · (intro w3 hS; (try dsimp only at hS); (have j0 := cell_later hS u0; have j1 := cell_later hS u1; have j2 := cell_later hS u2; have j3 := cell_later hS u3; have j4 := cell_later hS u4; have j5 := cell_later hS u5); go_simp; (try with_reducible rfl))
              simp only [List.setIfInBounds_toArray, List.set_cons_zero, List.set_cons_succ]
              refine reg0_tk (v := ?_) 1 8 rfl rfl (by kernel_rfl) (by kernel_rfl) (by kernel_rfl) (by kernel_rfl) (by kernel_rfl) (fun _ _ _ h => h) (by rfl) ?_ (by assumption) (by assumption) ?_
              rotate_left
              · (intro w3 hS; (try dsimp only at hS); skip; go_simp; (try with_reducible rfl))
              simp only [List.setIfInBounds_toArray, List.set_cons_zero, List.set_cons_succ]
              have H9d := H9.out
              have t0 : wc.cell? ⟨w.heap.size + 2, 0, none⟩ = some (.int .i64 0) := H9d.cell 0
              have t1 : wc.cell? ⟨w.heap.size + 2, 1, none⟩ = some (.int .i64 0) := H9d.cell 1
              have t2 : wc.cell? ⟨w.heap.size + 2, 2, none⟩ = some (.int .i64 0) := H9d.cell 2
              have t3 : wc.cell? ⟨w.heap.size + 2, 3, none⟩ = some (.int .i64 0) := H9d.cell 3
              have t4 : wc.cell? ⟨w.heap.size + 2, 4, none⟩ = some (.slice none 0 0) := H9d.cell 4
              have t5 : wc.cell? ⟨w.heap.size + 2, 5, none⟩ = some (.slice none 0 0) := H9d.cell 5
              have y0 := H9d.frozen 0
              have y1 := H9d.frozen 1
              have y2 := H9d.frozen 2
              have y3 := H9d.frozen 3
              have y4 := H9d.frozen 4
              have y5 := H9d.frozen 5
              refine wpAnyG_one (i := 2) (by kernel_rfl) rfl (by rfl) (by kernel_rfl) (fun K hK => ?_)
              go_simp
              refine hK _ _ trivial ?_
              clear hK K
              try simp only [Act.put, List.setIfInBounds_toArray, List.set_cons_zero, List.set_cons_succ]
              refine wpAnyG_done (by kernel_rfl) ?_ _
              refine NoPanic.normal ?_
              obtain ⟨wf, HWF⟩ : ∃ V : World, Hid (V = ((((((wc.setCell ⟨w.heap.size + 2, 0, none⟩ (.int .i64 (y').st)).setCell ⟨w.heap.size + 2, 1, none⟩ (.int .i64 (y').tt)).setCell ⟨w.heap.size + 2, 2, none⟩ (.int .i64 (y').of)).setCell ⟨w.heap.size + 2, 3, none⟩ (.int .i64 (y').nx)).setCell ⟨w.heap.size + 2, 4, none⟩ (.slice (y').ta (y').tn (y').tc)).setCell ⟨w.heap.size + 2, 5, none⟩ (.slice (y').ka (y').kn (y').kc)).drew) := ⟨_, Lib.hid rfl⟩
              have hkf : Kx (fun b => b = w.heap.size + 2) wc wf := by rw [HWF.out]; exact ((((((Kx.refl (fun b => b = w.heap.size + 2) wc).setCell (.inl rfl) _).setCell (.inl rfl) _).setCell (.inl rfl) _).setCell (.inl rfl) _).setCell (.inl rfl) _).setCell (.inl rfl) _ |>.drew
              have hb9 : BoxN wf (w.heap.size + 2) 45 #[.int .i64 (y').st, .int .i64 (y').tt, .int .i64 (y').of, .int .i64 (y').nx, .slice (y').ta (y').tn (y').tc, .slice (y').ka (y').kn (y').kc] := by
                rw [HWF.out]
                exact ((((((H9d.setc 0 _).setc 1 _).setc 2 _).setc 3 _).setc 4 _).setc 5 _).below (Below.refl _ _).drew
              have hBf : Below w.heap.size w wf := HB.out.trans (hkf.below HB.out.size (fun b e => by omega))
              have r0 : wf.cell? ⟨w.heap.size + 2, 0, none⟩ = some (.int .i64 (y').st) := hb9.cell 0
              have r1 : wf.cell? ⟨w.heap.size + 2, 1, none⟩ = some (.int .i64 (y').tt) := hb9.cell 1
              have r2 : wf.cell? ⟨w.heap.size + 2, 2, none⟩ = some (.int .i64 (y').of) := hb9.cell 2
              have r3 : wf.cell? ⟨w.heap.size + 2, 3, none⟩ = some (.int .i64 (y').nx) := hb9.cell 3
              have r4 : wf.cell? ⟨w.heap.size + 2, 4, none⟩ = some (.slice (y').ta (y').tn (y').tc) := hb9.cell 4
              have r5 : wf.cell? ⟨w.heap.size + 2, 5, none⟩ = some (.slice (y').ka (y').kn (y').kc) := hb9.cell 5
              have HKF := Lib.hid hkf
              have HBF := Lib.hid hBf
              rw [← HWF.out]
              clear HWF hkf hBf hb9 t0 t1 t2 t3 t4 t5 y0 y1 y2 y3 y4 y5 u0 u1 u2 u3 u4 u5 H9d
              go_wp2_with fail
              refine bodyPost_ret (v := .tuple #[.int .i64 5, .agg #[.int .i64 (y').st, .int .i64 (y').tt, .int .i64 (y').of, .int .i64 (y').nx, .slice (y').ta (y').tn (y').tc, .slice (y').ka (y').kn (y').kc]]) (by simp [results, Try.results75, go_sem, r0, r1, r2, r3, r4, r5]) rfl ⟨y', rfl, ?_⟩
              have hot := HKF.out.owns (fun b e e2 => row_ne HOT.out H9.out (by decide) b e e2.symm) HOT.out
              have hok := HKF.out.owns (fun b e e2 => row_ne HOK.out H9.out (by decide) b e e2.symm) HOK.out
              refine ⟨?_, HBF.out, fun b e => .inr ?_, fun b e => .inr ?_, fun b e1 e2 => ?_⟩
              · rw [HY.out, HCE.out]
                exact ⟨(by first | exact HSTE.out | rfl), HC.out.tt, HC.out.of, HC.out.nx, own_mono hot hB, own_mono hok (by omega)⟩
              · rw [HY.out] at e
                exact (hot.lt b e).1
              · rw [HY.out] at e
                have := (hok.lt b e).1
                omega
              · rw [HY.out] at e1 e2
                have h1 := HTL.out b e1
                have h2 := (hok.lt b e2).1
                omega
          · have HSTE0 : Hid ((if false = true then (4 : Int) else if st = 0 ∨ st = 3 then 1 else st) = st) := Lib.hid (by rw [if_neg (by decide), if_neg c1])
            rw [HSTE0.out] at HCE
            have d2 : (st == 0) = false := by simp; omega
            have d3 : (st == 3) = false := by simp; omega
            clear c1
            obtain ⟨y', HY⟩ : ∃ z : Cq, Hid (z = { y with ta := ta, tn := l1.length, tc := tc, ka := ka, kn := l2.length, kc := kc }) := ⟨_, Lib.hid rfl⟩
            replace H4 : Hid (BoxN wc w.heap.size 45 #[.int .i64 y'.st, .int .i64 y'.tt, .int .i64 y'.of, .int .i64 y'.nx, .slice y'.ta y'.tn y'.tc, .slice y'.ka y'.kn y'.kc]) := Lib.hid (by rw [HY.out]; exact H4.out)
            have HSTE : Hid (y.st = st) := HST
            have u0 := H4.out.cell 0
            have u1 := H4.out.cell 1
            have u2 := H4.out.cell 2
            have u3 := H4.out.cell 3
            have u4 := H4.out.cell 4
            have u5 := H4.out.cell 5
            have u0 : wc.cell? ⟨w.heap.size, 0, none⟩ = some (.int .i64 (y').st) := u0
            have u1 : wc.cell? ⟨w.heap.size, 1, none⟩ = some (.int .i64 (y').tt) := u1
            have u2 : wc.cell? ⟨w.heap.size, 2, none⟩ = some (.int .i64 (y').of) := u2
            have u3 : wc.cell? ⟨w.heap.size, 3, none⟩ = some (.int .i64 (y').nx) := u3
            have u4 : wc.cell? ⟨w.heap.size, 4, none⟩ = some (.slice (y').ta (y').tn (y').tc) := u4
            have u5 : wc.cell? ⟨w.heap.size, 5, none⟩ = some (.slice (y').ka (y').kn (y').kc) := u5
            go_upto_region 13 with fail
            refine wp_region_noPanic ?_
            refine wp_region_late (fun _ => True) (fun w' => Below wc.heap.size wc w') [2] (by kernel_rfl) trivial ((Below.refl _ wc).drew) (fun hHeld0 hHeld => ?_)
            refine regG_tk (v := ?_) 0 61 rfl rfl (by kernel_rfl) (by kernel_rfl) (by kernel_rfl) (by kernel_rfl) (by kernel_rfl) (fun _ _ _ h => h) (by rfl) ?_ (by assumption) (by assumption) ?_
            rotate_left
            · (intro w3 hS; (try dsimp only at hS); (have j0 := cell_later hS u0; have j1 := cell_later hS u1; have j2 := cell_later hS u2; have j3 := cell_later hS u3; have j4 := cell_later hS u4; have j5 := cell_later hS u5); go_simp; (try with_reducible rfl))
            simp only [List.setIfInBounds_toArray, List.set_cons_zero, List.set_cons_succ]
            refine reg0_tk (v := ?_) 1 8 rfl rfl (by kernel_rfl) (by kernel_rfl) (by kernel_rfl) (by kernel_rfl) (by kernel_rfl) (fun _ _ _ h => h) (by rfl) ?_ (by assumption) (by assumption) ?_
            rotate_left
            · (intro w3 hS; (try dsimp only at hS); skip; go_simp; (try with_reducible rfl))
            simp only [List.setIfInBounds_toArray, List.set_cons_zero, List.set_cons_succ]
            have H9d := H9.out
            have t0 : wc.cell? ⟨w.heap.size + 2, 0, none⟩ = some (.int .i64 0) := H9d.cell 0
            have t1 : wc.cell? ⟨w.heap.size + 2, 1, none⟩ = some (.int .i64 0) := H9d.cell 1
            have t2 : wc.cell? ⟨w.heap.size + 2, 2, none⟩ = some (.int .i64 0) := H9d.cell 2
            have t3 : wc.cell? ⟨w.heap.size + 2, 3, none⟩ = some (.int .i64 0) := H9d.cell 3
            have t4 : wc.cell? ⟨w.heap.size + 2, 4, none⟩ = some (.slice none 0 0) := H9d.cell 4
            have t5 : wc.cell? ⟨w.heap.size + 2, 5, none⟩ = some (.slice none 0 0) := H9d.cell 5
            have y0 := H9d.frozen 0
            have y1 := H9d.frozen 1
            have y2 := H9d.frozen 2
            have y3 := H9d.frozen 3
            have y4 := H9d.frozen 4
            have y5 := H9d.frozen 5
            refine wpAnyG_one (i := 2) (by kernel_rfl) rfl (by rfl) (by kernel_rfl) (fun K hK => ?_)
            go_simp
            refine hK _ _ trivial ?_
            clear hK K
            try simp only [Act.put, List.setIfInBounds_toArray, List.set_cons_zero, List.set_cons_succ]
            refine wpAnyG_done (by kernel_rfl) ?_ _
            refine NoPanic.normal ?_
            obtain ⟨wf, HWF⟩ : ∃ V : World, Hid (V = ((((((wc.setCell ⟨w.heap.size + 2, 0, none⟩ (.int .i64 (y').st)).setCell ⟨w.heap.size + 2, 1, none⟩ (.int .i64 (y').tt)).setCell ⟨w.heap.size + 2, 2, none⟩ (.int .i64 (y').of)).setCell ⟨w.heap.size + 2, 3, none⟩ (.int .i64 (y').nx)).setCell ⟨w.heap.size + 2, 4, none⟩ (.slice (y').ta (y').tn (y').tc)).setCell ⟨w.heap.size + 2, 5, none⟩ (.slice (y').ka (y').kn (y').kc)).drew) := ⟨_, Lib.hid rfl⟩
            have hkf : Kx (fun b => b = w.heap.size + 2) wc wf := by rw [HWF.out]; exact ((((((Kx.refl (fun b => b = w.heap.size + 2) wc).setCell (.inl rfl) _).setCell (.inl rfl) _).setCell (.inl rfl) _).setCell (.inl rfl) _).setCell (.inl rfl) _).setCell (.inl rfl) _ |>.drew
            have hb9 : BoxN wf (w.heap.size + 2) 45 #[.int .i64 (y').st, .int .i64 (y').tt, .int .i64 (y').of, .int .i64 (y').nx, .slice (y').ta (y').tn (y').tc, .slice (y').ka (y').kn (y').kc] := by
              rw [HWF.out]
              exact ((((((H9d.setc 0 _).setc 1 _).setc 2 _).setc 3 _).setc 4 _).setc 5 _).below (Below.refl _ _).drew
            have hBf : Below w.heap.size w wf := HB.out.trans (hkf.below HB.out.size (fun b e => by omega))
            have r0 : wf.cell? ⟨w.heap.size + 2, 0, none⟩ = some (.int .i64 (y').st) := hb9.cell 0
            have r1 : wf.cell? ⟨w.heap.size + 2, 1, none⟩ = some (.int .i64 (y').tt) := hb9.cell 1
            have r2 : wf.cell? ⟨w.heap.size + 2, 2, none⟩ = some (.int .i64 (y').of) := hb9.cell 2
            have r3 : wf.cell? ⟨w.heap.size + 2, 3, none⟩ = some (.int .i64 (y').nx) := hb9.cell 3
            have r4 : wf.cell? ⟨w.heap.size + 2, 4, none⟩ = some (.slice (y').ta (y').tn (y').tc) := hb9.cell 4
            have r5 : wf.cell? ⟨w.heap.size + 2, 5, none⟩ = some (.slice (y').ka (y').kn (y').kc) := hb9.cell 5
            have HKF := Lib.hid hkf
            have HBF := Lib.hid hBf
            rw [← HWF.out]
            clear HWF hkf hBf hb9 t0 t1 t2 t3 t4 t5 y0 y1 y2 y3 y4 y5 u0 u1 u2 u3 u4 u5 H9d
            go_wp2_with fail
            refine bodyPost_ret (v := .tuple #[.int .i64 5, .agg #[.int .i64 (y').st, .int .i64 (y').tt, .int .i64 (y').of, .int .i64 (y').nx, .slice (y').ta (y').tn (y').tc, .slice (y').ka (y').kn (y').kc]]) (by simp [results, Try.results75, go_sem, r0, r1, r2, r3, r4, r5]) rfl ⟨y', rfl, ?_⟩
            have hot := HKF.out.owns (fun b e e2 => row_ne HOT.out H9.out (by decide) b e e2.symm) HOT.out
            have hok := HKF.out.owns (fun b e e2 => row_ne HOK.out H9.out (by decide) b e e2.symm) HOK.out
            refine ⟨?_, HBF.out, fun b e => .inr ?_, fun b e => .inr ?_, fun b e1 e2 => ?_⟩
            · rw [HY.out, HCE.out]
              exact ⟨(by first | exact HSTE.out | rfl), HC.out.tt, HC.out.of, HC.out.nx, own_mono hot hB, own_mono hok (by omega)⟩
            · rw [HY.out] at e
              exact (hot.lt b e).1
            · rw [HY.out] at e
              have := (hok.lt b e).1
              omega
            · rw [HY.out] at e1 e2
              have h1 := HTL.out b e1
              have h2 := (hok.lt b e2).1
              omega
        · have HSTE0 : Hid ((if true = true then (4 : Int) else if st = 0 ∨ st = 3 then 1 else st) = 4) := Lib.hid (if_pos rfl)
          rw [HSTE0.out] at HCE
          have b40 := H4.out.setc 0 (.int .i64 4)
          have hk0 : Kx (fun b => b = w.heap.size) wc (wc.setCell ⟨w.heap.size, 0, none⟩ (.int .i64 4)) := kx_cell _ _ _ _
          have h9 := hk0.box (by omega) H9.out
          have ho0 := hk0.owns (fun b e e2 => row_ne HOK.out H4.out (by decide) b e e2.symm) HOK.out
          have ht0 := hk0.owns (fun b e e2 => row_ne HOT.out H4.out (by decide) b e e2.symm) HOT.out
          have hB9 := HB.out.trans (hk0.below (n := w.heap.size) HB.out.size (fun b e => by omega))
          obtain ⟨we, HWE⟩ : ∃ V : World, Hid (V = wc.setCell ⟨w.heap.size, 0, none⟩ (.int .i64 4)) := ⟨_, Lib.hid rfl⟩
          rw [← HWE.out] at b40 h9 ho0 ht0 hB9
          replace HOK := Lib.hid ho0
          replace HOT := Lib.hid ht0
          replace H4 := Lib.hid b40
          replace H9 := Lib.hid h9
          replace HB := Lib.hid hB9
          clear b40 hk0 h9 ho0 ht0 hB9
          go_upto_region 13 with fail
          rw [← HWE.out]
          clear HWE v0 f0
          obtain ⟨wc, rfl⟩ : ∃ V : World, V = we := ⟨_, rfl⟩
          obtain ⟨y', HY⟩ : ∃ z : Cq, Hid (z = { y with st := 4, ta := ta, tn := l1.length, tc := tc, ka := ka, kn := l2.length, kc := kc }) := ⟨_, Lib.hid rfl⟩
          replace H4 : Hid (BoxN wc w.heap.size 45 #[.int .i64 y'.st, .int .i64 y'.tt, .int .i64 y'.of, .int .i64 y'.nx, .slice y'.ta y'.tn y'.tc, .slice y'.ka y'.kn y'.kc]) := Lib.hid (by rw [HY.out]; exact H4.out)
          have HSTE : Hid ((4 : Int) = 4) := Lib.hid rfl
          have u0 := H4.out.cell 0
          have u1 := H4.out.cell 1
          have u2 := H4.out.cell 2
          have u3 := H4.out.cell 3
          have u4 := H4.out.cell 4
          have u5 := H4.out.cell 5
          have u0 : wc.cell? ⟨w.heap.size, 0, none⟩ = some (.int .i64 (y').st) := u0
          have u1 : wc.cell? ⟨w.heap.size, 1, none⟩ = some (.int .i64 (y').tt) := u1
          have u2 : wc.cell? ⟨w.heap.size, 2, none⟩ = some (.int .i64 (y').of) := u2
          have u3 : wc.cell? ⟨w.heap.size, 3, none⟩ = some (.int .i64 (y').nx) := u3
          have u4 : wc.cell? ⟨w.heap.size, 4, none⟩ = some (.slice (y').ta (y').tn (y').tc) := u4
          have u5 : wc.cell? ⟨w.heap.size, 5, none⟩ = some (.slice (y').ka (y').kn (y').kc) := u5
          go_upto_region 13 with fail
          refine wp_region_noPanic ?_
          refine wp_region_late (fun _ => True) (fun w' => Below wc.heap.size wc w') [2] (by kernel_rfl) trivial ((Below.refl _ wc).drew) (fun hHeld0 hHeld => ?_)
          refine regG_tk (v := ?_) 0 61 rfl rfl (by kernel_rfl) (by kernel_rfl) (by kernel_rfl) (by kernel_rfl) (by kernel_rfl) (fun _ _ _ h => h) (by rfl) ?_ (by assumption) (by assumption) ?_
          rotate_left
          · (intro w3 hS; (try dsimp only at hS); (have j0 := cell_later hS u0; have j1 := cell_later hS u1; have j2 := cell_later hS u2; have j3 := cell_later hS u3; have j4 := cell_later hS u4; have j5 := cell_later hS u5); go_simp; (try with_reducible rfl))
          simp only [List.setIfInBounds_toArray, List.set_cons_zero, List.set_cons_succ]
          refine reg0_tk (v := ?_) 1 8 rfl rfl (by kernel_rfl) (by kernel_rfl) (by kernel_rfl) (by kernel_rfl) (by kernel_rfl) (fun _ _ _ h => h) (by rfl) ?_ (by assumption) (by assumption) ?_
          rotate_left
          · (intro w3 hS; (try dsimp only at hS); skip; go_simp; (try with_reducible rfl))
          simp only [List.setIfInBounds_toArray, List.set_cons_zero, List.set_cons_succ]
          have H9d := H9.out
          have t0 : wc.cell? ⟨w.heap.size + 2, 0, none⟩ = some (.int .i64 0) := H9d.cell 0
          have t1 : wc.cell? ⟨w.heap.size + 2, 1, none⟩ = some (.int .i64 0) := H9d.cell 1
          have t2 : wc.cell? ⟨w.heap.size + 2, 2, none⟩ = some (.int .i64 0) := H9d.cell 2
          have t3 : wc.cell? ⟨w.heap.size + 2, 3, none⟩ = some (.int .i64 0) := H9d.cell 3
          have t4 : wc.cell? ⟨w.heap.size + 2, 4, none⟩ = some (.slice none 0 0) := H9d.cell 4
          have t5 : wc.cell? ⟨w.heap.size + 2, 5, none⟩ = some (.slice none 0 0) := H9d.cell 5
          have y0 := H9d.frozen 0
          have y1 := H9d.frozen 1
          have y2 := H9d.frozen 2
          have y3 := H9d.frozen 3
          have y4 := H9d.frozen 4
          have y5 := H9d.frozen 5
          refine wpAnyG_one (i := 2) (by kernel_rfl) rfl (by rfl) (by kernel_rfl) (fun K hK => ?_)
          go_simp
          refine hK _ _ trivial ?_
          clear hK K
          try simp only [Act.put, List.setIfInBounds_toArray, List.set_cons_zero, List.set_cons_succ]
          refine wpAnyG_done (by kernel_rfl) ?_ _
          refine NoPanic.normal ?_
          obtain ⟨wf, HWF⟩ : ∃ V : World, Hid (V = ((((((wc.setCell ⟨w.heap.size + 2, 0, none⟩ (.int .i64 (y').st)).setCell ⟨w.heap.size + 2, 1, none⟩ (.int .i64 (y').tt)).setCell ⟨w.heap.size + 2, 2, none⟩ (.int .i64 (y').of)).setCell ⟨w.heap.size + 2, 3, none⟩ (.int .i64 (y').nx)).setCell ⟨w.heap.size + 2, 4, none⟩ (.slice (y').ta (y').tn (y').tc)).setCell ⟨w.heap.size + 2, 5, none⟩ (.slice (y').ka (y').kn (y').kc)).drew) := ⟨_, Lib.hid rfl⟩
          have hkf : Kx (fun b => b = w.heap.size + 2) wc wf := by rw [HWF.out]; exact ((((((Kx.refl (fun b => b = w.heap.size + 2) wc).setCell (.inl rfl) _).setCell (.inl rfl) _).setCell (.inl rfl) _).setCell (.inl rfl) _).setCell (.inl rfl) _).setCell (.inl rfl) _ |>.drew
          have hb9 : BoxN wf (w.heap.size + 2) 45 #[.int .i64 (y').st, .int .i64 (y').tt, .int .i64 (y').of, .int .i64 (y').nx, .slice (y').ta (y').tn (y').tc, .slice (y').ka (y').kn (y').kc] := by
            rw [HWF.out]
            exact ((((((H9d.setc 0 _).setc 1 _).setc 2 _).setc 3 _).setc 4 _).setc 5 _).below (Below.refl _ _).drew
          have hBf : Below w.heap.size w wf := HB.out.trans (hkf.below HB.out.size (fun b e => by omega))
          have r0 : wf.cell? ⟨w.heap.size + 2, 0, none⟩ = some (.int .i64 (y').st) := hb9.cell 0
          have r1 : wf.cell? ⟨w.heap.size + 2, 1, none⟩ = some (.int .i64 (y').tt) := hb9.cell 1
          have r2 : wf.cell? ⟨w.heap.size + 2, 2, none⟩ = some (.int .i64 (y').of) := hb9.cell 2
          have r3 : wf.cell? ⟨w.heap.size + 2, 3, none⟩ = some (.int .i64 (y').nx) := hb9.cell 3
          have r4 : wf.cell? ⟨w.heap.size + 2, 4, none⟩ = some (.slice (y').ta (y').tn (y').tc) := hb9.cell 4
          have r5 : wf.cell? ⟨w.heap.size + 2, 5, none⟩ = some (.slice (y').ka (y').kn (y').kc) := hb9.cell 5
          have HKF := Lib.hid hkf
          have HBF := Lib.hid hBf
          rw [← HWF.out]
          clear HWF hkf hBf hb9 t0 t1 t2 t3 t4 t5 y0 y1 y2 y3 y4 y5 u0 u1 u2 u3 u4 u5 H9d
          go_wp2_with fail
          refine bodyPost_ret (v := .tuple #[.int .i64 5, .agg #[.int .i64 (y').st, .int .i64 (y').tt, .int .i64 (y').of, .int .i64 (y').nx, .slice (y').ta (y').tn (y').tc, .slice (y').ka (y').kn (y').kc]]) (by simp [results, Try.results75, go_sem, r0, r1, r2, r3, r4, r5]) rfl ⟨y', rfl, ?_⟩
          have hot := HKF.out.owns (fun b e e2 => row_ne HOT.out H9.out (by decide) b e e2.symm) HOT.out
          have hok := HKF.out.owns (fun b e e2 => row_ne HOK.out H9.out (by decide) b e e2.symm) HOK.out
          refine ⟨?_, HBF.out, fun b e => .inr ?_, fun b e => .inr ?_, fun b e1 e2 => ?_⟩
          · rw [HY.out, HCE.out]
            exact ⟨(by first | exact HSTE.out | rfl), HC.out.tt, HC.out.of, HC.out.nx, own_mono hot hB, own_mono hok (by omega)⟩
          · rw [HY.out] at e
            exact (hot.lt b e).1
          · rw [HY.out] at e
            have := (hok.lt b e).1
            omega
          · rw [HY.out] at e1 e2
            have h1 := HTL.out b e1
            have h2 := (hok.lt b e2).1
            omega
end Go.Proofs.Ytnkpjfogjkjcfaa
