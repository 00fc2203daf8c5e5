


/- Timers: the program puts in, opens, adds, cancels. -/
import Derived.Test.YtigmhglkohjlhaaRh
namespace Go.Proofs.Ytigmhglkohjlhaa
open Go.RowKit
set_option linter.unusedSimpArgs false
set_option linter.unusedVariables false
set_option maxRecDepth 100000

theorem TM.rd {w : World} {base P : Nat} {v : Value} {l : List Tm} (h : TM w base P v l) : RdM w v l := RdL.of_owns h.row
theorem TM.hd {w : World} {base P : Nat} {v : Value} {l : List Tm} (h : TM w base P v l) : w.cell? ⟨P, 0, none⟩ = some v := (h.box.cell 0).trans rfl
set_option maxHeartbeats 4000000 in
theorem put_any (w : World) (base P : Nat) (v : Value) (l : List Tm) (t : Tm) (hl : l.length ≤ 1000) (h : TM w base P v l) : Calls Try.prog 34 #[.pointer (some ⟨P, 0, none⟩), t.v] w fun e w' => e = .returned (.int .i64 (putE l t)) ∧ ∃ v', TM w' base P v' (if putE l t = 0 then putL l t else l) ∧ TR w P v w' v' := by
  obtain ⟨W, hW⟩ : ∃ W : World, W = w.alloc (.cells #[.int .i64 t.tk, .int .i64 t.kd, .int .i64 t.nd, .int .u64 t.sq, .int .i64 t.of] 41) := ⟨_, rfl⟩
  have hB : Below w.heap.size w W := by rw [hW]; exact (by repeat (first | assumption | exact Below.refl _ _ | apply Below.al | apply below_drewN | apply Below.drew | refine Below.next ?_ (by assumption)))
  have bT : BoxN W w.heap.size 41 #[.int .i64 t.tk, .int .i64 t.kd, .int .i64 t.nd, .int .u64 t.sq, .int .i64 t.of] := by rw [hW]; exact BoxN.new _ _ _
  obtain ⟨E, hE⟩ : ∃ E, putE l t = E := ⟨_, rfl⟩
  have HE := Lib.hid hE
  obtain ⟨a, c, rfl⟩ := h.form
  have HT := Lib.hid (h.keep hB)
  have HTR := Lib.hid (TR.of_below (P := P) (v := .slice a l.length c) hB)
  obtain ⟨N, hN⟩ : ∃ N, l.length = N := ⟨_, rfl⟩
  rw [hN] at HT HTR hl
  obtain ⟨R, HRL⟩ : ∃ R, Hid ((if E = 0 then putL l t else l) = R) := ⟨_, rfl⟩
  rw [hE, hN, HRL.out]
  have HN := Lib.hid hN
  obtain ⟨e1, HE1⟩ : ∃ e1, Hid (valE t = e1) := ⟨_, rfl⟩
  obtain ⟨f, HF⟩ : ∃ f, Hid (fnd l t = f) := ⟨_, rfl⟩
  have hdef : E = if e1 ≠ 0 then e1 else if 0 ≤ f then 9 else if N = 1000 then 5 else 0 := by rw [← hE]; unfold putE; rw [HE1.out, HF.out, hN]
  clear h hE hN
  go_enter Try.func34, Try.ntmps34
  go_upto_region 1 with fail
  rw [← hW]
  clear hW
  have c0 : W.cell? ⟨w.heap.size, 0, none⟩ = some (.int .i64 t.tk) := (bT.cell 0).trans rfl
  have c1 : W.cell? ⟨w.heap.size, 1, none⟩ = some (.int .i64 t.kd) := (bT.cell 1).trans rfl
  have c2 : W.cell? ⟨w.heap.size, 2, none⟩ = some (.int .i64 t.nd) := (bT.cell 2).trans rfl
  have c3 : W.cell? ⟨w.heap.size, 3, none⟩ = some (.int .u64 t.sq) := (bT.cell 3).trans rfl
  have c4 : W.cell? ⟨w.heap.size, 4, none⟩ = some (.int .i64 t.of) := (bT.cell 4).trans rfl
  go_wp2_with fail
  refine (valid_any t _ e1 HE1.out).mono ?_
  rintro e w1 ⟨rfl, hb1⟩
  have c0 := cell_later hb1 c0
  have c1 := cell_later hb1 c1
  have c2 := cell_later hb1 c2
  have c3 := cell_later hb1 c3
  have c4 := cell_later hb1 c4
  have HT1 := Lib.hid (HT.out.keep hb1)
  have HTR1 := Lib.hid (HTR.out.next hb1)
  clear hb1 bT hB HT HTR
  by_cases h1 : e1 ≠ 0
  · have d0 : (e1 != 0) = true := by simpa using h1
    have HX : Hid (E = e1) := by unfold Hid; rw [hdef, if_pos h1]
    have HNZ : Hid (E ≠ 0) := by unfold Hid; rw [HX.out]; exact h1
    clear h1 hdef
    go_wp2_with fail
    go_ret
    exact ⟨by rw [HX.out]; rfl, _, by rw [← HRL.out, if_neg HNZ.out]; exact HT1.out, HTR1.out⟩
  · obtain rfl : e1 = 0 := by omega
    rw [if_neg h1] at hdef
    have d0 : ((0 : Int) != 0) = false := rfl
    have h0 : w1.cell? ⟨P, 0, none⟩ = some (.slice a N c) := HT1.out.hd
    clear h1
    go_upto_region 4 with fail
    refine wp_region_calm (fun w' => Below w1.heap.size w1 w') 99 (by kernel_rfl) ((Below.refl _ w1).drew) ?_
    refine cm_run 0 13 (v := ?_) rfl rfl (by kernel_rfl) (by kernel_rfl) (by kernel_rfl) (by kernel_rfl) (by kernel_rfl) (fun _ _ _ h => h) (by rfl) ?_ ?_
    rotate_left
    · (intro wS hS; skip; go_simp; (try with_reducible rfl))
    simp only [List.setIfInBounds_toArray, List.set_cons_zero, List.set_cons_succ]
    refine cm_run 1 14 (v := ?_) rfl rfl (by kernel_rfl) (by kernel_rfl) (by kernel_rfl) (by kernel_rfl) (by kernel_rfl) (fun _ _ _ h => h) (by rfl) ?_ ?_
    rotate_left
    · (intro wS hS; skip; go_simp; (try with_reducible rfl))
    simp only [List.setIfInBounds_toArray, List.set_cons_zero, List.set_cons_succ]
    refine cm_run 2 15 (v := ?_) rfl rfl (by kernel_rfl) (by kernel_rfl) (by kernel_rfl) (by kernel_rfl) (by kernel_rfl) (fun _ _ _ h => h) (by rfl) ?_ ?_
    rotate_left
    · (intro wS hS; have hg := cell_later hS h0; go_simp; (try with_reducible rfl))
    simp only [List.setIfInBounds_toArray, List.set_cons_zero, List.set_cons_succ]
    refine cm_run 3 16 (v := ?_) rfl rfl (by kernel_rfl) (by kernel_rfl) (by kernel_rfl) (by kernel_rfl) (by kernel_rfl) (fun _ _ _ h => h) (by rfl) ?_ ?_
    rotate_left
    · (intro wS hS; skip; go_simp; (try with_reducible rfl))
    simp only [List.setIfInBounds_toArray, List.set_cons_zero, List.set_cons_succ]
    refine cm_run 4 17 (v := ?_) rfl rfl (by kernel_rfl) (by kernel_rfl) (by kernel_rfl) (by kernel_rfl) (by kernel_rfl) (fun _ _ _ h => h) (by rfl) ?_ ?_
    rotate_left
    · (intro wS hS; have hg := cell_later hS c1; go_simp; (try with_reducible rfl))
    simp only [List.setIfInBounds_toArray, List.set_cons_zero, List.set_cons_succ]
    refine cm_run 5 18 (v := ?_) rfl rfl (by kernel_rfl) (by kernel_rfl) (by kernel_rfl) (by kernel_rfl) (by kernel_rfl) (fun _ _ _ h => h) (by rfl) ?_ ?_
    rotate_left
    · (intro wS hS; skip; go_simp; (try with_reducible rfl))
    simp only [List.setIfInBounds_toArray, List.set_cons_zero, List.set_cons_succ]
    refine cm_run 6 19 (v := ?_) rfl rfl (by kernel_rfl) (by kernel_rfl) (by kernel_rfl) (by kernel_rfl) (by kernel_rfl) (fun _ _ _ h => h) (by rfl) ?_ ?_
    rotate_left
    · (intro wS hS; (have x2 := cell_later hS c2; have x3 := cell_later hS c3; have x4 := cell_later hS c4); go_simp; (try with_reducible rfl))
    simp only [List.setIfInBounds_toArray, List.set_cons_zero, List.set_cons_succ]
    refine cm_call 7 20 36 (v := .int .i64 f) (args := ?_) rfl rfl (by kernel_rfl) (by kernel_rfl) (by kernel_rfl) (by kernel_rfl) (by kernel_rfl) (fun _ _ _ h => h) (by rfl) ?_ ?_ ?_
    rotate_left 1
    · (intro wS hS; go_simp; (try with_reducible rfl))
    · (intro wS hS; refine (find_any _ l t _ (by have := (HT1.out.keep hS).rd; exact this)).mono ?_; (rw [HF.out]; rintro e w2 ⟨rfl, hb⟩; exact ⟨rfl, Below.next hS hb⟩))
    simp only [List.setIfInBounds_toArray, List.set_cons_zero, List.set_cons_succ]
    obtain ⟨bf, d2⟩ : ∃ bf, decide (0 ≤ f) = bf := ⟨_, rfl⟩
    refine cm_run 8 21 (v := ?_) rfl rfl (by kernel_rfl) (by kernel_rfl) (by kernel_rfl) (by kernel_rfl) (by kernel_rfl) (fun _ _ _ h => h) (by rfl) ?_ ?_
    rotate_left
    · (intro wS hS; skip; go_simp; (try with_reducible rfl))
    simp only [List.setIfInBounds_toArray, List.set_cons_zero, List.set_cons_succ]
    refine cm_run 9 12 (v := ?_) rfl rfl (by kernel_rfl) (by kernel_rfl) (by kernel_rfl) (by kernel_rfl) (by kernel_rfl) (fun _ _ _ h => h) (by rfl) ?_ ?_
    rotate_left
    · (intro wS hS; skip; go_simp; (try with_reducible rfl))
    simp only [List.setIfInBounds_toArray, List.set_cons_zero, List.set_cons_succ]
    refine cm_done (by kernel_rfl) ?_
    intro wS hS
    refine NoPanic.normal ?_
    have HT2 := Lib.hid (HT1.out.keep hS)
    have HTR2 := Lib.hid (HTR1.out.next hS)
    have c0 := cell_later hS c0
    have c1 := cell_later hS c1
    have c2 := cell_later hS c2
    have c3 := cell_later hS c3
    have c4 := cell_later hS c4
    have h0 := cell_later hS h0
    clear hS HT1 HTR1
    by_cases h2 : 0 ≤ f
    · obtain rfl : bf = true := by rw [← d2]; exact yb h2
      have HX : Hid (E = 9) := by unfold Hid; rw [hdef, if_pos h2]
      have HNZ : Hid (E ≠ 0) := by unfold Hid; rw [HX.out]; decide
      clear h2 hdef d2
      go_wp2_with fail
      go_ret
      exact ⟨by rw [HX.out]; rfl, _, by rw [← HRL.out, if_neg HNZ.out]; exact HT2.out, HTR2.out⟩
    · obtain rfl : bf = false := by rw [← d2]; exact nb h2
      rw [if_neg h2] at hdef
      clear h2 d2
      by_cases h3 : N = 1000
      · have d3 : ((N : Int) == 1000) = true := by simp [h3]
        have HX : Hid (E = 5) := by unfold Hid; rw [hdef, if_pos h3]
        have HNZ : Hid (E ≠ 0) := by unfold Hid; rw [HX.out]; decide
        clear h3 hdef
        go_wp2_with fail
        go_ret
        exact ⟨by rw [HX.out]; rfl, _, by rw [← HRL.out, if_neg HNZ.out]; exact HT2.out, HTR2.out⟩
      · have d3 : ((N : Int) == 1000) = false := by simp; omega
        have HX : Hid (E = 0) := by unfold Hid; rw [hdef, if_neg h3]
        clear h3 hdef
        go_wp2_with fail
        refine (hpush_any _ base P _ l t (by rw [HN.out]; omega) HT2.out).mono ?_
        rintro e w4 ⟨rfl, v4, hT4, hR4⟩
        have HF4 : Hid (∃ v', TM w4 base P v' (putL l t) ∧ TR w P (.slice a N c) w4 v') := ⟨v4, hT4, HTR2.out.trans hR4⟩
        clear hT4 hR4
        go_wp2_with fail
        go_ret
        exact ⟨by rw [HX.out]; rfl, by rw [← HRL.out, if_pos HX.out]; exact HF4.out⟩
/-- a heap has been opened: timers of one's own in new memory, or an error -/
def OPN (w : World) (l : List Tm) (x : Ending) (w' : World) : Prop := (∃ P v, x = .returned (.tuple #[.pointer (some ⟨P, 0, none⟩), .int .i64 0]) ∧ TM w' w.heap.size P v l) ∧ Below w.heap.size w w'
set_option maxHeartbeats 4000000 in
theorem opened_ok (v : Value) (l : List Tm) (ix : Int) (hen : chkW l = (0, ix)) (w : World) (h : RdM w v l) : Calls Try.prog 38 #[v] w (OPN w l) := by
  have HR := Lib.hid h
  have HEN := Lib.hid hen
  have hll := chk_len (l := l) (by rw [hen])
  have HLL := Lib.hid hll
  clear h hen hll
  go_enter Try.func38, Try.ntmps38
  go_wp2_with fail
  refine (check_is v l 0 ix HEN.out _ HR.out).mono ?_
  rintro e w1 ⟨rfl, hB1⟩
  have HR := Lib.hid (RdL.keep hB1 HR.out)
  go_wp2_with fail
  refine (clone_any v l (by have := HLL.out; omega) _ HR.out).mono ?_
  rintro e w2 ⟨a, c, rfl, ho, hb2⟩
  have hB2 := Below.next hB1 hb2
  obtain ⟨X, hX⟩ : ∃ X : World, X = w2.alloc (.cells #[.slice a l.length c] 53) := ⟨_, rfl⟩
  have HF : Hid (OPN w l (.returned (.tuple #[.pointer (some ⟨w2.heap.size, 0, none⟩), .int .i64 0])) X) := by
    have hk : Below w2.heap.size w2 X := by rw [hX]; exact (by repeat (first | assumption | exact Below.refl _ _ | apply Below.al | apply below_drewN | apply Below.drew | refine Below.next ?_ (by assumption)))
    exact ⟨⟨w2.heap.size, .slice a l.length c, rfl, ⟨by rw [hX]; exact BoxN.new w2 _ _, OwM.keep (owns_mono ho hB1.size) hk, by have := HLL.out; omega, hB2.size⟩⟩, Below.next hB2 hk⟩
  clear ho hb2
  obtain ⟨N, hN⟩ : ∃ N, l.length = N := ⟨_, rfl⟩
  rw [hN] at hX ⊢
  clear hN
  go_wp2_with fail
  rw [← hX]
  go_ret2
  exact HF.out
set_option maxHeartbeats 4000000 in
theorem opened_no (v : Value) (l : List Tm) (er ix : Int) (hen : chkW l = (er, ix)) (he : er ≠ 0) (w : World) (h : RdM w v l) : Calls Try.prog 38 #[v] w fun x w' => x = .returned (.tuple #[.pointer none, .int .i64 er]) ∧ Below w.heap.size w w' := by
  have HR := Lib.hid h
  have HEN := Lib.hid hen
  have d0 : (er != 0) = true := by simpa using he
  clear h hen
  go_enter Try.func38, Try.ntmps38
  go_wp2_with fail
  refine (check_is v l er ix HEN.out _ HR.out).mono ?_
  rintro e w1 ⟨rfl, hB1⟩
  go_wp2_with fail
  go_ret2
  exact ⟨rfl, hB1⟩
set_option maxHeartbeats 4000000 in
theorem add_any (v : Value) (l : List Tm) (t : Tm) (w : World) (h : RdM w v l) : Calls Try.prog 24 #[v, t.v] w (LE w (addW l t)) := by
  obtain ⟨W, hW⟩ : ∃ W : World, W = w.alloc (.cells #[.int .i64 t.tk, .int .i64 t.kd, .int .i64 t.nd, .int .u64 t.sq, .int .i64 t.of] 41) := ⟨_, rfl⟩
  have hB : Below w.heap.size w W := by rw [hW]; exact (by repeat (first | assumption | exact Below.refl _ _ | apply Below.al | apply below_drewN | apply Below.drew | refine Below.next ?_ (by assumption)))
  have bT : BoxN W w.heap.size 41 #[.int .i64 t.tk, .int .i64 t.kd, .int .i64 t.nd, .int .u64 t.sq, .int .i64 t.of] := by rw [hW]; exact BoxN.new _ _ _
  have HR := Lib.hid (RdL.keep hB h)
  obtain ⟨er, ix, hen⟩ : ∃ er ix, chkW l = (er, ix) := ⟨_, _, rfl⟩
  have HEN := Lib.hid hen
  obtain ⟨R, hRr⟩ : ∃ R, addW l t = R := ⟨_, rfl⟩
  have HRR := Lib.hid hRr
  obtain ⟨E, hE⟩ : ∃ E, putE l t = E := ⟨_, rfl⟩
  have HE := Lib.hid hE
  have hdef : R = if er ≠ 0 then ([], er) else if E ≠ 0 then ([], E) else (putL l t, 0) := by rw [← hRr]; unfold addW; rw [hen, hE]
  have HD := Lib.hid hdef
  rw [hRr]
  clear h hen hRr hdef hE
  go_enter Try.func24, Try.ntmps24
  go_upto_region 1 with fail
  rw [← hW]
  clear hW
  have c0 : W.cell? ⟨w.heap.size, 0, none⟩ = some (.int .i64 t.tk) := (bT.cell 0).trans rfl
  have c1 : W.cell? ⟨w.heap.size, 1, none⟩ = some (.int .i64 t.kd) := (bT.cell 1).trans rfl
  have c2 : W.cell? ⟨w.heap.size, 2, none⟩ = some (.int .i64 t.nd) := (bT.cell 2).trans rfl
  have c3 : W.cell? ⟨w.heap.size, 3, none⟩ = some (.int .u64 t.sq) := (bT.cell 3).trans rfl
  have c4 : W.cell? ⟨w.heap.size, 4, none⟩ = some (.int .i64 t.of) := (bT.cell 4).trans rfl
  by_cases he : er = 0
  · subst he
    have HLL := Lib.hid (chk_len (l := l) (by rw [HEN.out]))
    go_wp2_with fail
    refine (opened_ok v l ix HEN.out _ HR.out).mono ?_
    rintro e w1 ⟨⟨P, v1, rfl, hT1⟩, hb1⟩
    have c0 := cell_later hb1 c0
    have c1 := cell_later hb1 c1
    have c2 := cell_later hb1 c2
    have c3 := cell_later hb1 c3
    have c4 := cell_later hb1 c4
    have HT1 := Lib.hid hT1
    have hB1 := Below.next hB hb1
    have hz := hB.size
    clear hb1 hT1 bT hB
    go_wp2_with fail
    refine (put_any _ _ P v1 l t HLL.out HT1.out).mono ?_
    rw [HE.out]
    rintro e w2 ⟨rfl, v2, hT2, hR2⟩
    have hB2 := hB1.trans ((hR2.below HT1.out).mono hz)
    have HT2 := Lib.hid hT2
    clear hT2 hR2
    by_cases h1 : E = 0
    · subst h1
      have HT2 := Lib.hid (show TM w2 W.heap.size P v2 (putL l t) by have := HT2.out; rwa [if_pos rfl] at this)
      have HX : Hid (R = (putL l t, 0)) := by unfold Hid; rw [HD.out]; rfl
      have h0 := HT2.out.hd
      go_wp2_with fail
      go_ret2
      exact ⟨_, by rw [HX.out]; rfl, by rw [HX.out]; exact HT2.out.rd, hB2⟩
    · have d1 : (E != 0) = true := by simpa using h1
      have HX : Hid (R = ([], E)) := by unfold Hid; rw [HD.out, if_neg (by simp), if_pos h1]
      clear h1
      go_wp2_with fail
      go_ret2
      exact ⟨_, by rw [HX.out]; rfl, by rw [HX.out]; exact RdM.nil _, hB2⟩
  · have d0 : (er == 0) = false := by simpa using he
    have d1 : (er != 0) = true := by simpa using he
    have HX : Hid (R = ([], er)) := by unfold Hid; rw [HD.out, if_pos he]
    go_wp2_with fail
    refine (opened_no v l er ix HEN.out he _ HR.out).mono ?_
    rintro e w1 ⟨rfl, hb1⟩
    have hB1 := Below.next hB hb1
    clear he
    go_wp2_with fail
    go_ret2
    exact ⟨_, by rw [HX.out]; rfl, by rw [HX.out]; exact RdM.nil _, hB1⟩
set_option maxHeartbeats 4000000 in
theorem cancel_any (v : Value) (l : List Tm) (t : Tm) (w : World) (h : RdM w v l) : Calls Try.prog 21 #[v, .int .i64 t.kd, t.iv] w (LE w (canW l t)) := by
  obtain ⟨W, hW⟩ : ∃ W : World, W = w.alloc (.cells #[.int .i64 t.nd, .int .u64 t.sq, .int .i64 t.of] 39) := ⟨_, rfl⟩
  have hB : Below w.heap.size w W := by rw [hW]; exact (by repeat (first | assumption | exact Below.refl _ _ | apply Below.al | apply below_drewN | apply Below.drew | refine Below.next ?_ (by assumption)))
  have bT : BoxN W w.heap.size 39 #[.int .i64 t.nd, .int .u64 t.sq, .int .i64 t.of] := by rw [hW]; exact BoxN.new _ _ _
  have HR := Lib.hid (RdL.keep hB h)
  obtain ⟨er, ix, hen⟩ : ∃ er ix, chkW l = (er, ix) := ⟨_, _, rfl⟩
  have HEN := Lib.hid hen
  obtain ⟨R, hRr⟩ : ∃ R, canW l t = R := ⟨_, rfl⟩
  have HRR := Lib.hid hRr
  obtain ⟨f, hf⟩ : ∃ f, fnd l t = f := ⟨_, rfl⟩
  have HF := Lib.hid hf
  have hdef : R = if er ≠ 0 then ([], er) else if f < 0 then ([], 8) else (outL l f.toNat, 0) := by rw [← hRr]; unfold canW; rw [hen, hf]
  have HD := Lib.hid hdef
  have HFC := Lib.hid (fnd_cases l t)
  rw [hRr]
  clear h hen hRr hdef hf
  have c0 : W.cell? ⟨w.heap.size, 0, none⟩ = some (.int .i64 t.nd) := (bT.cell 0).trans rfl
  have c1 : W.cell? ⟨w.heap.size, 1, none⟩ = some (.int .u64 t.sq) := (bT.cell 1).trans rfl
  have c2 : W.cell? ⟨w.heap.size, 2, none⟩ = some (.int .i64 t.of) := (bT.cell 2).trans rfl
  go_enter Try.func21, Try.ntmps21
  go_upto_region 1 with fail
  rw [← hW]
  clear hW
  by_cases he : er = 0
  · subst he
    have HG := Lib.hid (good_iff.1 (show (chkW l).1 = 0 by rw [HEN.out]))
    go_wp2_with fail
    refine (opened_ok v l ix HEN.out _ HR.out).mono ?_
    rintro e w1 ⟨⟨P, v1, rfl, hT1⟩, hb1⟩
    have c0 := cell_later hb1 c0
    have c1 := cell_later hb1 c1
    have c2 := cell_later hb1 c2
    have HT1 := Lib.hid hT1
    have hB1 := Below.next hB hb1
    have hz := hB.size
    have h0 := hT1.hd
    clear hb1 hT1 bT hB
    go_upto_region 4 with fail
    refine wp_region_calm (fun w' => Below w1.heap.size w1 w') 99 (by kernel_rfl) ((Below.refl _ w1).drew) ?_
    refine cm_run 0 19 (v := ?_) rfl rfl (by kernel_rfl) (by kernel_rfl) (by kernel_rfl) (by kernel_rfl) (by kernel_rfl) (fun _ _ _ h => h) (by rfl) ?_ ?_
    rotate_left
    · (intro wS hS; skip; go_simp; (try with_reducible rfl))
    simp only [List.setIfInBounds_toArray, List.set_cons_zero, List.set_cons_succ]
    refine cm_run 1 20 (v := ?_) rfl rfl (by kernel_rfl) (by kernel_rfl) (by kernel_rfl) (by kernel_rfl) (by kernel_rfl) (fun _ _ _ h => h) (by rfl) ?_ ?_
    rotate_left
    · (intro wS hS; skip; go_simp; (try with_reducible rfl))
    simp only [List.setIfInBounds_toArray, List.set_cons_zero, List.set_cons_succ]
    refine cm_run 2 21 (v := ?_) rfl rfl (by kernel_rfl) (by kernel_rfl) (by kernel_rfl) (by kernel_rfl) (by kernel_rfl) (fun _ _ _ h => h) (by rfl) ?_ ?_
    rotate_left
    · (intro wS hS; have hg := cell_later hS h0; go_simp; (try with_reducible rfl))
    simp only [List.setIfInBounds_toArray, List.set_cons_zero, List.set_cons_succ]
    refine cm_run 3 22 (v := ?_) rfl rfl (by kernel_rfl) (by kernel_rfl) (by kernel_rfl) (by kernel_rfl) (by kernel_rfl) (fun _ _ _ h => h) (by rfl) ?_ ?_
    rotate_left
    · (intro wS hS; skip; go_simp; (try with_reducible rfl))
    simp only [List.setIfInBounds_toArray, List.set_cons_zero, List.set_cons_succ]
    refine cm_run 4 23 (v := ?_) rfl rfl (by kernel_rfl) (by kernel_rfl) (by kernel_rfl) (by kernel_rfl) (by kernel_rfl) (fun _ _ _ h => h) (by rfl) ?_ ?_
    rotate_left
    · (intro wS hS; (have x2 := cell_later hS c0; have x3 := cell_later hS c1; have x4 := cell_later hS c2); go_simp; (try with_reducible rfl))
    simp only [List.setIfInBounds_toArray, List.set_cons_zero, List.set_cons_succ]
    refine cm_call 5 24 36 (v := .int .i64 f) (args := ?_) rfl rfl (by kernel_rfl) (by kernel_rfl) (by kernel_rfl) (by kernel_rfl) (by kernel_rfl) (fun _ _ _ h => h) (by rfl) ?_ ?_ ?_
    rotate_left 1
    · (intro wS hS; go_simp; (try with_reducible rfl))
    · (intro wS hS; refine (find_any _ l t _ (by have := (HT1.out.keep hS).rd; exact this)).mono ?_; (rw [HF.out]; rintro e w2 ⟨rfl, hb⟩; exact ⟨rfl, Below.next hS hb⟩))
    simp only [List.setIfInBounds_toArray, List.set_cons_zero, List.set_cons_succ]
    refine cm_run 6 10 (v := ?_) rfl rfl (by kernel_rfl) (by kernel_rfl) (by kernel_rfl) (by kernel_rfl) (by kernel_rfl) (fun _ _ _ h => h) (by rfl) ?_ ?_
    rotate_left
    · (intro wS hS; skip; go_simp; (try with_reducible rfl))
    simp only [List.setIfInBounds_toArray, List.set_cons_zero, List.set_cons_succ]
    refine cm_done (by kernel_rfl) ?_
    intro wS hS
    refine NoPanic.normal ?_
    have HT2 := Lib.hid (HT1.out.keep hS)
    have hB2 := Below.next hB1 hS
    clear hS HT1 hB1 c0 c1 c2 h0
    by_cases h2 : f < 0
    · have d2 : decide (f < 0) = true := yb h2
      have HX : Hid (R = ([], 8)) := by unfold Hid; rw [HD.out, if_neg (by simp), if_pos h2]
      clear h2
      go_wp2_with fail
      go_ret2
      exact ⟨_, by rw [HX.out]; rfl, by rw [HX.out]; exact RdM.nil _, hB2⟩
    · have d2 : decide (f < 0) = false := nb h2
      obtain ⟨k, rfl, hkl⟩ : ∃ k : Nat, f = (k : Int) ∧ k < l.length := by
        rcases HFC.out with ⟨h5, _⟩ | ⟨i, h5, h6, _⟩
        · rw [HF.out] at h5; omega
        · rw [HF.out] at h5; exact ⟨i, h5, h6⟩
      have HRM : Hid (remL l k = outL l k) := rem_out HG.out.2.2 hkl
      have HX : Hid (R = (outL l k, 0)) := by unfold Hid; rw [HD.out, if_neg (by simp), if_neg h2]; rfl
      clear h2
      go_wp2_with fail
      refine (hrem_any _ _ P v1 l k (l.length - 1) (by omega) (by omega) HT2.out).mono ?_
      rw [HRM.out]
      rintro e w3 ⟨u, rfl, v3, hT3, hR3⟩
      have hB3 := hB2.trans ((hR3.below HT2.out).mono hz)
      have HT3 := Lib.hid hT3
      have h0 := hT3.hd
      clear hT3 hR3
      go_wp2_with fail
      go_ret2
      exact ⟨_, by rw [HX.out]; rfl, by rw [HX.out]; exact HT3.out.rd, hB3⟩
  · have d0 : (er == 0) = false := by simpa using he
    have d1 : (er != 0) = true := by simpa using he
    have HX : Hid (R = ([], er)) := by unfold Hid; rw [HD.out, if_pos he]
    go_wp2_with fail
    refine (opened_no v l er ix HEN.out he _ HR.out).mono ?_
    rintro e w1 ⟨rfl, hb1⟩
    have hB1 := Below.next hB hb1
    clear he
    go_wp2_with fail
    go_ret2
    exact ⟨_, by rw [HX.out]; rfl, by rw [HX.out]; exact RdM.nil _, hB1⟩
end Go.Proofs.Ytigmhglkohjlhaa
