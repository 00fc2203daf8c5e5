


/- Timers: the reference adds, cancels, tells the next. -/
import Derived.Test.YtigmhglkohjlhaaK
import Derived.Test.YtigmhglkohjlhaaG
namespace Go.Proofs.Ytigmhglkohjlhaa
open Go.RowKit
set_option linter.unusedSimpArgs false
set_option linter.unusedVariables false
set_option maxRecDepth 100000

def addW (l : List Tm) (t : Tm) : List Tm × Int := if (chkW l).1 ≠ 0 then ([], (chkW l).1) else if putE l t ≠ 0 then ([], putE l t) else (putL l t, 0)
def canW (l : List Tm) (t : Tm) : List Tm × Int := if (chkW l).1 ≠ 0 then ([], (chkW l).1) else if fnd l t < 0 then ([], 8) else (outL l (fnd l t).toNat, 0)
def nxtW (l : List Tm) : Tm × Bool × Int := if (chkW l).1 ≠ 0 ∨ l.length = 0 then (z0, false, (chkW l).1) else (g l 0, true, 0)
/-- a call has returned a list and an error -/
def LE (w : World) (r : List Tm × Int) (x : Ending) (w' : World) : Prop := ∃ v, x = .returned (.tuple #[v, .int .i64 r.2]) ∧ RdM w' v r.1 ∧ Below w.heap.size w w'
theorem RdM.nil (w : World) : RdM w (.slice none 0 0) [] := RdL.nil tmR w
theorem OM.rd {w w' : World} {a : Option Addr} {c : Nat} {l : List Tm} (h : w'.ownsRow w.heap.size 41 5 (.slice a l.length c) l.length (rcs tmR l)) : RdM w' (.slice a l.length c) l := RdL.of_owns h
theorem chk_len {l : List Tm} (h : (chkW l).1 = 0) : l.length ≤ 1000 := (good_iff.1 h).1
set_option maxHeartbeats 4000000 in
theorem radd_any (v : Value) (l : List Tm) (t : Tm) (w : World) (h : RdM w v l) : Calls Try.prog 25 #[v, t.v] w (LE w (addW l t)) := by
  obtain ⟨a0, n0, rfl⟩ := h.form
  obtain ⟨N, hN⟩ : ∃ N, l.length = N := ⟨_, rfl⟩
  obtain ⟨W, hW⟩ : ∃ W : World, W = w.alloc (.cells #[.int .i64 t.tk, .int .i64 t.kd, .int .i64 t.nd, .int .u64 t.sq, .int .i64 t.of] 41) := ⟨_, rfl⟩
  have hB : Below w.heap.size w W := by rw [hW]; exact (by repeat (first | assumption | exact Below.refl _ _ | apply Below.al | apply below_drewN | apply Below.drew | refine Below.next ?_ (by assumption)))
  have bT : BoxN W w.heap.size 41 #[.int .i64 t.tk, .int .i64 t.kd, .int .i64 t.nd, .int .u64 t.sq, .int .i64 t.of] := by rw [hW]; exact BoxN.new _ _ _
  have HR := Lib.hid (show RdM W (.slice a0 N n0) l by have := RdL.keep hB h; rwa [hN] at this)
  have HN := Lib.hid hN
  obtain ⟨er, ix, hen⟩ : ∃ er ix, chkW l = (er, ix) := ⟨_, _, rfl⟩
  have HEN := Lib.hid hen
  obtain ⟨R, hRr⟩ : ∃ R, addW l t = R := ⟨_, rfl⟩
  have HRR := Lib.hid hRr
  have hdef : addW l t = if er ≠ 0 then ([], er) else if putE l t ≠ 0 then ([], putE l t) else (putL l t, 0) := by unfold addW; rw [hen]
  have HD := Lib.hid hdef
  rw [hN, hRr]
  clear hN h hen hRr hdef
  go_enter Try.func25, Try.ntmps25
  go_upto_region 1 with fail
  rw [← hW]
  clear hW
  have c0 : W.cell? ⟨w.heap.size, 0, none⟩ = some (.int .i64 t.tk) := (bT.cell 0).trans rfl
  have c1 : W.cell? ⟨w.heap.size, 1, none⟩ = some (.int .i64 t.kd) := (bT.cell 1).trans rfl
  have c2 : W.cell? ⟨w.heap.size, 2, none⟩ = some (.int .i64 t.nd) := (bT.cell 2).trans rfl
  have c3 : W.cell? ⟨w.heap.size, 3, none⟩ = some (.int .u64 t.sq) := (bT.cell 3).trans rfl
  have c4 : W.cell? ⟨w.heap.size, 4, none⟩ = some (.int .i64 t.of) := (bT.cell 4).trans rfl
  go_wp2_with fail
  refine (rcheck_is _ l er ix HEN.out _ HR.out).mono ?_
  rintro e w1 ⟨rfl, hb1⟩
  have hB1 := Below.next hB hb1
  have c0 := cell_later hb1 c0
  have c1 := cell_later hb1 c1
  have c2 := cell_later hb1 c2
  have c3 := cell_later hb1 c3
  have c4 := cell_later hb1 c4
  have HR := Lib.hid (RdL.keep hb1 HR.out)
  clear hb1 bT hB
  by_cases he : er = 0
  · subst he
    obtain ⟨e1, HE1⟩ : ∃ e1, Hid (valE t = e1) := ⟨_, rfl⟩
    go_wp2_with fail
    refine (one_any t _ e1 HE1.out).mono ?_
    rintro e w2 ⟨rfl, hb2⟩
    have hB2 := Below.next hB1 hb2
    have c0 := cell_later hb2 c0
    have c1 := cell_later hb2 c1
    have c2 := cell_later hb2 c2
    have c3 := cell_later hb2 c3
    have c4 := cell_later hb2 c4
    have HR := Lib.hid (RdL.keep hb2 HR.out)
    clear hb2 hB1
    by_cases h1 : e1 = 0
    · subst h1
      obtain ⟨f, HF⟩ : ∃ f, Hid (fnd l t = f) := ⟨_, rfl⟩
      go_wp2_with fail
      refine (rfind_any _ l t _ HR.out).mono ?_
      rw [HF.out]
      rintro e w3 ⟨rfl, hb3⟩
      have hB3 := Below.next hB2 hb3
      have c0 := cell_later hb3 c0
      have c1 := cell_later hb3 c1
      have c2 := cell_later hb3 c2
      have c3 := cell_later hb3 c3
      have c4 := cell_later hb3 c4
      have HR := Lib.hid (RdL.keep hb3 HR.out)
      clear hb3 hB2
      by_cases h2 : 0 ≤ f
      · have d2 : decide (0 ≤ f) = true := yb h2
        have HX : Hid (R = ([], 9)) := by unfold Hid; rw [← HRR.out, HD.out]; unfold putE; rw [HE1.out, HF.out]; simp [h2]
        go_wp2_with fail
        go_ret2
        refine ⟨_, by rw [HX.out]; rfl, by rw [HX.out]; exact RdM.nil _, hB3⟩
      · have d2 : decide (0 ≤ f) = false := nb h2
        by_cases h3 : N = 1000
        · have d3 : ((N : Int) == 1000) = true := by simp [h3]
          have HX : Hid (R = ([], 5)) := by unfold Hid; rw [← HRR.out, HD.out]; unfold putE; rw [HE1.out, HF.out, HN.out]; simp [h2, h3]
          clear h3
          go_wp2_with fail
          go_ret2
          refine ⟨_, by rw [HX.out]; rfl, by rw [HX.out]; exact RdM.nil _, hB3⟩
        · have d3 : ((N : Int) == 1000) = false := by simp; omega
          have HX : Hid (R = (putL l t, 0)) := by unfold Hid; rw [← HRR.out, HD.out]; unfold putE; rw [HE1.out, HF.out, HN.out]; simp [h2, h3]
          have hn : N ≤ 1000 := by have := chk_len (l := l) (by rw [HEN.out]); rwa [HN.out] at this
          clear h3
          go_wp2_with fail
          refine (rput_any _ l t (by rw [HN.out]; omega) _ HR.out).mono ?_
          rintro e w4 ⟨a, c, rfl, ho, hb4⟩
          have hB4 := Below.next hB3 hb4
          have HO := Lib.hid (OM.rd ho)
          clear ho hb4
          go_wp2_with fail
          go_ret2
          refine ⟨_, by rw [HX.out]; rfl, by rw [HX.out]; exact HO.out, hB4⟩
    · have d1 : (e1 != 0) = true := by simpa using h1
      have HX : Hid (R = ([], e1)) := by unfold Hid; rw [← HRR.out, HD.out]; unfold putE; rw [HE1.out]; simp [h1]
      go_wp2_with fail
      go_ret2
      refine ⟨_, by rw [HX.out]; rfl, by rw [HX.out]; exact RdM.nil _, hB2⟩
  · have d0 : (er == 0) = false := by simpa using he
    have d1 : (er != 0) = true := by simpa using he
    have HX : Hid (R = ([], er)) := by unfold Hid; rw [← HRR.out, HD.out]; simp [he]
    clear he
    go_wp2_with fail
    go_ret2
    refine ⟨_, by rw [HX.out]; rfl, by rw [HX.out]; exact RdM.nil _, hB1⟩
set_option maxHeartbeats 4000000 in
theorem rcancel_any (v : Value) (l : List Tm) (t : Tm) (w : World) (h : RdM w v l) : Calls Try.prog 26 #[v, .int .i64 t.kd, t.iv] w (LE w (canW l t)) := by
  obtain ⟨a0, n0, rfl⟩ := h.form
  obtain ⟨N, hN⟩ : ∃ N, l.length = N := ⟨_, rfl⟩
  obtain ⟨W, hW⟩ : ∃ W : World, W = w.alloc (.cells #[.int .i64 t.nd, .int .u64 t.sq, .int .i64 t.of] 39) := ⟨_, rfl⟩
  have hB : Below w.heap.size w W := by rw [hW]; exact (by repeat (first | assumption | exact Below.refl _ _ | apply Below.al | apply below_drewN | apply Below.drew | refine Below.next ?_ (by assumption)))
  have bT : BoxN W w.heap.size 39 #[.int .i64 t.nd, .int .u64 t.sq, .int .i64 t.of] := by rw [hW]; exact BoxN.new _ _ _
  have HR := Lib.hid (show RdM W (.slice a0 N n0) l by have := RdL.keep hB h; rwa [hN] at this)
  have HN := Lib.hid hN
  obtain ⟨er, ix, hen⟩ : ∃ er ix, chkW l = (er, ix) := ⟨_, _, rfl⟩
  have HEN := Lib.hid hen
  obtain ⟨R, hRr⟩ : ∃ R, canW l t = R := ⟨_, rfl⟩
  have HRR := Lib.hid hRr
  have hdef : canW l t = if er ≠ 0 then ([], er) else if fnd l t < 0 then ([], 8) else (outL l (fnd l t).toNat, 0) := by unfold canW; rw [hen]
  have HD := Lib.hid hdef
  have HFC := Lib.hid (fnd_cases l t)
  rw [hN, hRr]
  clear hN h hen hRr hdef
  have c0 : W.cell? ⟨w.heap.size, 0, none⟩ = some (.int .i64 t.nd) := (bT.cell 0).trans rfl
  have c1 : W.cell? ⟨w.heap.size, 1, none⟩ = some (.int .u64 t.sq) := (bT.cell 1).trans rfl
  have c2 : W.cell? ⟨w.heap.size, 2, none⟩ = some (.int .i64 t.of) := (bT.cell 2).trans rfl
  go_enter Try.func26, Try.ntmps26
  go_upto_region 1 with fail
  rw [← hW]
  clear hW
  go_wp2_with fail
  refine (rcheck_is _ l er ix HEN.out _ HR.out).mono ?_
  rintro e w1 ⟨rfl, hb1⟩
  have hB1 := Below.next hB hb1
  have c0 := cell_later hb1 c0
  have c1 := cell_later hb1 c1
  have c2 := cell_later hb1 c2
  have HR := Lib.hid (RdL.keep hb1 HR.out)
  clear hb1 bT hB
  by_cases he : er = 0
  · subst he
    obtain ⟨f, HF⟩ : ∃ f, Hid (fnd l t = f) := ⟨_, rfl⟩
    go_wp2_with fail
    refine (rfind_any _ l t _ HR.out).mono ?_
    rw [HF.out]
    rintro e w3 ⟨rfl, hb3⟩
    have hB3 := Below.next hB1 hb3
    have HR := Lib.hid (RdL.keep hb3 HR.out)
    clear hb3 hB1
    by_cases h2 : f < 0
    · have d2 : decide (f < 0) = true := yb h2
      have HX : Hid (R = ([], 8)) := by unfold Hid; rw [← HRR.out, HD.out, HF.out]; simp [h2]
      go_wp2_with fail
      go_ret2
      refine ⟨_, by rw [HX.out]; rfl, by rw [HX.out]; exact RdM.nil _, hB3⟩
    · have d2 : decide (f < 0) = false := nb h2
      obtain ⟨k, rfl, hkl⟩ : ∃ k : Nat, f = (k : Int) ∧ k < N := by
        rcases HFC.out with ⟨h5, _⟩ | ⟨i, h5, h6, _⟩
        · rw [HF.out] at h5; omega
        · rw [HF.out] at h5; rw [HN.out] at h6; exact ⟨i, h5, h6⟩
      have HX : Hid (R = (outL l k, 0)) := by unfold Hid; rw [← HRR.out, HD.out, HF.out]; simp [h2]
      have hn : N ≤ 1000 := by have := chk_len (l := l) (by rw [HEN.out]); rwa [HN.out] at this
      clear h2
      go_wp2_with fail
      refine (rout_any _ l k (by rw [HN.out]; omega) (by rw [HN.out]; exact hkl) _ HR.out).mono ?_
      rintro e w4 ⟨a, c, rfl, ho, hb4⟩
      have hB4 := Below.next hB3 hb4
      have HO := Lib.hid (OM.rd ho)
      clear ho hb4
      go_wp2_with fail
      go_ret2
      refine ⟨_, by rw [HX.out]; rfl, by rw [HX.out]; exact HO.out, hB4⟩
  · have d0 : (er == 0) = false := by simpa using he
    have d1 : (er != 0) = true := by simpa using he
    have HX : Hid (R = ([], er)) := by unfold Hid; rw [← HRR.out, HD.out]; simp [he]
    clear he
    go_wp2_with fail
    go_ret2
    refine ⟨_, by rw [HX.out]; rfl, by rw [HX.out]; exact RdM.nil _, hB1⟩
/-- the first of a heap, as both texts return it -/
def NX (w : World) (r : Tm × Bool × Int) (x : Ending) (w' : World) : Prop := x = .returned (.tuple #[r.1.v, .bool r.2.1, .int .i64 r.2.2]) ∧ Below w.heap.size w w'
set_option maxHeartbeats 4000000 in
theorem rnext_any (v : Value) (l : List Tm) (w : World) (h : RdM w v l) : Calls Try.prog 31 #[v] w (NX w (nxtW l)) := by
  obtain ⟨a0, n0, rfl⟩ := h.form
  obtain ⟨N, hN⟩ : ∃ N, l.length = N := ⟨_, rfl⟩
  obtain ⟨W, hW⟩ : ∃ W : World, W = w.alloc (.cells #[.int .i64 0, .int .i64 0, .int .i64 0, .int .u64 0, .int .i64 0] 41) := ⟨_, rfl⟩
  have hB : Below w.heap.size w W := by rw [hW]; exact (by repeat (first | assumption | exact Below.refl _ _ | apply Below.al | apply below_drewN | apply Below.drew | refine Below.next ?_ (by assumption)))
  have bT : BoxN W w.heap.size 41 #[.int .i64 0, .int .i64 0, .int .i64 0, .int .u64 0, .int .i64 0] := by rw [hW]; exact BoxN.new _ _ _
  have HR := Lib.hid (show RdM W (.slice a0 N n0) l by have := RdL.keep hB h; rwa [hN] at this)
  have HN := Lib.hid hN
  obtain ⟨er, ix, hen⟩ : ∃ er ix, chkW l = (er, ix) := ⟨_, _, rfl⟩
  have HEN := Lib.hid hen
  obtain ⟨R, hRr⟩ : ∃ R, nxtW l = R := ⟨_, rfl⟩
  have HRR := Lib.hid hRr
  have hdef : nxtW l = if er ≠ 0 ∨ l.length = 0 then (z0, false, er) else (g l 0, true, 0) := by unfold nxtW; rw [hen]
  have HD := Lib.hid hdef
  rw [hN, hRr]
  clear hN h hen hRr hdef
  go_enter Try.func31, Try.ntmps31
  go_upto_region 1 with fail
  rw [← hW]
  clear hW
  go_wp2_with fail
  refine (rcheck_is _ l er ix HEN.out _ HR.out).mono ?_
  rintro e w1 ⟨rfl, hb1⟩
  have hB1 := Below.next hB hb1
  have bT := bT.below hb1
  have HR := Lib.hid (RdL.keep hb1 HR.out)
  clear hb1 hB
  have r0 : w1.cell? ⟨w.heap.size, 0, none⟩ = some (.int .i64 0) := (bT.cell 0).trans rfl
  have r1 : w1.cell? ⟨w.heap.size, 1, none⟩ = some (.int .i64 0) := (bT.cell 1).trans rfl
  have r2 : w1.cell? ⟨w.heap.size, 2, none⟩ = some (.int .i64 0) := (bT.cell 2).trans rfl
  have r3 : w1.cell? ⟨w.heap.size, 3, none⟩ = some (.int .u64 0) := (bT.cell 3).trans rfl
  have r4 : w1.cell? ⟨w.heap.size, 4, none⟩ = some (.int .i64 0) := (bT.cell 4).trans rfl
  have f0 := bT.frozen 0
  have f1 := bT.frozen 1
  have f2 := bT.frozen 2
  have f3 := bT.frozen 3
  have f4 := bT.frozen 4
  have HB5 : ∀ v0 v1 v2 v3 v4, Hid (Below w.heap.size w (((((w1.setCell ⟨w.heap.size, 0, none⟩ v0).setCell ⟨w.heap.size, 1, none⟩ v1).setCell ⟨w.heap.size, 2, none⟩ v2).setCell ⟨w.heap.size, 3, none⟩ v3).setCell ⟨w.heap.size, 4, none⟩ v4)) := fun v0 v1 v2 v3 v4 => ((((hB1.setCell (p := ⟨w.heap.size, 0, none⟩) (Nat.le_refl _) _).setCell (p := ⟨w.heap.size, 1, none⟩) (Nat.le_refl _) _).setCell (p := ⟨w.heap.size, 2, none⟩) (Nat.le_refl _) _).setCell (p := ⟨w.heap.size, 3, none⟩) (Nat.le_refl _) _).setCell (p := ⟨w.heap.size, 4, none⟩) (Nat.le_refl _) _
  clear bT
  by_cases he : er ≠ 0
  · have d0 : (er != 0) = true := by simpa using he
    have HX : Hid (R = (z0, false, er)) := by unfold Hid; rw [← HRR.out, HD.out, if_pos (.inl he)]
    clear he
    go_wp2_with fail
    refine bodyPost_ret (v := .tuple #[z0.v, .bool false, .int .i64 er]) (by simp [results, Try.results31, go_sem, r0, r1, r2, r3, r4, z0]) rfl ⟨by rw [HX.out], ?_⟩
    exact (HB5 _ _ _ _ _).out
  · obtain rfl : er = 0 := by omega
    have d0 : ((0 : Int) != 0) = false := rfl
    by_cases h0 : N = 0
    · have d1 : ((N : Int) == 0) = true := by simp [h0]
      have HX : Hid (R = (z0, false, 0)) := by unfold Hid; rw [← HRR.out, HD.out, if_pos (.inr (by rw [HN.out]; exact h0))]
      clear he h0
      go_wp2_with fail
      refine bodyPost_ret (v := .tuple #[z0.v, .bool false, .int .i64 0]) (by simp [results, Try.results31, go_sem, r0, r1, r2, r3, r4, z0]) rfl ⟨by rw [HX.out], ?_⟩
      exact (HB5 _ _ _ _ _).out
    · have d1 : ((N : Int) == 0) = false := by simp; omega
      have hn0 : 0 < N := by omega
      obtain ⟨b1, o1, rfl, hc1, g0, g1, g2, g3, g4⟩ := RdM.at HR.out HN.out 0 hn0
      obtain ⟨t, HT⟩ : ∃ y, Hid (g l 0 = y) := ⟨_, rfl⟩
      rw [HT.out] at g0 g1 g2 g3 g4
      simp only [Nat.zero_mul, Nat.add_zero] at g0 g1 g2 g3 g4
      have HX : Hid (R = (t, true, 0)) := by unfold Hid; rw [← HRR.out, HD.out, if_neg (fun h => h.elim he (fun h => h0 (by rwa [HN.out] at h))), HT.out]
      have i2 : (0 : Int) < (N : Int) := by omega
      clear he h0
      go_wp2_with fail
      refine bodyPost_ret (v := .tuple #[t.v, .bool true, .int .i64 0]) (by simp [results, Try.results31, go_sem, r0, r1, r2, r3, r4]) rfl ⟨by rw [HX.out], ?_⟩
      exact (HB5 _ _ _ _ _).out
set_option maxHeartbeats 4000000 in
theorem next_any (v : Value) (l : List Tm) (w : World) (h : RdM w v l) : Calls Try.prog 29 #[v] w (NX w (nxtW l)) := by
  obtain ⟨a0, n0, rfl⟩ := h.form
  obtain ⟨N, hN⟩ : ∃ N, l.length = N := ⟨_, rfl⟩
  obtain ⟨W, hW⟩ : ∃ W : World, W = w.alloc (.cells #[.int .i64 0, .int .i64 0, .int .i64 0, .int .u64 0, .int .i64 0] 41) := ⟨_, rfl⟩
  have hB : Below w.heap.size w W := by rw [hW]; exact (by repeat (first | assumption | exact Below.refl _ _ | apply Below.al | apply below_drewN | apply Below.drew | refine Below.next ?_ (by assumption)))
  have bT : BoxN W w.heap.size 41 #[.int .i64 0, .int .i64 0, .int .i64 0, .int .u64 0, .int .i64 0] := by rw [hW]; exact BoxN.new _ _ _
  have HR := Lib.hid (show RdM W (.slice a0 N n0) l by have := RdL.keep hB h; rwa [hN] at this)
  have HN := Lib.hid hN
  obtain ⟨er, ix, hen⟩ : ∃ er ix, chkW l = (er, ix) := ⟨_, _, rfl⟩
  have HEN := Lib.hid hen
  obtain ⟨R, hRr⟩ : ∃ R, nxtW l = R := ⟨_, rfl⟩
  have HRR := Lib.hid hRr
  have hdef : nxtW l = if er ≠ 0 ∨ l.length = 0 then (z0, false, er) else (g l 0, true, 0) := by unfold nxtW; rw [hen]
  have HD := Lib.hid hdef
  rw [hN, hRr]
  clear hN h hen hRr hdef
  go_enter Try.func29, Try.ntmps29
  go_upto_region 1 with fail
  rw [← hW]
  clear hW
  go_wp2_with fail
  refine (check_is _ l er ix HEN.out _ HR.out).mono ?_
  rintro e w1 ⟨rfl, hb1⟩
  have hB1 := Below.next hB hb1
  have bT := bT.below hb1
  have HR := Lib.hid (RdL.keep hb1 HR.out)
  clear hb1 hB
  have r0 : w1.cell? ⟨w.heap.size, 0, none⟩ = some (.int .i64 0) := (bT.cell 0).trans rfl
  have r1 : w1.cell? ⟨w.heap.size, 1, none⟩ = some (.int .i64 0) := (bT.cell 1).trans rfl
  have r2 : w1.cell? ⟨w.heap.size, 2, none⟩ = some (.int .i64 0) := (bT.cell 2).trans rfl
  have r3 : w1.cell? ⟨w.heap.size, 3, none⟩ = some (.int .u64 0) := (bT.cell 3).trans rfl
  have r4 : w1.cell? ⟨w.heap.size, 4, none⟩ = some (.int .i64 0) := (bT.cell 4).trans rfl
  have f0 := bT.frozen 0
  have f1 := bT.frozen 1
  have f2 := bT.frozen 2
  have f3 := bT.frozen 3
  have f4 := bT.frozen 4
  have HB5 : ∀ v0 v1 v2 v3 v4, Hid (Below w.heap.size w (((((w1.setCell ⟨w.heap.size, 0, none⟩ v0).setCell ⟨w.heap.size, 1, none⟩ v1).setCell ⟨w.heap.size, 2, none⟩ v2).setCell ⟨w.heap.size, 3, none⟩ v3).setCell ⟨w.heap.size, 4, none⟩ v4)) := fun v0 v1 v2 v3 v4 => ((((hB1.setCell (p := ⟨w.heap.size, 0, none⟩) (Nat.le_refl _) _).setCell (p := ⟨w.heap.size, 1, none⟩) (Nat.le_refl _) _).setCell (p := ⟨w.heap.size, 2, none⟩) (Nat.le_refl _) _).setCell (p := ⟨w.heap.size, 3, none⟩) (Nat.le_refl _) _).setCell (p := ⟨w.heap.size, 4, none⟩) (Nat.le_refl _) _
  clear bT
  by_cases he : er ≠ 0
  · have d0 : (er != 0) = true := by simpa using he
    have HX : Hid (R = (z0, false, er)) := by unfold Hid; rw [← HRR.out, HD.out, if_pos (.inl he)]
    clear he
    go_wp2_with fail
    refine bodyPost_ret (v := .tuple #[z0.v, .bool false, .int .i64 er]) (by simp [results, Try.results29, go_sem, r0, r1, r2, r3, r4, z0]) rfl ⟨by rw [HX.out], ?_⟩
    exact (HB5 _ _ _ _ _).out
  · obtain rfl : er = 0 := by omega
    have d0 : ((0 : Int) != 0) = false := rfl
    by_cases h0 : N = 0
    · have d1 : ((N : Int) == 0) = true := by simp [h0]
      have HX : Hid (R = (z0, false, 0)) := by unfold Hid; rw [← HRR.out, HD.out, if_pos (.inr (by rw [HN.out]; exact h0))]
      clear he h0
      go_wp2_with fail
      refine bodyPost_ret (v := .tuple #[z0.v, .bool false, .int .i64 0]) (by simp [results, Try.results29, go_sem, r0, r1, r2, r3, r4, z0]) rfl ⟨by rw [HX.out], ?_⟩
      exact (HB5 _ _ _ _ _).out
    · have d1 : ((N : Int) == 0) = false := by simp; omega
      have hn0 : 0 < N := by omega
      obtain ⟨b1, o1, rfl, hc1, g0, g1, g2, g3, g4⟩ := RdM.at HR.out HN.out 0 hn0
      obtain ⟨t, HT⟩ : ∃ y, Hid (g l 0 = y) := ⟨_, rfl⟩
      rw [HT.out] at g0 g1 g2 g3 g4
      simp only [Nat.zero_mul, Nat.add_zero] at g0 g1 g2 g3 g4
      have HX : Hid (R = (t, true, 0)) := by unfold Hid; rw [← HRR.out, HD.out, if_neg (fun h => h.elim he (fun h => h0 (by rwa [HN.out] at h))), HT.out]
      have i2 : (0 : Int) < (N : Int) := by omega
      clear he h0
      go_wp2_with fail
      refine bodyPost_ret (v := .tuple #[t.v, .bool true, .int .i64 0]) (by simp [results, Try.results29, go_sem, r0, r1, r2, r3, r4]) rfl ⟨by rw [HX.out], ?_⟩
      exact (HB5 _ _ _ _ _).out
end Go.Proofs.Ytigmhglkohjlhaa
