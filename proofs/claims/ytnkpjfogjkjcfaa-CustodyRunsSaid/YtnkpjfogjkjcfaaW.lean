


/- Custody: Step and Rash: the program. -/
import Derived.Test.YtnkpjfogjkjcfaaV
namespace Go.Proofs.Ytnkpjfogjkjcfaa
open Go.RowKit
set_option linter.unusedSimpArgs false
set_option linter.unusedVariables false
set_option maxRecDepth 100000

set_option maxHeartbeats 1000000 in
theorem step_any (w : World) (v : Value) (X : Wd) (m : Mv) (hs : Sml X) (h : RdW w v X) :
    Calls Try.prog 21 #[v, m.v] w (MvR w (stpW false X m) (stpE X m)) := by
  obtain ⟨k, nd, ot, n⟩ := m
  show Calls Try.prog 21 #[v, .agg #[.int .i64 k, .int .i64 nd, .int .i64 ot, .int .i64 n]] w _
  obtain ⟨XE, HXE⟩ : ∃ XE, Hid (stpW false X ⟨k, nd, ot, n⟩ = XE) := ⟨_, Lib.hid rfl⟩
  obtain ⟨er, HER⟩ : ∃ er, Hid (stpE X ⟨k, nd, ot, n⟩ = er) := ⟨_, Lib.hid rfl⟩
  rw [HXE.out, HER.out]
  obtain ⟨cv, fv0, q0, rfl, hp⟩ := h
  obtain ⟨a, c, rfl⟩ := hp.rows.form
  obtain ⟨fa, fc, rfl⟩ := hp.frs.form
  obtain ⟨N, hN⟩ : ∃ N, q0.length = N := ⟨_, rfl⟩
  obtain ⟨F, hF⟩ : ∃ F, X.fr.length = F := ⟨_, rfl⟩
  rw [hN] at hp ⊢
  rw [hF] at hp ⊢
  clear hN hF
  obtain ⟨W, hW⟩ : ∃ W : World, W = ((w.alloc (.cells #[.int .i64 X.ds, .slice a N c, .slice fa F fc] 25)).alloc (.cells #[.int .i64 k, .int .i64 nd, .int .i64 ot, .int .i64 n] 40)).alloc (.cells #[.int .i64 0, .slice none 0 0, .slice none 0 0] 25) := ⟨_, rfl⟩
  have hB0 : Below w.heap.size w W := by rw [hW]; exact (by repeat (first | assumption | exact Below.refl _ _ | apply Below.al | apply below_drewN | apply Below.drew | refine Below.next ?_ (by assumption)))
  have hWs : w.heap.size + 3 ≤ W.heap.size := by rw [hW]; simp
  have bX : BoxN W w.heap.size 25 #[.int .i64 X.ds, .slice a N c, .slice fa F fc] := by rw [hW]; exact (BoxN.new w _ _).below (by repeat (first | assumption | exact Below.refl _ _ | apply Below.al | apply below_drewN | apply Below.drew | refine Below.next ?_ (by assumption)))
  have bM : BoxN W (w.heap.size + 1) 40 #[.int .i64 k, .int .i64 nd, .int .i64 ot, .int .i64 n] := by
    rw [hW]
    have := BoxN.new (w.alloc (.cells #[.int .i64 X.ds, .slice a N c, .slice fa F fc] 25)) 40 #[.int .i64 k, .int .i64 nd, .int .i64 ot, .int .i64 n]
    have e2 := this.below (Below.al (Below.refl _ _) (.cells #[.int .i64 0, .slice none 0 0, .slice none 0 0] 25))
    simpa using e2
  have bT : BoxN W (w.heap.size + 2) 25 #[.int .i64 0, .slice none 0 0, .slice none 0 0] := by
    rw [hW]
    have := BoxN.new ((w.alloc (.cells #[.int .i64 X.ds, .slice a N c, .slice fa F fc] 25)).alloc (.cells #[.int .i64 k, .int .i64 nd, .int .i64 ot, .int .i64 n] 40)) 25 #[.int .i64 0, .slice none 0 0, .slice none 0 0]
    simpa using this
  have HRD : Hid (RdW W (wV X (.slice a N c) (.slice fa F fc)) X) := Lib.hid ⟨_, _, _, rfl, hp.keep hB0⟩
  have HBM := Lib.hid bM
  have HBT := Lib.hid bT
  have x0 : W.cell? ⟨w.heap.size, 0, none⟩ = some (.int .i64 X.ds) := bX.cell 0
  have x1 : W.cell? ⟨w.heap.size, 1, none⟩ = some (.slice a N c) := bX.cell 1
  have x2 : W.cell? ⟨w.heap.size, 2, none⟩ = some (.slice fa F fc) := bX.cell 2
  clear bX bM bT hp
  go_enter Try.func21, Try.ntmps21
  go_upto_region 1 with fail
  rw [← hW]
  clear hW
  have hmv := move_any W _ X ⟨k, nd, ot, n⟩ false hs HRD.out
  rw [HXE.out, HER.out] at hmv
  have HMV := Lib.hid hmv
  have m0 : W.cell? ⟨w.heap.size + 1, 0, none⟩ = some (.int .i64 k) := HBM.out.cell 0
  have m1 : W.cell? ⟨w.heap.size + 1, 1, none⟩ = some (.int .i64 nd) := HBM.out.cell 1
  have m2 : W.cell? ⟨w.heap.size + 1, 2, none⟩ = some (.int .i64 ot) := HBM.out.cell 2
  have m3 : W.cell? ⟨w.heap.size + 1, 3, none⟩ = some (.int .i64 n) := HBM.out.cell 3
  clear hmv
  go_wp2_with fail
  refine HMV.out.mono ?_
  rintro e w1 ⟨u, rfl, hb1, hu⟩
  obtain ⟨cv1, fv1, q1, rfl, hp1⟩ := hu
  obtain ⟨a1, c1, rfl⟩ := hp1.pt.rows.form
  obtain ⟨fa1, fc1, rfl⟩ := hp1.pt.frs.form
  have hB1 := Below.next hB0 hb1
  have e1 := HBT.out.below hb1
  have t0 : w1.cell? ⟨w.heap.size + 2, 0, none⟩ = some (.int .i64 0) := e1.cell 0
  have t1 : w1.cell? ⟨w.heap.size + 2, 1, none⟩ = some (.slice none 0 0) := e1.cell 1
  have t2 : w1.cell? ⟨w.heap.size + 2, 2, none⟩ = some (.slice none 0 0) := e1.cell 2
  have z0 := e1.frozen 0
  have z1 := e1.frozen 1
  have z2 := e1.frozen 2
  have HB1 := Lib.hid hB1
  have HP1 := Lib.hid hp1
  clear hb1 hp1 hB1 e1
  go_wp2_with fail
  refine bodyPost_ret (v := .tuple #[.agg #[.int .i64 XE.ds, .slice a1 q1.length c1, .slice fa1 XE.fr.length fc1], .int .i64 er]) (by simp [results, Try.results21, go_sem, t0, t1, t2]) rfl ⟨_, rfl, ?_, ⟨_, _, q1, rfl, ?_⟩⟩
  · exact ((HB1.out.setCell (p := ⟨w.heap.size + 2, 0, none⟩) (by show w.heap.size ≤ w.heap.size + 2; omega) _).setCell (p := ⟨w.heap.size + 2, 1, none⟩) (by show w.heap.size ≤ w.heap.size + 2; omega) _).setCell (p := ⟨w.heap.size + 2, 2, none⟩) (by show w.heap.size ≤ w.heap.size + 2; omega) _
  · exact (((HP1.out.set (p := ⟨w.heap.size + 2, 0, none⟩) _ (by show w.heap.size + 2 < W.heap.size; omega)).set (p := ⟨w.heap.size + 2, 1, none⟩) _ (by show w.heap.size + 2 < W.heap.size; omega)).set (p := ⟨w.heap.size + 2, 2, none⟩) _ (by show w.heap.size + 2 < W.heap.size; omega)).mono (by omega)
set_option maxHeartbeats 1000000 in
theorem rash_any (w : World) (v : Value) (X : Wd) (m : Mv) (hs : Sml X) (h : RdW w v X) :
    Calls Try.prog 23 #[v, m.v] w (MvR w (stpW true X m) (stpE X m)) := by
  obtain ⟨k, nd, ot, n⟩ := m
  show Calls Try.prog 23 #[v, .agg #[.int .i64 k, .int .i64 nd, .int .i64 ot, .int .i64 n]] w _
  obtain ⟨XE, HXE⟩ : ∃ XE, Hid (stpW true X ⟨k, nd, ot, n⟩ = XE) := ⟨_, Lib.hid rfl⟩
  obtain ⟨er, HER⟩ : ∃ er, Hid (stpE X ⟨k, nd, ot, n⟩ = er) := ⟨_, Lib.hid rfl⟩
  rw [HXE.out, HER.out]
  obtain ⟨cv, fv0, q0, rfl, hp⟩ := h
  obtain ⟨a, c, rfl⟩ := hp.rows.form
  obtain ⟨fa, fc, rfl⟩ := hp.frs.form
  obtain ⟨N, hN⟩ : ∃ N, q0.length = N := ⟨_, rfl⟩
  obtain ⟨F, hF⟩ : ∃ F, X.fr.length = F := ⟨_, rfl⟩
  rw [hN] at hp ⊢
  rw [hF] at hp ⊢
  clear hN hF
  obtain ⟨W, hW⟩ : ∃ W : World, W = ((w.alloc (.cells #[.int .i64 X.ds, .slice a N c, .slice fa F fc] 25)).alloc (.cells #[.int .i64 k, .int .i64 nd, .int .i64 ot, .int .i64 n] 40)).alloc (.cells #[.int .i64 0, .slice none 0 0, .slice none 0 0] 25) := ⟨_, rfl⟩
  have hB0 : Below w.heap.size w W := by rw [hW]; exact (by repeat (first | assumption | exact Below.refl _ _ | apply Below.al | apply below_drewN | apply Below.drew | refine Below.next ?_ (by assumption)))
  have hWs : w.heap.size + 3 ≤ W.heap.size := by rw [hW]; simp
  have bX : BoxN W w.heap.size 25 #[.int .i64 X.ds, .slice a N c, .slice fa F fc] := by rw [hW]; exact (BoxN.new w _ _).below (by repeat (first | assumption | exact Below.refl _ _ | apply Below.al | apply below_drewN | apply Below.drew | refine Below.next ?_ (by assumption)))
  have bM : BoxN W (w.heap.size + 1) 40 #[.int .i64 k, .int .i64 nd, .int .i64 ot, .int .i64 n] := by
    rw [hW]
    have := BoxN.new (w.alloc (.cells #[.int .i64 X.ds, .slice a N c, .slice fa F fc] 25)) 40 #[.int .i64 k, .int .i64 nd, .int .i64 ot, .int .i64 n]
    have e2 := this.below (Below.al (Below.refl _ _) (.cells #[.int .i64 0, .slice none 0 0, .slice none 0 0] 25))
    simpa using e2
  have bT : BoxN W (w.heap.size + 2) 25 #[.int .i64 0, .slice none 0 0, .slice none 0 0] := by
    rw [hW]
    have := BoxN.new ((w.alloc (.cells #[.int .i64 X.ds, .slice a N c, .slice fa F fc] 25)).alloc (.cells #[.int .i64 k, .int .i64 nd, .int .i64 ot, .int .i64 n] 40)) 25 #[.int .i64 0, .slice none 0 0, .slice none 0 0]
    simpa using this
  have HRD : Hid (RdW W (wV X (.slice a N c) (.slice fa F fc)) X) := Lib.hid ⟨_, _, _, rfl, hp.keep hB0⟩
  have HBM := Lib.hid bM
  have HBT := Lib.hid bT
  have x0 : W.cell? ⟨w.heap.size, 0, none⟩ = some (.int .i64 X.ds) := bX.cell 0
  have x1 : W.cell? ⟨w.heap.size, 1, none⟩ = some (.slice a N c) := bX.cell 1
  have x2 : W.cell? ⟨w.heap.size, 2, none⟩ = some (.slice fa F fc) := bX.cell 2
  clear bX bM bT hp
  go_enter Try.func23, Try.ntmps23
  go_upto_region 1 with fail
  rw [← hW]
  clear hW
  have hmv := move_any W _ X ⟨k, nd, ot, n⟩ true hs HRD.out
  rw [HXE.out, HER.out] at hmv
  have HMV := Lib.hid hmv
  have m0 : W.cell? ⟨w.heap.size + 1, 0, none⟩ = some (.int .i64 k) := HBM.out.cell 0
  have m1 : W.cell? ⟨w.heap.size + 1, 1, none⟩ = some (.int .i64 nd) := HBM.out.cell 1
  have m2 : W.cell? ⟨w.heap.size + 1, 2, none⟩ = some (.int .i64 ot) := HBM.out.cell 2
  have m3 : W.cell? ⟨w.heap.size + 1, 3, none⟩ = some (.int .i64 n) := HBM.out.cell 3
  clear hmv
  go_wp2_with fail
  refine HMV.out.mono ?_
  rintro e w1 ⟨u, rfl, hb1, hu⟩
  obtain ⟨cv1, fv1, q1, rfl, hp1⟩ := hu
  obtain ⟨a1, c1, rfl⟩ := hp1.pt.rows.form
  obtain ⟨fa1, fc1, rfl⟩ := hp1.pt.frs.form
  have hB1 := Below.next hB0 hb1
  have e1 := HBT.out.below hb1
  have t0 : w1.cell? ⟨w.heap.size + 2, 0, none⟩ = some (.int .i64 0) := e1.cell 0
  have t1 : w1.cell? ⟨w.heap.size + 2, 1, none⟩ = some (.slice none 0 0) := e1.cell 1
  have t2 : w1.cell? ⟨w.heap.size + 2, 2, none⟩ = some (.slice none 0 0) := e1.cell 2
  have z0 := e1.frozen 0
  have z1 := e1.frozen 1
  have z2 := e1.frozen 2
  have HB1 := Lib.hid hB1
  have HP1 := Lib.hid hp1
  clear hb1 hp1 hB1 e1
  go_wp2_with fail
  refine bodyPost_ret (v := .tuple #[.agg #[.int .i64 XE.ds, .slice a1 q1.length c1, .slice fa1 XE.fr.length fc1], .int .i64 er]) (by simp [results, Try.results23, go_sem, t0, t1, t2]) rfl ⟨_, rfl, ?_, ⟨_, _, q1, rfl, ?_⟩⟩
  · exact ((HB1.out.setCell (p := ⟨w.heap.size + 2, 0, none⟩) (by show w.heap.size ≤ w.heap.size + 2; omega) _).setCell (p := ⟨w.heap.size + 2, 1, none⟩) (by show w.heap.size ≤ w.heap.size + 2; omega) _).setCell (p := ⟨w.heap.size + 2, 2, none⟩) (by show w.heap.size ≤ w.heap.size + 2; omega) _
  · exact (((HP1.out.set (p := ⟨w.heap.size + 2, 0, none⟩) _ (by show w.heap.size + 2 < W.heap.size; omega)).set (p := ⟨w.heap.size + 2, 1, none⟩) _ (by show w.heap.size + 2 < W.heap.size; omega)).set (p := ⟨w.heap.size + 2, 2, none⟩) _ (by show w.heap.size + 2 < W.heap.size; omega)).mono (by omega)
end Go.Proofs.Ytnkpjfogjkjcfaa
