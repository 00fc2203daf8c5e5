

/- Links: what undoes a fault, in both texts. -/
import Derived.Test.YtimkeafpefkheaaDoorSs
namespace Go.Proofs.YtimkeafpefkheaaDoor
open Go.RowKit
set_option linter.unusedSimpArgs false
set_option linter.unusedVariables false
set_option maxRecDepth 100000

/-- the fault that restores the link -/
def undoV (l : List Fr) (t : Tr) : Tr × Bool × Int :=
  if apE l t ≠ 0 then (⟨0, 0, 0, 0⟩, false, apE l t) else if t.k = 2 then (⟨1, t.i, 0, 0⟩, true, 0) else if t.k = 3 ∨ t.k = 4 then (t, true, 0) else (⟨0, 0, 0, 0⟩, false, 0)
def UdR (w : World) (r : Tr × Bool × Int) (x : Ending) (w' : World) : Prop := x = .returned (.tuple #[r.1.v, .bool r.2.1, .int .i64 r.2.2]) ∧ Below w.heap.size w w'
set_option maxHeartbeats 4000000 in
theorem undo_any (v : Value) (l : List Fr) (hz : Szs l) (t : Tr) (hk : Ib t.k) (hi : Ib t.i) (w : World) (hkd : KD w) (h : RdT w v l) :
    Calls Tryd.prog 22 #[v, t.v] w (UdR w (undoV l t)) := by
  unfold UdR undoV
  by_cases h1 : apE l t ≠ 0
  · rw [if_pos h1]
    obtain ⟨e, he⟩ : ∃ e, apE l t = e := ⟨_, rfl⟩
    rw [he] at h1 ⊢
    have HE := Lib.hid he
    have d1 : (e != 0) = true := by simpa using h1
    clear h1 he
    go_enter Tryd.func22, Tryd.ntmps22
    go_wp2_with fail
    refine (apply_any v l hz t hk hi _ (hkd.keep (by repeat (first | assumption | exact Below.refl _ _ | apply Below.al | apply below_drewN | apply Below.drew | refine Below.next ?_ (by assumption)))) (h.keep (by repeat (first | assumption | exact Below.refl _ _ | apply Below.al | apply below_drewN | apply Below.drew | refine Below.next ?_ (by assumption))))).mono ?_
    rintro x w1 ⟨v1, rfl, hrd, hb1⟩
    rw [HE.out]
    obtain ⟨W, hW⟩ : ∃ W : World, W = (w.alloc (.cells #[.int .i64 t.k, .int .i64 t.i, .int .i64 t.j, .int .i64 t.b] 36)).alloc (.cells #[.int .i64 0, .int .i64 0, .int .i64 0, .int .i64 0] 36) := ⟨_, rfl⟩
    rw [← hW] at hb1
    have hB : Below w.heap.size w W := by rw [hW]; exact (by repeat (first | assumption | exact Below.refl _ _ | apply Below.al | apply below_drewN | apply Below.drew | refine Below.next ?_ (by assumption)))
    have c0 := cell_later hb1 (show W.cell? ⟨w.heap.size, 0, none⟩ = some (.int .i64 t.k) by rw [hW]; exact cell_al _ ((BoxN.new w _ _).cell 0))
    have c1 := cell_later hb1 (show W.cell? ⟨w.heap.size, 1, none⟩ = some (.int .i64 t.i) by rw [hW]; exact cell_al _ ((BoxN.new w _ _).cell 1))
    have c2 := cell_later hb1 (show W.cell? ⟨w.heap.size, 2, none⟩ = some (.int .i64 t.j) by rw [hW]; exact cell_al _ ((BoxN.new w _ _).cell 2))
    have c3 := cell_later hb1 (show W.cell? ⟨w.heap.size, 3, none⟩ = some (.int .i64 t.b) by rw [hW]; exact cell_al _ ((BoxN.new w _ _).cell 3))
    have bR : BoxN w1 (w.heap.size + 1) 36 #[.int .i64 0, .int .i64 0, .int .i64 0, .int .i64 0] := (show BoxN W (w.heap.size + 1) 36 #[.int .i64 0, .int .i64 0, .int .i64 0, .int .i64 0] by rw [hW]; have := BoxN.new (w.alloc (.cells #[.int .i64 t.k, .int .i64 t.i, .int .i64 t.j, .int .i64 t.b] 36)) 36 #[.int .i64 0, .int .i64 0, .int .i64 0, .int .i64 0]; simpa using this).below hb1
    clear hW
    have r0 : w1.cell? ⟨w.heap.size + 1, 0, none⟩ = some (.int .i64 0) := bR.cell 0
    have r1 : w1.cell? ⟨w.heap.size + 1, 1, none⟩ = some (.int .i64 0) := bR.cell 1
    have r2 : w1.cell? ⟨w.heap.size + 1, 2, none⟩ = some (.int .i64 0) := bR.cell 2
    have r3 : w1.cell? ⟨w.heap.size + 1, 3, none⟩ = some (.int .i64 0) := bR.cell 3
    have z0 := bR.frozen 0
    have z1 := bR.frozen 1
    have z2 := bR.frozen 2
    have z3 := bR.frozen 3
    have hB1 := Below.next hB hb1
    go_wp2_with fail
    refine bodyPost_ret (v := .tuple #[.agg #[.int .i64 0, .int .i64 0, .int .i64 0, .int .i64 0], .bool false, .int .i64 e]) (by simp [results, Tryd.results22, go_sem, r0, r1, r2, r3]) rfl ⟨rfl, ?_⟩
    exact (((hB1.setCell (p := ⟨w.heap.size + 1, 0, none⟩) (Nat.le_succ _) _).setCell (p := ⟨w.heap.size + 1, 1, none⟩) (Nat.le_succ _) _).setCell (p := ⟨w.heap.size + 1, 2, none⟩) (Nat.le_succ _) _).setCell (p := ⟨w.heap.size + 1, 3, none⟩) (Nat.le_succ _) _
  · rw [if_neg h1]
    have HE : Hid (apE l t = 0) := by unfold Hid; omega
    clear h1
    by_cases g2 : t.k = 2
    · rw [if_pos g2]
      have d2 : (t.k == 2) = true := by simp [g2]
      clear g2
      go_enter Tryd.func22, Tryd.ntmps22
      go_wp2_with fail
      refine (apply_any v l hz t hk hi _ (hkd.keep (by repeat (first | assumption | exact Below.refl _ _ | apply Below.al | apply below_drewN | apply Below.drew | refine Below.next ?_ (by assumption)))) (h.keep (by repeat (first | assumption | exact Below.refl _ _ | apply Below.al | apply below_drewN | apply Below.drew | refine Below.next ?_ (by assumption))))).mono ?_
      rintro x w1 ⟨v1, rfl, hrd, hb1⟩
      rw [HE.out]
      obtain ⟨W, hW⟩ : ∃ W : World, W = (w.alloc (.cells #[.int .i64 t.k, .int .i64 t.i, .int .i64 t.j, .int .i64 t.b] 36)).alloc (.cells #[.int .i64 0, .int .i64 0, .int .i64 0, .int .i64 0] 36) := ⟨_, rfl⟩
      rw [← hW] at hb1
      have hB : Below w.heap.size w W := by rw [hW]; exact (by repeat (first | assumption | exact Below.refl _ _ | apply Below.al | apply below_drewN | apply Below.drew | refine Below.next ?_ (by assumption)))
      have c0 := cell_later hb1 (show W.cell? ⟨w.heap.size, 0, none⟩ = some (.int .i64 t.k) by rw [hW]; exact cell_al _ ((BoxN.new w _ _).cell 0))
      have c1 := cell_later hb1 (show W.cell? ⟨w.heap.size, 1, none⟩ = some (.int .i64 t.i) by rw [hW]; exact cell_al _ ((BoxN.new w _ _).cell 1))
      have c2 := cell_later hb1 (show W.cell? ⟨w.heap.size, 2, none⟩ = some (.int .i64 t.j) by rw [hW]; exact cell_al _ ((BoxN.new w _ _).cell 2))
      have c3 := cell_later hb1 (show W.cell? ⟨w.heap.size, 3, none⟩ = some (.int .i64 t.b) by rw [hW]; exact cell_al _ ((BoxN.new w _ _).cell 3))
      have bR : BoxN w1 (w.heap.size + 1) 36 #[.int .i64 0, .int .i64 0, .int .i64 0, .int .i64 0] := (show BoxN W (w.heap.size + 1) 36 #[.int .i64 0, .int .i64 0, .int .i64 0, .int .i64 0] by rw [hW]; have := BoxN.new (w.alloc (.cells #[.int .i64 t.k, .int .i64 t.i, .int .i64 t.j, .int .i64 t.b] 36)) 36 #[.int .i64 0, .int .i64 0, .int .i64 0, .int .i64 0]; simpa using this).below hb1
      clear hW
      have r0 : w1.cell? ⟨w.heap.size + 1, 0, none⟩ = some (.int .i64 0) := bR.cell 0
      have r1 : w1.cell? ⟨w.heap.size + 1, 1, none⟩ = some (.int .i64 0) := bR.cell 1
      have r2 : w1.cell? ⟨w.heap.size + 1, 2, none⟩ = some (.int .i64 0) := bR.cell 2
      have r3 : w1.cell? ⟨w.heap.size + 1, 3, none⟩ = some (.int .i64 0) := bR.cell 3
      have z0 := bR.frozen 0
      have z1 := bR.frozen 1
      have z2 := bR.frozen 2
      have z3 := bR.frozen 3
      have hB1 := Below.next hB hb1
      go_wp2_with fail
      refine bodyPost_ret (v := .tuple #[.agg #[.int .i64 1, .int .i64 t.i, .int .i64 0, .int .i64 0], .bool true, .int .i64 0]) (by simp [results, Tryd.results22, go_sem, r0, r1, r2, r3]) rfl ⟨rfl, ?_⟩
      exact (((hB1.setCell (p := ⟨w.heap.size + 1, 0, none⟩) (Nat.le_succ _) _).setCell (p := ⟨w.heap.size + 1, 1, none⟩) (Nat.le_succ _) _).setCell (p := ⟨w.heap.size + 1, 2, none⟩) (Nat.le_succ _) _).setCell (p := ⟨w.heap.size + 1, 3, none⟩) (Nat.le_succ _) _
    · rw [if_neg g2]
      have d2 : (t.k == 2) = false := by simpa using g2
      by_cases g3 : t.k = 3 ∨ t.k = 4
      · rw [if_pos g3]
        by_cases g4 : t.k = 3
        · have d3 : (t.k == 3) = true := by simp [g4]
          clear g2 g3 g4
          go_enter Tryd.func22, Tryd.ntmps22
          go_wp2_with fail
          refine (apply_any v l hz t hk hi _ (hkd.keep (by repeat (first | assumption | exact Below.refl _ _ | apply Below.al | apply below_drewN | apply Below.drew | refine Below.next ?_ (by assumption)))) (h.keep (by repeat (first | assumption | exact Below.refl _ _ | apply Below.al | apply below_drewN | apply Below.drew | refine Below.next ?_ (by assumption))))).mono ?_
          rintro x w1 ⟨v1, rfl, hrd, hb1⟩
          rw [HE.out]
          obtain ⟨W, hW⟩ : ∃ W : World, W = (w.alloc (.cells #[.int .i64 t.k, .int .i64 t.i, .int .i64 t.j, .int .i64 t.b] 36)).alloc (.cells #[.int .i64 0, .int .i64 0, .int .i64 0, .int .i64 0] 36) := ⟨_, rfl⟩
          rw [← hW] at hb1
          have hB : Below w.heap.size w W := by rw [hW]; exact (by repeat (first | assumption | exact Below.refl _ _ | apply Below.al | apply below_drewN | apply Below.drew | refine Below.next ?_ (by assumption)))
          have c0 := cell_later hb1 (show W.cell? ⟨w.heap.size, 0, none⟩ = some (.int .i64 t.k) by rw [hW]; exact cell_al _ ((BoxN.new w _ _).cell 0))
          have c1 := cell_later hb1 (show W.cell? ⟨w.heap.size, 1, none⟩ = some (.int .i64 t.i) by rw [hW]; exact cell_al _ ((BoxN.new w _ _).cell 1))
          have c2 := cell_later hb1 (show W.cell? ⟨w.heap.size, 2, none⟩ = some (.int .i64 t.j) by rw [hW]; exact cell_al _ ((BoxN.new w _ _).cell 2))
          have c3 := cell_later hb1 (show W.cell? ⟨w.heap.size, 3, none⟩ = some (.int .i64 t.b) by rw [hW]; exact cell_al _ ((BoxN.new w _ _).cell 3))
          have bR : BoxN w1 (w.heap.size + 1) 36 #[.int .i64 0, .int .i64 0, .int .i64 0, .int .i64 0] := (show BoxN W (w.heap.size + 1) 36 #[.int .i64 0, .int .i64 0, .int .i64 0, .int .i64 0] by rw [hW]; have := BoxN.new (w.alloc (.cells #[.int .i64 t.k, .int .i64 t.i, .int .i64 t.j, .int .i64 t.b] 36)) 36 #[.int .i64 0, .int .i64 0, .int .i64 0, .int .i64 0]; simpa using this).below hb1
          clear hW
          have r0 : w1.cell? ⟨w.heap.size + 1, 0, none⟩ = some (.int .i64 0) := bR.cell 0
          have r1 : w1.cell? ⟨w.heap.size + 1, 1, none⟩ = some (.int .i64 0) := bR.cell 1
          have r2 : w1.cell? ⟨w.heap.size + 1, 2, none⟩ = some (.int .i64 0) := bR.cell 2
          have r3 : w1.cell? ⟨w.heap.size + 1, 3, none⟩ = some (.int .i64 0) := bR.cell 3
          have z0 := bR.frozen 0
          have z1 := bR.frozen 1
          have z2 := bR.frozen 2
          have z3 := bR.frozen 3
          have hB1 := Below.next hB hb1
          go_wp2_with fail
          refine bodyPost_ret (v := .tuple #[.agg #[.int .i64 t.k, .int .i64 t.i, .int .i64 t.j, .int .i64 t.b], .bool true, .int .i64 0]) (by simp [results, Tryd.results22, go_sem, r0, r1, r2, r3]) rfl ⟨rfl, ?_⟩
          exact (((hB1.setCell (p := ⟨w.heap.size + 1, 0, none⟩) (Nat.le_succ _) _).setCell (p := ⟨w.heap.size + 1, 1, none⟩) (Nat.le_succ _) _).setCell (p := ⟨w.heap.size + 1, 2, none⟩) (Nat.le_succ _) _).setCell (p := ⟨w.heap.size + 1, 3, none⟩) (Nat.le_succ _) _
        · have d3 : (t.k == 3) = false := by simpa using g4
          have d4 : (t.k == 4) = true := by simp; omega
          clear g2 g3 g4
          go_enter Tryd.func22, Tryd.ntmps22
          go_wp2_with fail
          refine (apply_any v l hz t hk hi _ (hkd.keep (by repeat (first | assumption | exact Below.refl _ _ | apply Below.al | apply below_drewN | apply Below.drew | refine Below.next ?_ (by assumption)))) (h.keep (by repeat (first | assumption | exact Below.refl _ _ | apply Below.al | apply below_drewN | apply Below.drew | refine Below.next ?_ (by assumption))))).mono ?_
          rintro x w1 ⟨v1, rfl, hrd, hb1⟩
          rw [HE.out]
          obtain ⟨W, hW⟩ : ∃ W : World, W = (w.alloc (.cells #[.int .i64 t.k, .int .i64 t.i, .int .i64 t.j, .int .i64 t.b] 36)).alloc (.cells #[.int .i64 0, .int .i64 0, .int .i64 0, .int .i64 0] 36) := ⟨_, rfl⟩
          rw [← hW] at hb1
          have hB : Below w.heap.size w W := by rw [hW]; exact (by repeat (first | assumption | exact Below.refl _ _ | apply Below.al | apply below_drewN | apply Below.drew | refine Below.next ?_ (by assumption)))
          have c0 := cell_later hb1 (show W.cell? ⟨w.heap.size, 0, none⟩ = some (.int .i64 t.k) by rw [hW]; exact cell_al _ ((BoxN.new w _ _).cell 0))
          have c1 := cell_later hb1 (show W.cell? ⟨w.heap.size, 1, none⟩ = some (.int .i64 t.i) by rw [hW]; exact cell_al _ ((BoxN.new w _ _).cell 1))
          have c2 := cell_later hb1 (show W.cell? ⟨w.heap.size, 2, none⟩ = some (.int .i64 t.j) by rw [hW]; exact cell_al _ ((BoxN.new w _ _).cell 2))
          have c3 := cell_later hb1 (show W.cell? ⟨w.heap.size, 3, none⟩ = some (.int .i64 t.b) by rw [hW]; exact cell_al _ ((BoxN.new w _ _).cell 3))
          have bR : BoxN w1 (w.heap.size + 1) 36 #[.int .i64 0, .int .i64 0, .int .i64 0, .int .i64 0] := (show BoxN W (w.heap.size + 1) 36 #[.int .i64 0, .int .i64 0, .int .i64 0, .int .i64 0] by rw [hW]; have := BoxN.new (w.alloc (.cells #[.int .i64 t.k, .int .i64 t.i, .int .i64 t.j, .int .i64 t.b] 36)) 36 #[.int .i64 0, .int .i64 0, .int .i64 0, .int .i64 0]; simpa using this).below hb1
          clear hW
          have r0 : w1.cell? ⟨w.heap.size + 1, 0, none⟩ = some (.int .i64 0) := bR.cell 0
          have r1 : w1.cell? ⟨w.heap.size + 1, 1, none⟩ = some (.int .i64 0) := bR.cell 1
          have r2 : w1.cell? ⟨w.heap.size + 1, 2, none⟩ = some (.int .i64 0) := bR.cell 2
          have r3 : w1.cell? ⟨w.heap.size + 1, 3, none⟩ = some (.int .i64 0) := bR.cell 3
          have z0 := bR.frozen 0
          have z1 := bR.frozen 1
          have z2 := bR.frozen 2
          have z3 := bR.frozen 3
          have hB1 := Below.next hB hb1
          go_wp2_with fail
          refine bodyPost_ret (v := .tuple #[.agg #[.int .i64 t.k, .int .i64 t.i, .int .i64 t.j, .int .i64 t.b], .bool true, .int .i64 0]) (by simp [results, Tryd.results22, go_sem, r0, r1, r2, r3]) rfl ⟨rfl, ?_⟩
          exact (((hB1.setCell (p := ⟨w.heap.size + 1, 0, none⟩) (Nat.le_succ _) _).setCell (p := ⟨w.heap.size + 1, 1, none⟩) (Nat.le_succ _) _).setCell (p := ⟨w.heap.size + 1, 2, none⟩) (Nat.le_succ _) _).setCell (p := ⟨w.heap.size + 1, 3, none⟩) (Nat.le_succ _) _
      · rw [if_neg g3]
        have d3 : (t.k == 3) = false := by simp; omega
        have d4 : (t.k == 4) = false := by simp; omega
        clear g2 g3
        go_enter Tryd.func22, Tryd.ntmps22
        go_wp2_with fail
        refine (apply_any v l hz t hk hi _ (hkd.keep (by repeat (first | assumption | exact Below.refl _ _ | apply Below.al | apply below_drewN | apply Below.drew | refine Below.next ?_ (by assumption)))) (h.keep (by repeat (first | assumption | exact Below.refl _ _ | apply Below.al | apply below_drewN | apply Below.drew | refine Below.next ?_ (by assumption))))).mono ?_
        rintro x w1 ⟨v1, rfl, hrd, hb1⟩
        rw [HE.out]
        obtain ⟨W, hW⟩ : ∃ W : World, W = (w.alloc (.cells #[.int .i64 t.k, .int .i64 t.i, .int .i64 t.j, .int .i64 t.b] 36)).alloc (.cells #[.int .i64 0, .int .i64 0, .int .i64 0, .int .i64 0] 36) := ⟨_, rfl⟩
        rw [← hW] at hb1
        have hB : Below w.heap.size w W := by rw [hW]; exact (by repeat (first | assumption | exact Below.refl _ _ | apply Below.al | apply below_drewN | apply Below.drew | refine Below.next ?_ (by assumption)))
        have c0 := cell_later hb1 (show W.cell? ⟨w.heap.size, 0, none⟩ = some (.int .i64 t.k) by rw [hW]; exact cell_al _ ((BoxN.new w _ _).cell 0))
        have c1 := cell_later hb1 (show W.cell? ⟨w.heap.size, 1, none⟩ = some (.int .i64 t.i) by rw [hW]; exact cell_al _ ((BoxN.new w _ _).cell 1))
        have c2 := cell_later hb1 (show W.cell? ⟨w.heap.size, 2, none⟩ = some (.int .i64 t.j) by rw [hW]; exact cell_al _ ((BoxN.new w _ _).cell 2))
        have c3 := cell_later hb1 (show W.cell? ⟨w.heap.size, 3, none⟩ = some (.int .i64 t.b) by rw [hW]; exact cell_al _ ((BoxN.new w _ _).cell 3))
        have bR : BoxN w1 (w.heap.size + 1) 36 #[.int .i64 0, .int .i64 0, .int .i64 0, .int .i64 0] := (show BoxN W (w.heap.size + 1) 36 #[.int .i64 0, .int .i64 0, .int .i64 0, .int .i64 0] by rw [hW]; have := BoxN.new (w.alloc (.cells #[.int .i64 t.k, .int .i64 t.i, .int .i64 t.j, .int .i64 t.b] 36)) 36 #[.int .i64 0, .int .i64 0, .int .i64 0, .int .i64 0]; simpa using this).below hb1
        clear hW
        have r0 : w1.cell? ⟨w.heap.size + 1, 0, none⟩ = some (.int .i64 0) := bR.cell 0
        have r1 : w1.cell? ⟨w.heap.size + 1, 1, none⟩ = some (.int .i64 0) := bR.cell 1
        have r2 : w1.cell? ⟨w.heap.size + 1, 2, none⟩ = some (.int .i64 0) := bR.cell 2
        have r3 : w1.cell? ⟨w.heap.size + 1, 3, none⟩ = some (.int .i64 0) := bR.cell 3
        have z0 := bR.frozen 0
        have z1 := bR.frozen 1
        have z2 := bR.frozen 2
        have z3 := bR.frozen 3
        have hB1 := Below.next hB hb1
        go_wp2_with fail
        refine bodyPost_ret (v := .tuple #[.agg #[.int .i64 0, .int .i64 0, .int .i64 0, .int .i64 0], .bool false, .int .i64 0]) (by simp [results, Tryd.results22, go_sem, r0, r1, r2, r3]) rfl ⟨rfl, ?_⟩
        exact (((hB1.setCell (p := ⟨w.heap.size + 1, 0, none⟩) (Nat.le_succ _) _).setCell (p := ⟨w.heap.size + 1, 1, none⟩) (Nat.le_succ _) _).setCell (p := ⟨w.heap.size + 1, 2, none⟩) (Nat.le_succ _) _).setCell (p := ⟨w.heap.size + 1, 3, none⟩) (Nat.le_succ _) _
set_option maxHeartbeats 4000000 in
theorem rundo_any (v : Value) (l : List Fr) (hz : Szs l) (t : Tr) (hk : Ib t.k) (hi : Ib t.i) (w : World) (h : RdT w v l) :
    Calls Tryd.prog 23 #[v, t.v] w (UdR w (undoV l t)) := by
  unfold UdR undoV
  by_cases h1 : apE l t ≠ 0
  · rw [if_pos h1]
    obtain ⟨e, he⟩ : ∃ e, apE l t = e := ⟨_, rfl⟩
    rw [he] at h1 ⊢
    have HE := Lib.hid he
    have d1 : (e != 0) = true := by simpa using h1
    clear h1 he
    go_enter Tryd.func23, Tryd.ntmps23
    go_wp2_with fail
    refine (rapply_any v l hz t hk hi _ (h.keep (by repeat (first | assumption | exact Below.refl _ _ | apply Below.al | apply below_drewN | apply Below.drew | refine Below.next ?_ (by assumption))))).mono ?_
    rintro x w1 ⟨v1, rfl, hrd, hb1⟩
    rw [HE.out]
    obtain ⟨W, hW⟩ : ∃ W : World, W = (w.alloc (.cells #[.int .i64 t.k, .int .i64 t.i, .int .i64 t.j, .int .i64 t.b] 36)).alloc (.cells #[.int .i64 0, .int .i64 0, .int .i64 0, .int .i64 0] 36) := ⟨_, rfl⟩
    rw [← hW] at hb1
    have hB : Below w.heap.size w W := by rw [hW]; exact (by repeat (first | assumption | exact Below.refl _ _ | apply Below.al | apply below_drewN | apply Below.drew | refine Below.next ?_ (by assumption)))
    have c0 := cell_later hb1 (show W.cell? ⟨w.heap.size, 0, none⟩ = some (.int .i64 t.k) by rw [hW]; exact cell_al _ ((BoxN.new w _ _).cell 0))
    have c1 := cell_later hb1 (show W.cell? ⟨w.heap.size, 1, none⟩ = some (.int .i64 t.i) by rw [hW]; exact cell_al _ ((BoxN.new w _ _).cell 1))
    have c2 := cell_later hb1 (show W.cell? ⟨w.heap.size, 2, none⟩ = some (.int .i64 t.j) by rw [hW]; exact cell_al _ ((BoxN.new w _ _).cell 2))
    have c3 := cell_later hb1 (show W.cell? ⟨w.heap.size, 3, none⟩ = some (.int .i64 t.b) by rw [hW]; exact cell_al _ ((BoxN.new w _ _).cell 3))
    have bR : BoxN w1 (w.heap.size + 1) 36 #[.int .i64 0, .int .i64 0, .int .i64 0, .int .i64 0] := (show BoxN W (w.heap.size + 1) 36 #[.int .i64 0, .int .i64 0, .int .i64 0, .int .i64 0] by rw [hW]; have := BoxN.new (w.alloc (.cells #[.int .i64 t.k, .int .i64 t.i, .int .i64 t.j, .int .i64 t.b] 36)) 36 #[.int .i64 0, .int .i64 0, .int .i64 0, .int .i64 0]; simpa using this).below hb1
    clear hW
    have r0 : w1.cell? ⟨w.heap.size + 1, 0, none⟩ = some (.int .i64 0) := bR.cell 0
    have r1 : w1.cell? ⟨w.heap.size + 1, 1, none⟩ = some (.int .i64 0) := bR.cell 1
    have r2 : w1.cell? ⟨w.heap.size + 1, 2, none⟩ = some (.int .i64 0) := bR.cell 2
    have r3 : w1.cell? ⟨w.heap.size + 1, 3, none⟩ = some (.int .i64 0) := bR.cell 3
    have z0 := bR.frozen 0
    have z1 := bR.frozen 1
    have z2 := bR.frozen 2
    have z3 := bR.frozen 3
    have hB1 := Below.next hB hb1
    go_wp2_with fail
    refine bodyPost_ret (v := .tuple #[.agg #[.int .i64 0, .int .i64 0, .int .i64 0, .int .i64 0], .bool false, .int .i64 e]) (by simp [results, Tryd.results23, go_sem, r0, r1, r2, r3]) rfl ⟨rfl, ?_⟩
    exact (((hB1.setCell (p := ⟨w.heap.size + 1, 0, none⟩) (Nat.le_succ _) _).setCell (p := ⟨w.heap.size + 1, 1, none⟩) (Nat.le_succ _) _).setCell (p := ⟨w.heap.size + 1, 2, none⟩) (Nat.le_succ _) _).setCell (p := ⟨w.heap.size + 1, 3, none⟩) (Nat.le_succ _) _
  · rw [if_neg h1]
    have HE : Hid (apE l t = 0) := by unfold Hid; omega
    clear h1
    by_cases g2 : t.k = 2
    · rw [if_pos g2]
      have d2 : (t.k == 2) = true := by simp [g2]
      clear g2
      go_enter Tryd.func23, Tryd.ntmps23
      go_wp2_with fail
      refine (rapply_any v l hz t hk hi _ (h.keep (by repeat (first | assumption | exact Below.refl _ _ | apply Below.al | apply below_drewN | apply Below.drew | refine Below.next ?_ (by assumption))))).mono ?_
      rintro x w1 ⟨v1, rfl, hrd, hb1⟩
      rw [HE.out]
      obtain ⟨W, hW⟩ : ∃ W : World, W = (w.alloc (.cells #[.int .i64 t.k, .int .i64 t.i, .int .i64 t.j, .int .i64 t.b] 36)).alloc (.cells #[.int .i64 0, .int .i64 0, .int .i64 0, .int .i64 0] 36) := ⟨_, rfl⟩
      rw [← hW] at hb1
      have hB : Below w.heap.size w W := by rw [hW]; exact (by repeat (first | assumption | exact Below.refl _ _ | apply Below.al | apply below_drewN | apply Below.drew | refine Below.next ?_ (by assumption)))
      have c0 := cell_later hb1 (show W.cell? ⟨w.heap.size, 0, none⟩ = some (.int .i64 t.k) by rw [hW]; exact cell_al _ ((BoxN.new w _ _).cell 0))
      have c1 := cell_later hb1 (show W.cell? ⟨w.heap.size, 1, none⟩ = some (.int .i64 t.i) by rw [hW]; exact cell_al _ ((BoxN.new w _ _).cell 1))
      have c2 := cell_later hb1 (show W.cell? ⟨w.heap.size, 2, none⟩ = some (.int .i64 t.j) by rw [hW]; exact cell_al _ ((BoxN.new w _ _).cell 2))
      have c3 := cell_later hb1 (show W.cell? ⟨w.heap.size, 3, none⟩ = some (.int .i64 t.b) by rw [hW]; exact cell_al _ ((BoxN.new w _ _).cell 3))
      have bR : BoxN w1 (w.heap.size + 1) 36 #[.int .i64 0, .int .i64 0, .int .i64 0, .int .i64 0] := (show BoxN W (w.heap.size + 1) 36 #[.int .i64 0, .int .i64 0, .int .i64 0, .int .i64 0] by rw [hW]; have := BoxN.new (w.alloc (.cells #[.int .i64 t.k, .int .i64 t.i, .int .i64 t.j, .int .i64 t.b] 36)) 36 #[.int .i64 0, .int .i64 0, .int .i64 0, .int .i64 0]; simpa using this).below hb1
      clear hW
      have r0 : w1.cell? ⟨w.heap.size + 1, 0, none⟩ = some (.int .i64 0) := bR.cell 0
      have r1 : w1.cell? ⟨w.heap.size + 1, 1, none⟩ = some (.int .i64 0) := bR.cell 1
      have r2 : w1.cell? ⟨w.heap.size + 1, 2, none⟩ = some (.int .i64 0) := bR.cell 2
      have r3 : w1.cell? ⟨w.heap.size + 1, 3, none⟩ = some (.int .i64 0) := bR.cell 3
      have z0 := bR.frozen 0
      have z1 := bR.frozen 1
      have z2 := bR.frozen 2
      have z3 := bR.frozen 3
      have hB1 := Below.next hB hb1
      go_wp2_with fail
      refine bodyPost_ret (v := .tuple #[.agg #[.int .i64 1, .int .i64 t.i, .int .i64 0, .int .i64 0], .bool true, .int .i64 0]) (by simp [results, Tryd.results23, go_sem, r0, r1, r2, r3]) rfl ⟨rfl, ?_⟩
      exact (((hB1.setCell (p := ⟨w.heap.size + 1, 0, none⟩) (Nat.le_succ _) _).setCell (p := ⟨w.heap.size + 1, 1, none⟩) (Nat.le_succ _) _).setCell (p := ⟨w.heap.size + 1, 2, none⟩) (Nat.le_succ _) _).setCell (p := ⟨w.heap.size + 1, 3, none⟩) (Nat.le_succ _) _
    · rw [if_neg g2]
      have d2 : (t.k == 2) = false := by simpa using g2
      by_cases g3 : t.k = 3 ∨ t.k = 4
      · rw [if_pos g3]
        by_cases g4 : t.k = 3
        · have d3 : (t.k == 3) = true := by simp [g4]
          clear g2 g3 g4
          go_enter Tryd.func23, Tryd.ntmps23
          go_wp2_with fail
          refine (rapply_any v l hz t hk hi _ (h.keep (by repeat (first | assumption | exact Below.refl _ _ | apply Below.al | apply below_drewN | apply Below.drew | refine Below.next ?_ (by assumption))))).mono ?_
          rintro x w1 ⟨v1, rfl, hrd, hb1⟩
          rw [HE.out]
          obtain ⟨W, hW⟩ : ∃ W : World, W = (w.alloc (.cells #[.int .i64 t.k, .int .i64 t.i, .int .i64 t.j, .int .i64 t.b] 36)).alloc (.cells #[.int .i64 0, .int .i64 0, .int .i64 0, .int .i64 0] 36) := ⟨_, rfl⟩
          rw [← hW] at hb1
          have hB : Below w.heap.size w W := by rw [hW]; exact (by repeat (first | assumption | exact Below.refl _ _ | apply Below.al | apply below_drewN | apply Below.drew | refine Below.next ?_ (by assumption)))
          have c0 := cell_later hb1 (show W.cell? ⟨w.heap.size, 0, none⟩ = some (.int .i64 t.k) by rw [hW]; exact cell_al _ ((BoxN.new w _ _).cell 0))
          have c1 := cell_later hb1 (show W.cell? ⟨w.heap.size, 1, none⟩ = some (.int .i64 t.i) by rw [hW]; exact cell_al _ ((BoxN.new w _ _).cell 1))
          have c2 := cell_later hb1 (show W.cell? ⟨w.heap.size, 2, none⟩ = some (.int .i64 t.j) by rw [hW]; exact cell_al _ ((BoxN.new w _ _).cell 2))
          have c3 := cell_later hb1 (show W.cell? ⟨w.heap.size, 3, none⟩ = some (.int .i64 t.b) by rw [hW]; exact cell_al _ ((BoxN.new w _ _).cell 3))
          have bR : BoxN w1 (w.heap.size + 1) 36 #[.int .i64 0, .int .i64 0, .int .i64 0, .int .i64 0] := (show BoxN W (w.heap.size + 1) 36 #[.int .i64 0, .int .i64 0, .int .i64 0, .int .i64 0] by rw [hW]; have := BoxN.new (w.alloc (.cells #[.int .i64 t.k, .int .i64 t.i, .int .i64 t.j, .int .i64 t.b] 36)) 36 #[.int .i64 0, .int .i64 0, .int .i64 0, .int .i64 0]; simpa using this).below hb1
          clear hW
          have r0 : w1.cell? ⟨w.heap.size + 1, 0, none⟩ = some (.int .i64 0) := bR.cell 0
          have r1 : w1.cell? ⟨w.heap.size + 1, 1, none⟩ = some (.int .i64 0) := bR.cell 1
          have r2 : w1.cell? ⟨w.heap.size + 1, 2, none⟩ = some (.int .i64 0) := bR.cell 2
          have r3 : w1.cell? ⟨w.heap.size + 1, 3, none⟩ = some (.int .i64 0) := bR.cell 3
          have z0 := bR.frozen 0
          have z1 := bR.frozen 1
          have z2 := bR.frozen 2
          have z3 := bR.frozen 3
          have hB1 := Below.next hB hb1
          go_wp2_with fail
          refine bodyPost_ret (v := .tuple #[.agg #[.int .i64 t.k, .int .i64 t.i, .int .i64 t.j, .int .i64 t.b], .bool true, .int .i64 0]) (by simp [results, Tryd.results23, go_sem, r0, r1, r2, r3]) rfl ⟨rfl, ?_⟩
          exact (((hB1.setCell (p := ⟨w.heap.size + 1, 0, none⟩) (Nat.le_succ _) _).setCell (p := ⟨w.heap.size + 1, 1, none⟩) (Nat.le_succ _) _).setCell (p := ⟨w.heap.size + 1, 2, none⟩) (Nat.le_succ _) _).setCell (p := ⟨w.heap.size + 1, 3, none⟩) (Nat.le_succ _) _
        · have d3 : (t.k == 3) = false := by simpa using g4
          have d4 : (t.k == 4) = true := by simp; omega
          clear g2 g3 g4
          go_enter Tryd.func23, Tryd.ntmps23
          go_wp2_with fail
          refine (rapply_any v l hz t hk hi _ (h.keep (by repeat (first | assumption | exact Below.refl _ _ | apply Below.al | apply below_drewN | apply Below.drew | refine Below.next ?_ (by assumption))))).mono ?_
          rintro x w1 ⟨v1, rfl, hrd, hb1⟩
          rw [HE.out]
          obtain ⟨W, hW⟩ : ∃ W : World, W = (w.alloc (.cells #[.int .i64 t.k, .int .i64 t.i, .int .i64 t.j, .int .i64 t.b] 36)).alloc (.cells #[.int .i64 0, .int .i64 0, .int .i64 0, .int .i64 0] 36) := ⟨_, rfl⟩
          rw [← hW] at hb1
          have hB : Below w.heap.size w W := by rw [hW]; exact (by repeat (first | assumption | exact Below.refl _ _ | apply Below.al | apply below_drewN | apply Below.drew | refine Below.next ?_ (by assumption)))
          have c0 := cell_later hb1 (show W.cell? ⟨w.heap.size, 0, none⟩ = some (.int .i64 t.k) by rw [hW]; exact cell_al _ ((BoxN.new w _ _).cell 0))
          have c1 := cell_later hb1 (show W.cell? ⟨w.heap.size, 1, none⟩ = some (.int .i64 t.i) by rw [hW]; exact cell_al _ ((BoxN.new w _ _).cell 1))
          have c2 := cell_later hb1 (show W.cell? ⟨w.heap.size, 2, none⟩ = some (.int .i64 t.j) by rw [hW]; exact cell_al _ ((BoxN.new w _ _).cell 2))
          have c3 := cell_later hb1 (show W.cell? ⟨w.heap.size, 3, none⟩ = some (.int .i64 t.b) by rw [hW]; exact cell_al _ ((BoxN.new w _ _).cell 3))
          have bR : BoxN w1 (w.heap.size + 1) 36 #[.int .i64 0, .int .i64 0, .int .i64 0, .int .i64 0] := (show BoxN W (w.heap.size + 1) 36 #[.int .i64 0, .int .i64 0, .int .i64 0, .int .i64 0] by rw [hW]; have := BoxN.new (w.alloc (.cells #[.int .i64 t.k, .int .i64 t.i, .int .i64 t.j, .int .i64 t.b] 36)) 36 #[.int .i64 0, .int .i64 0, .int .i64 0, .int .i64 0]; simpa using this).below hb1
          clear hW
          have r0 : w1.cell? ⟨w.heap.size + 1, 0, none⟩ = some (.int .i64 0) := bR.cell 0
          have r1 : w1.cell? ⟨w.heap.size + 1, 1, none⟩ = some (.int .i64 0) := bR.cell 1
          have r2 : w1.cell? ⟨w.heap.size + 1, 2, none⟩ = some (.int .i64 0) := bR.cell 2
          have r3 : w1.cell? ⟨w.heap.size + 1, 3, none⟩ = some (.int .i64 0) := bR.cell 3
          have z0 := bR.frozen 0
          have z1 := bR.frozen 1
          have z2 := bR.frozen 2
          have z3 := bR.frozen 3
          have hB1 := Below.next hB hb1
          go_wp2_with fail
          refine bodyPost_ret (v := .tuple #[.agg #[.int .i64 t.k, .int .i64 t.i, .int .i64 t.j, .int .i64 t.b], .bool true, .int .i64 0]) (by simp [results, Tryd.results23, go_sem, r0, r1, r2, r3]) rfl ⟨rfl, ?_⟩
          exact (((hB1.setCell (p := ⟨w.heap.size + 1, 0, none⟩) (Nat.le_succ _) _).setCell (p := ⟨w.heap.size + 1, 1, none⟩) (Nat.le_succ _) _).setCell (p := ⟨w.heap.size + 1, 2, none⟩) (Nat.le_succ _) _).setCell (p := ⟨w.heap.size + 1, 3, none⟩) (Nat.le_succ _) _
      · rw [if_neg g3]
        have d3 : (t.k == 3) = false := by simp; omega
        have d4 : (t.k == 4) = false := by simp; omega
        clear g2 g3
        go_enter Tryd.func23, Tryd.ntmps23
        go_wp2_with fail
        refine (rapply_any v l hz t hk hi _ (h.keep (by repeat (first | assumption | exact Below.refl _ _ | apply Below.al | apply below_drewN | apply Below.drew | refine Below.next ?_ (by assumption))))).mono ?_
        rintro x w1 ⟨v1, rfl, hrd, hb1⟩
        rw [HE.out]
        obtain ⟨W, hW⟩ : ∃ W : World, W = (w.alloc (.cells #[.int .i64 t.k, .int .i64 t.i, .int .i64 t.j, .int .i64 t.b] 36)).alloc (.cells #[.int .i64 0, .int .i64 0, .int .i64 0, .int .i64 0] 36) := ⟨_, rfl⟩
        rw [← hW] at hb1
        have hB : Below w.heap.size w W := by rw [hW]; exact (by repeat (first | assumption | exact Below.refl _ _ | apply Below.al | apply below_drewN | apply Below.drew | refine Below.next ?_ (by assumption)))
        have c0 := cell_later hb1 (show W.cell? ⟨w.heap.size, 0, none⟩ = some (.int .i64 t.k) by rw [hW]; exact cell_al _ ((BoxN.new w _ _).cell 0))
        have c1 := cell_later hb1 (show W.cell? ⟨w.heap.size, 1, none⟩ = some (.int .i64 t.i) by rw [hW]; exact cell_al _ ((BoxN.new w _ _).cell 1))
        have c2 := cell_later hb1 (show W.cell? ⟨w.heap.size, 2, none⟩ = some (.int .i64 t.j) by rw [hW]; exact cell_al _ ((BoxN.new w _ _).cell 2))
        have c3 := cell_later hb1 (show W.cell? ⟨w.heap.size, 3, none⟩ = some (.int .i64 t.b) by rw [hW]; exact cell_al _ ((BoxN.new w _ _).cell 3))
        have bR : BoxN w1 (w.heap.size + 1) 36 #[.int .i64 0, .int .i64 0, .int .i64 0, .int .i64 0] := (show BoxN W (w.heap.size + 1) 36 #[.int .i64 0, .int .i64 0, .int .i64 0, .int .i64 0] by rw [hW]; have := BoxN.new (w.alloc (.cells #[.int .i64 t.k, .int .i64 t.i, .int .i64 t.j, .int .i64 t.b] 36)) 36 #[.int .i64 0, .int .i64 0, .int .i64 0, .int .i64 0]; simpa using this).below hb1
        clear hW
        have r0 : w1.cell? ⟨w.heap.size + 1, 0, none⟩ = some (.int .i64 0) := bR.cell 0
        have r1 : w1.cell? ⟨w.heap.size + 1, 1, none⟩ = some (.int .i64 0) := bR.cell 1
        have r2 : w1.cell? ⟨w.heap.size + 1, 2, none⟩ = some (.int .i64 0) := bR.cell 2
        have r3 : w1.cell? ⟨w.heap.size + 1, 3, none⟩ = some (.int .i64 0) := bR.cell 3
        have z0 := bR.frozen 0
        have z1 := bR.frozen 1
        have z2 := bR.frozen 2
        have z3 := bR.frozen 3
        have hB1 := Below.next hB hb1
        go_wp2_with fail
        refine bodyPost_ret (v := .tuple #[.agg #[.int .i64 0, .int .i64 0, .int .i64 0, .int .i64 0], .bool false, .int .i64 0]) (by simp [results, Tryd.results23, go_sem, r0, r1, r2, r3]) rfl ⟨rfl, ?_⟩
        exact (((hB1.setCell (p := ⟨w.heap.size + 1, 0, none⟩) (Nat.le_succ _) _).setCell (p := ⟨w.heap.size + 1, 1, none⟩) (Nat.le_succ _) _).setCell (p := ⟨w.heap.size + 1, 2, none⟩) (Nat.le_succ _) _).setCell (p := ⟨w.heap.size + 1, 3, none⟩) (Nat.le_succ _) _
end Go.Proofs.YtimkeafpefkheaaDoor
