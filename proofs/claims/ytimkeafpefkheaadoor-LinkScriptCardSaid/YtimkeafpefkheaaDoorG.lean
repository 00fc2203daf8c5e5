

/- Links: what a fault makes of a list of one's own (drop, cut, swap). -/
import Derived.Test.YtimkeafpefkheaaDoorF
import Derived.BigRegion
namespace Go.Proofs.YtimkeafpefkheaaDoor
open Go.RowKit
set_option linter.unusedSimpArgs false
set_option linter.unusedVariables false
set_option maxRecDepth 100000

/-- what a make returns: the new list, whatever lay below base untouched -/
def MkR (base : Nat) (w : World) (l : List Fr) (x : Ending) (w' : World) : Prop := ∃ v, x = .returned v ∧ RdT w' v l ∧ Below base w w'
theorem own_below {W W' : World} {base : Nat} {e : TypeId} {size : Nat} {v : Value} {n : Nat} {xs : List Value} (h : W.ownsRow base e size v n xs) (hb : Below W.heap.size W W') : W'.ownsRow base e size v n xs := by
  obtain ⟨hl, ⟨hv, hn⟩ | ⟨g, cap, cur, hv, hg, hh, hr⟩⟩ := h
  · exact ⟨hl, .inl ⟨hv, hn⟩⟩
  · exact ⟨hl, .inr ⟨g, cap, cur, hv, hg, (hb.block g (Array.getElem?_eq_some_iff.1 hh).1).trans hh, hr⟩⟩
theorem mk1_own (a : Option Addr) (c base : Nat) (l : List Fr) (t : Tr) (k : Nat) (hk : k < l.length) (hl : l.length ≤ 64) (w : World) (h : w.ownsRow base 9 1 (.slice a l.length c) l.length (tcs l)) (hbw : base ≤ w.heap.size) :
    Calls Tryd.prog 60 #[.slice a l.length c, .agg #[.int .i64 t.k, .int .i64 (k : Int), .int .i64 t.j, .int .i64 t.b]] w (MkR base w (lessV l k)) := by
  have hwk1 : IntKind.i64.wrap ((k : Int) + 1) = (k : Int) + 1 := IntWalk.i64_in _ (by omega)
  obtain ⟨N, hN⟩ : ∃ N, l.length = N := ⟨_, rfl⟩
  have HN := Lib.hid hN
  have HOWN := Lib.hid h
  rw [hN] at HOWN hk hl ⊢
  have hmx := hl
  have i1 : (0 : Int) ≤ (k : Int) := by omega
  have i2 : (k : Int) < (N : Int) := by omega
  have hwk : IntKind.i64.wrap (k : Int) = (k : Int) := IntWalk.i64_in _ (by omega)
  obtain ⟨W, hW⟩ : ∃ W : World, W = w.alloc (.cells #[.int .i64 t.k, .int .i64 (k : Int), .int .i64 t.j, .int .i64 t.b] 36) := ⟨_, rfl⟩
  have hB : Below w.heap.size w W := by rw [hW]; exact (by repeat (first | assumption | exact Below.refl _ _ | apply Below.al | apply below_drewN | apply Below.drew | refine Below.next ?_ (by assumption)))
  have b0 : BoxN W w.heap.size 36 #[.int .i64 t.k, .int .i64 (k : Int), .int .i64 t.j, .int .i64 t.b] := by rw [hW]; exact BoxN.new w _ _
  have t1 : W.cell? ⟨w.heap.size, 1, none⟩ = some (.int .i64 (k : Int)) := b0.cell 1
  have t2 : W.cell? ⟨w.heap.size, 2, none⟩ = some (.int .i64 t.j) := b0.cell 2
  have t3 : W.cell? ⟨w.heap.size, 3, none⟩ = some (.int .i64 t.b) := b0.cell 3
  have HO2 := Lib.hid (own_below HOWN.out hB)
  have hB0 : Below base w W := hB.mono hbw
  clear h hN b0
  go_enter Tryd.func60, Tryd.ntmps60
  go_upto_region 1 with fail
  rw [← hW]
  clear hW
  go_wp2_with fail
  have hd := del_own a c base l k (by rw [HN.out]; exact hk) W (by rw [HN.out]; exact HO2.out)
  rw [HN.out] at hd
  refine hd.mono ?_
  rintro x w2 ⟨c', rfl, hrd, hb2⟩
  go_wp2_with fail
  go_ret
  exact ⟨_, rfl, hrd, hB0.trans hb2⟩
theorem tcs_set (l : List Fr) (k : Nat) (s : Fr) : tcs (l.set k s) = (tcs l).set k (.string s) := by unfold tcs; rw [List.map_set]
/-- a frame set in a row of one's own -/
theorem own_set {w : World} {base g c N : Nat} {l : List Fr} (hN : l.length = N) (h : w.ownsRow base 9 1 (.slice (some ⟨g, 0, none⟩) N c) N (tcs l)) (k : Nat) (s : Fr) :
    (w.setCell ⟨g, k, none⟩ (.string s)).ownsRow base 9 1 (.slice (some ⟨g, 0, none⟩) N c) N (tcs (l.set k s)) := by
  rw [tcs_set]
  exact (h.stored k _).1
theorem own_addr {w : World} {base : Nat} {e : TypeId} {size : Nat} {a : Option Addr} {n c : Nat} {xs : List Value} (h : w.ownsRow base e size (.slice a n c) n xs) (hn : 0 < n) : ∃ g, a = some ⟨g, 0, none⟩ ∧ base ≤ g ∧ g < w.heap.size := by
  obtain ⟨hl, ⟨hv, hn⟩ | ⟨g, cap, cur, hv, hg, hh, hr⟩⟩ := h
  · simp only [Value.slice.injEq] at hv; omega
  · simp only [Value.slice.injEq, true_and] at hv
    exact ⟨g, hv.1, hg, (Array.getElem?_eq_some_iff.1 hh).1⟩
theorem mk5_own (a : Option Addr) (c base : Nat) (l : List Fr) (t : Tr) (k j : Nat) (hk : k < l.length) (hl : l.length ≤ 64) (htj : t.j = j) (hj : j < (l.getD k e0).size) (w : World) (h : w.ownsRow base 9 1 (.slice a l.length c) l.length (tcs l)) (hbw : base ≤ w.heap.size) :
    Calls Tryd.prog 70 #[.slice a l.length c, .agg #[.int .i64 t.k, .int .i64 (k : Int), .int .i64 t.j, .int .i64 t.b]] w (MkR base w (l.set k ((l.getD k e0).extract 0 j))) := by
  obtain ⟨N, hN⟩ : ∃ N, l.length = N := ⟨_, rfl⟩
  have HN := Lib.hid hN
  have HOWN := Lib.hid h
  rw [hN] at HOWN hk hl ⊢
  have hmx := hl
  have i1 : (0 : Int) ≤ (k : Int) := by omega
  have i2 : (k : Int) < (N : Int) := by omega
  have hwk : IntKind.i64.wrap (k : Int) = (k : Int) := IntWalk.i64_in _ (by omega)
  obtain ⟨W, hW⟩ : ∃ W : World, W = w.alloc (.cells #[.int .i64 t.k, .int .i64 (k : Int), .int .i64 t.j, .int .i64 t.b] 36) := ⟨_, rfl⟩
  have hB : Below w.heap.size w W := by rw [hW]; exact (by repeat (first | assumption | exact Below.refl _ _ | apply Below.al | apply below_drewN | apply Below.drew | refine Below.next ?_ (by assumption)))
  have b0 : BoxN W w.heap.size 36 #[.int .i64 t.k, .int .i64 (k : Int), .int .i64 t.j, .int .i64 t.b] := by rw [hW]; exact BoxN.new w _ _
  have t1 : W.cell? ⟨w.heap.size, 1, none⟩ = some (.int .i64 (k : Int)) := b0.cell 1
  have t2 : W.cell? ⟨w.heap.size, 2, none⟩ = some (.int .i64 t.j) := b0.cell 2
  have t3 : W.cell? ⟨w.heap.size, 3, none⟩ = some (.int .i64 t.b) := b0.cell 3
  have HO2 := Lib.hid (own_below HOWN.out hB)
  have hB0 : Below base w W := hB.mono hbw
  clear h hN b0
  obtain ⟨g, rfl, hg0, hg1⟩ := own_addr HO2.out (by omega)
  obtain ⟨s, hs⟩ : ∃ s, l.getD k e0 = s := ⟨_, rfl⟩
  have c1 : W.cell? ⟨g, k, none⟩ = some (.string s) := by rw [HO2.out.cellAt k (by omega), tcs_get l k (by rw [HN.out]; exact hk), hs]
  have f1 : W.frozen? ⟨g, k, none⟩ = false := HO2.out.frozenAt k
  rw [hs] at hj ⊢
  rw [htj] at t2 hW ⊢
  have j1 : (0 : Int) ≤ (j : Int) := by omega
  have j2 : (j : Int) ≤ (s.size : Int) := by omega
  clear hs htj
  go_enter Tryd.func70, Tryd.ntmps70
  go_upto_region 1 with fail
  rw [← hW]
  clear hW
  refine wp_region_calm (fun w' => Below W.heap.size W w') 12 (by kernel_rfl) ((Below.refl _ W).drew) ?_
  refine cm_run 0 5 (v := ?_) rfl rfl (by kernel_rfl) (by kernel_rfl) (by kernel_rfl) (by kernel_rfl) (by kernel_rfl) (fun _ _ _ h => h) (by rfl) ?_ ?_
  rotate_left
  · (intro wS hS; skip; go_simp; (try with_reducible rfl))
  simp only [List.setIfInBounds_toArray, List.set_cons_zero, List.set_cons_succ]
  refine cm_run 1 6 (v := ?_) rfl rfl (by kernel_rfl) (by kernel_rfl) (by kernel_rfl) (by kernel_rfl) (by kernel_rfl) (fun _ _ _ h => h) (by rfl) ?_ ?_
  rotate_left
  · (intro wS hS; skip; go_simp; (try with_reducible rfl))
  simp only [List.setIfInBounds_toArray, List.set_cons_zero, List.set_cons_succ]
  refine cm_run 2 7 (v := ?_) rfl rfl (by kernel_rfl) (by kernel_rfl) (by kernel_rfl) (by kernel_rfl) (by kernel_rfl) (fun _ _ _ h => h) (by rfl) ?_ ?_
  rotate_left
  · (intro wS hS; have g := cell_later hS t1; go_simp; (try with_reducible rfl))
  simp only [List.setIfInBounds_toArray, List.set_cons_zero, List.set_cons_succ]
  refine cm_run 3 8 (v := ?_) rfl rfl (by kernel_rfl) (by kernel_rfl) (by kernel_rfl) (by kernel_rfl) (by kernel_rfl) (fun _ _ _ h => h) (by rfl) ?_ ?_
  rotate_left
  · (intro wS hS; skip; go_simp; (try with_reducible rfl))
  simp only [List.setIfInBounds_toArray, List.set_cons_zero, List.set_cons_succ]
  refine cm_run 4 9 (v := ?_) rfl rfl (by kernel_rfl) (by kernel_rfl) (by kernel_rfl) (by kernel_rfl) (by kernel_rfl) (fun _ _ _ h => h) (by rfl) ?_ ?_
  rotate_left
  · (intro wS hS; skip; go_simp; (try with_reducible rfl))
  simp only [List.setIfInBounds_toArray, List.set_cons_zero, List.set_cons_succ]
  refine cm_run 5 10 (v := ?_) rfl rfl (by kernel_rfl) (by kernel_rfl) (by kernel_rfl) (by kernel_rfl) (by kernel_rfl) (fun _ _ _ h => h) (by rfl) ?_ ?_
  rotate_left
  · (intro wS hS; have g := cell_later hS t1; go_simp; (try with_reducible rfl))
  simp only [List.setIfInBounds_toArray, List.set_cons_zero, List.set_cons_succ]
  refine cm_run 6 11 (v := ?_) rfl rfl (by kernel_rfl) (by kernel_rfl) (by kernel_rfl) (by kernel_rfl) (by kernel_rfl) (fun _ _ _ h => h) (by rfl) ?_ ?_
  rotate_left
  · (intro wS hS; skip; go_simp; (try with_reducible rfl))
  simp only [List.setIfInBounds_toArray, List.set_cons_zero, List.set_cons_succ]
  refine cm_run 7 12 (v := ?_) rfl rfl (by kernel_rfl) (by kernel_rfl) (by kernel_rfl) (by kernel_rfl) (by kernel_rfl) (fun _ _ _ h => h) (by rfl) ?_ ?_
  rotate_left
  · (intro wS hS; have g := cell_later hS c1; go_simp; (try with_reducible rfl))
  simp only [List.setIfInBounds_toArray, List.set_cons_zero, List.set_cons_succ]
  refine cm_run 8 13 (v := ?_) rfl rfl (by kernel_rfl) (by kernel_rfl) (by kernel_rfl) (by kernel_rfl) (by kernel_rfl) (fun _ _ _ h => h) (by rfl) ?_ ?_
  rotate_left
  · (intro wS hS; skip; go_simp; (try with_reducible rfl))
  simp only [List.setIfInBounds_toArray, List.set_cons_zero, List.set_cons_succ]
  refine cm_run 9 14 (v := ?_) rfl rfl (by kernel_rfl) (by kernel_rfl) (by kernel_rfl) (by kernel_rfl) (by kernel_rfl) (fun _ _ _ h => h) (by rfl) ?_ ?_
  rotate_left
  · (intro wS hS; have g := cell_later hS t2; go_simp; (try with_reducible rfl))
  simp only [List.setIfInBounds_toArray, List.set_cons_zero, List.set_cons_succ]
  refine cm_run 10 15 (v := ?_) rfl rfl (by kernel_rfl) (by kernel_rfl) (by kernel_rfl) (by kernel_rfl) (by kernel_rfl) (fun _ _ _ h => h) (by rfl) ?_ ?_
  rotate_left
  · (intro wS hS; skip; go_simp; (try with_reducible rfl))
  simp only [List.setIfInBounds_toArray, List.set_cons_zero, List.set_cons_succ]
  refine cm_run 11 16 (v := ?_) rfl rfl (by kernel_rfl) (by kernel_rfl) (by kernel_rfl) (by kernel_rfl) (by kernel_rfl) (fun _ _ _ h => h) (by rfl) ?_ ?_
  rotate_left
  · (intro wS hS; skip; go_simp; (try with_reducible rfl))
  simp only [List.setIfInBounds_toArray, List.set_cons_zero, List.set_cons_succ]
  refine cm_tail 12 rfl (by kernel_rfl) (by kernel_rfl) (by kernel_rfl) (by rfl) ?_
  intro wS hS K hK
  have gx := cell_later hS c1; have fx := fz_later hS hg1 f1
  go_simp
  refine hK _ _ ?_
  clear hK K
  refine NoPanic.normal ?_
  have hB0w : base ≤ W.heap.size := by omega
  have hOS := own_set HN.out (own_below HO2.out hS) k (s.extract 0 j)
  have hBS := (hB0.trans (hS.mono hB0w)).setCell (p := ⟨g, k, none⟩) hg0 (.string (s.extract 0 j))
  obtain ⟨WD, hWD⟩ : ∃ WD : World, WD = wS.setCell ⟨g, k, none⟩ (.string (s.extract 0 j)) := ⟨_, rfl⟩
  rw [← hWD] at hOS hBS ⊢
  clear hWD gx fx hS
  go_wp2_with fail
  go_ret
  exact ⟨_, rfl, by unfold RdT; rw [List.length_set, HN.out]; exact RdS.of_owns hOS (by decide), hBS⟩
theorem set_other {W : World} {p : Addr} {u x : Value} {b o : Nat} (h : W.cell? ⟨b, o, none⟩ = some x) (hne : b ≠ p.block) : (W.setCell p u).cell? ⟨b, o, none⟩ = some x := by
  unfold World.cell?
  rw [Below.heap_setCell W p u b hne]
  exact h
/-- the list with two of its frames exchanged -/
def swapV (l : List Fr) (k j : Nat) : List Fr := (l.set k (l.getD j e0)).set j (l.getD k e0)
theorem swapV_len (l : List Fr) (k j : Nat) : (swapV l k j).length = l.length := by simp [swapV]
theorem mk3_own (a : Option Addr) (c base : Nat) (l : List Fr) (t : Tr) (k j : Nat) (hk : k < l.length) (hl : l.length ≤ 64) (htj : t.j = j) (hj : j < l.length) (w : World) (h : w.ownsRow base 9 1 (.slice a l.length c) l.length (tcs l)) (hbw : base ≤ w.heap.size) :
    Calls Tryd.prog 66 #[.slice a l.length c, .agg #[.int .i64 t.k, .int .i64 (k : Int), .int .i64 t.j, .int .i64 t.b]] w (MkR base w (swapV l k j)) := by
  obtain ⟨N, hN⟩ : ∃ N, l.length = N := ⟨_, rfl⟩
  have HN := Lib.hid hN
  have HOWN := Lib.hid h
  rw [hN] at HOWN hk hl ⊢
  have hmx := hl
  have i1 : (0 : Int) ≤ (k : Int) := by omega
  have i2 : (k : Int) < (N : Int) := by omega
  have hwk : IntKind.i64.wrap (k : Int) = (k : Int) := IntWalk.i64_in _ (by omega)
  obtain ⟨W, hW⟩ : ∃ W : World, W = w.alloc (.cells #[.int .i64 t.k, .int .i64 (k : Int), .int .i64 t.j, .int .i64 t.b] 36) := ⟨_, rfl⟩
  have hB : Below w.heap.size w W := by rw [hW]; exact (by repeat (first | assumption | exact Below.refl _ _ | apply Below.al | apply below_drewN | apply Below.drew | refine Below.next ?_ (by assumption)))
  have b0 : BoxN W w.heap.size 36 #[.int .i64 t.k, .int .i64 (k : Int), .int .i64 t.j, .int .i64 t.b] := by rw [hW]; exact BoxN.new w _ _
  have t1 : W.cell? ⟨w.heap.size, 1, none⟩ = some (.int .i64 (k : Int)) := b0.cell 1
  have t2 : W.cell? ⟨w.heap.size, 2, none⟩ = some (.int .i64 t.j) := b0.cell 2
  have t3 : W.cell? ⟨w.heap.size, 3, none⟩ = some (.int .i64 t.b) := b0.cell 3
  have HO2 := Lib.hid (own_below HOWN.out hB)
  have hB0 : Below base w W := hB.mono hbw
  clear h hN b0
  rw [HN.out] at hj
  obtain ⟨g, rfl, hg0, hg1⟩ := own_addr HO2.out (by omega)
  obtain ⟨s, hs⟩ : ∃ s, l.getD k e0 = s := ⟨_, rfl⟩
  have c1 : W.cell? ⟨g, k, none⟩ = some (.string s) := by rw [HO2.out.cellAt k (by omega), tcs_get l k (by rw [HN.out]; exact hk), hs]
  have f1 : W.frozen? ⟨g, k, none⟩ = false := HO2.out.frozenAt k
  obtain ⟨s2, hs2⟩ : ∃ s, l.getD j e0 = s := ⟨_, rfl⟩
  have c2 : W.cell? ⟨g, j, none⟩ = some (.string s2) := by rw [HO2.out.cellAt j (by omega), tcs_get l j (by rw [HN.out]; exact hj), hs2]
  have f2 : W.frozen? ⟨g, j, none⟩ = false := HO2.out.frozenAt j
  unfold swapV
  rw [hs2, hs]
  have hg2 : g < w.heap.size := by
    obtain ⟨g', hg', _, hg3⟩ := own_addr HOWN.out (by omega)
    simp only [Option.some.injEq, Addr.mk.injEq, and_true] at hg'
    omega
  rw [htj] at t2 hW ⊢
  have j1 : (0 : Int) ≤ (j : Int) := by omega
  have j2 : (j : Int) < (N : Int) := by omega
  have hwj : IntKind.i64.wrap (j : Int) = (j : Int) := IntWalk.i64_in _ (by omega)
  clear hs hs2 htj
  go_enter Tryd.func66, Tryd.ntmps66
  go_upto_region 1 with fail
  rw [← hW]
  clear hW
  refine wp_region_noPanic ?_
  refine wp_region_held_drew (S := (fun w' => w'.cell? ⟨w.heap.size, 1, none⟩ = some (.int .i64 (k : Int)) ∧ w'.cell? ⟨w.heap.size, 2, none⟩ = some (.int .i64 (j : Int)))) (by kernel_rfl) ⟨t1, t2⟩ (fun hHeld => ?_)
  obtain ⟨Wd, hWd⟩ : ∃ Wd : World, Wd = W.drew := ⟨_, rfl⟩
  rw [← hWd] at hHeld ⊢
  have hBd : Below W.heap.size W Wd := by rw [hWd]; exact (Below.refl _ W).drew
  have c1 := cell_later hBd c1
  have c2 := cell_later hBd c2
  have f1 := fz_later hBd hg1 f1
  have f2 := fz_later hBd hg1 f2
  have HO3 := Lib.hid (own_below HO2.out hBd)
  have hB3 : Below base w Wd := hB0.trans (hBd.mono (by have := hB.size; omega))
  clear hWd
  refine reg_tk (v := ?_) 0 5 rfl rfl (by kernel_rfl) (by kernel_rfl) (by kernel_rfl) (fun _ _ _ h => h) (by rfl) ?_ (by assumption) ?_
  rotate_left
  · (intro w hSw; (try dsimp only at hSw); go_simp; (try with_reducible rfl))
  simp only [List.setIfInBounds_toArray, List.set_cons_zero, List.set_cons_succ]
  refine reg_tk (v := ?_) 1 6 rfl rfl (by kernel_rfl) (by kernel_rfl) (by kernel_rfl) (fun _ _ _ h => h) (by rfl) ?_ (by assumption) ?_
  rotate_left
  · (intro w hSw; (try dsimp only at hSw); go_simp; (try with_reducible rfl))
  simp only [List.setIfInBounds_toArray, List.set_cons_zero, List.set_cons_succ]
  refine reg_tk (v := .int .i64 (k : Int)) 2 7 rfl rfl (by kernel_rfl) (by kernel_rfl) (by kernel_rfl) (fun _ _ _ h => h) (by rfl) (fun w3 hS => by obtain ⟨g1, g2⟩ := hS; go_simp) (by assumption) ?_
  simp only [List.setIfInBounds_toArray, List.set_cons_zero, List.set_cons_succ]
  refine reg_tk (v := ?_) 3 8 rfl rfl (by kernel_rfl) (by kernel_rfl) (by kernel_rfl) (fun _ _ _ h => h) (by rfl) ?_ (by assumption) ?_
  rotate_left
  · (intro w hSw; (try dsimp only at hSw); go_simp; (try with_reducible rfl))
  simp only [List.setIfInBounds_toArray, List.set_cons_zero, List.set_cons_succ]
  refine reg_tk (v := ?_) 4 9 rfl rfl (by kernel_rfl) (by kernel_rfl) (by kernel_rfl) (fun _ _ _ h => h) (by rfl) ?_ (by assumption) ?_
  rotate_left
  · (intro w hSw; (try dsimp only at hSw); go_simp; (try with_reducible rfl))
  simp only [List.setIfInBounds_toArray, List.set_cons_zero, List.set_cons_succ]
  refine reg_tk (v := .int .i64 (j : Int)) 5 10 rfl rfl (by kernel_rfl) (by kernel_rfl) (by kernel_rfl) (fun _ _ _ h => h) (by rfl) (fun w3 hS => by obtain ⟨g1, g2⟩ := hS; go_simp) (by assumption) ?_
  simp only [List.setIfInBounds_toArray, List.set_cons_zero, List.set_cons_succ]
  refine reg_tk (v := ?_) 6 11 rfl rfl (by kernel_rfl) (by kernel_rfl) (by kernel_rfl) (fun _ _ _ h => h) (by rfl) ?_ (by assumption) ?_
  rotate_left
  · (intro w hSw; (try dsimp only at hSw); go_simp; (try with_reducible rfl))
  simp only [List.setIfInBounds_toArray, List.set_cons_zero, List.set_cons_succ]
  refine reg_tk (v := ?_) 7 12 rfl rfl (by kernel_rfl) (by kernel_rfl) (by kernel_rfl) (fun _ _ _ h => h) (by rfl) ?_ (by assumption) ?_
  rotate_left
  · (intro w hSw; (try dsimp only at hSw); go_simp; (try with_reducible rfl))
  simp only [List.setIfInBounds_toArray, List.set_cons_zero, List.set_cons_succ]
  refine reg_tk (v := .int .i64 (j : Int)) 8 13 rfl rfl (by kernel_rfl) (by kernel_rfl) (by kernel_rfl) (fun _ _ _ h => h) (by rfl) (fun w3 hS => by obtain ⟨g1, g2⟩ := hS; go_simp) (by assumption) ?_
  simp only [List.setIfInBounds_toArray, List.set_cons_zero, List.set_cons_succ]
  refine reg_tk (v := ?_) 9 14 rfl rfl (by kernel_rfl) (by kernel_rfl) (by kernel_rfl) (fun _ _ _ h => h) (by rfl) ?_ (by assumption) ?_
  rotate_left
  · (intro w hSw; (try dsimp only at hSw); go_simp; (try with_reducible rfl))
  simp only [List.setIfInBounds_toArray, List.set_cons_zero, List.set_cons_succ]
  refine reg_tk (v := ?_) 11 16 rfl rfl (by kernel_rfl) (by kernel_rfl) (by kernel_rfl) (fun _ _ _ h => h) (by rfl) ?_ (by assumption) ?_
  rotate_left
  · (intro w hSw; (try dsimp only at hSw); go_simp; (try with_reducible rfl))
  simp only [List.setIfInBounds_toArray, List.set_cons_zero, List.set_cons_succ]
  refine reg_tk (v := ?_) 12 17 rfl rfl (by kernel_rfl) (by kernel_rfl) (by kernel_rfl) (fun _ _ _ h => h) (by rfl) ?_ (by assumption) ?_
  rotate_left
  · (intro w hSw; (try dsimp only at hSw); go_simp; (try with_reducible rfl))
  simp only [List.setIfInBounds_toArray, List.set_cons_zero, List.set_cons_succ]
  refine reg_tk (v := .int .i64 (k : Int)) 13 18 rfl rfl (by kernel_rfl) (by kernel_rfl) (by kernel_rfl) (fun _ _ _ h => h) (by rfl) (fun w3 hS => by obtain ⟨g1, g2⟩ := hS; go_simp) (by assumption) ?_
  simp only [List.setIfInBounds_toArray, List.set_cons_zero, List.set_cons_succ]
  refine reg_tk (v := ?_) 14 19 rfl rfl (by kernel_rfl) (by kernel_rfl) (by kernel_rfl) (fun _ _ _ h => h) (by rfl) ?_ (by assumption) ?_
  rotate_left
  · (intro w hSw; (try dsimp only at hSw); go_simp; (try with_reducible rfl))
  simp only [List.setIfInBounds_toArray, List.set_cons_zero, List.set_cons_succ]
  refine wpAnyH_ready (rs := [10, 15]) (by kernel_rfl) (by simp) ?_
  refine AllReadyH.cons rfl (fun K hK => ?_) (AllReadyH.cons rfl (fun K hK => ?_) AllReadyH.nil)
  · go_simp
    refine hK.out _ _ hHeld (fun hHeld2 => ?_)
    clear hK K hHeld
    have hHeld := hHeld2
    clear hHeld2
    try simp only [Act.put, List.setIfInBounds_toArray, List.set_cons_zero, List.set_cons_succ]
    refine wpAnyH_ready (rs := [15]) (by kernel_rfl) (by simp) ?_
    refine AllReadyH.cons rfl (fun K hK => ?_) AllReadyH.nil
    go_simp
    refine hK.out _ _ hHeld (fun hHeld2 => ?_)
    clear hK K hHeld
    have hHeld := hHeld2
    clear hHeld2
    try simp only [Act.put, List.setIfInBounds_toArray, List.set_cons_zero, List.set_cons_succ]
    refine reg_tk (v := ?_) 16 21 rfl rfl (by kernel_rfl) (by kernel_rfl) (by kernel_rfl) (fun _ _ _ h => h) (by rfl) ?_ (by assumption) ?_
    rotate_left
    · (intro w hSw; (try dsimp only at hSw); go_simp; (try with_reducible rfl))
    simp only [List.setIfInBounds_toArray, List.set_cons_zero, List.set_cons_succ]
    refine wpAnyH_ready (rs := [17]) (by kernel_rfl) (by simp) ?_
    refine AllReadyH.cons rfl (fun K hK => ?_) AllReadyH.nil
    go_simp
    obtain ⟨WA, hWA⟩ : ∃ WA : World, WA = Wd.setCell ⟨g, k, none⟩ (.string s2) := ⟨_, rfl⟩
    have hOA := own_set HN.out HO3.out k s2
    have hBA := hB3.setCell (p := ⟨g, k, none⟩) hg0 (.string s2)
    have tA1 := set_other (p := ⟨g, k, none⟩) (u := .string s2) hHeld.1 (by show w.heap.size ≠ g; omega)
    have tA2 := set_other (p := ⟨g, k, none⟩) (u := .string s2) hHeld.2 (by show w.heap.size ≠ g; omega)
    rw [← hWA] at hOA hBA tA1 tA2 ⊢
    clear hWA c1 c2 f1 f2
    have HOA := Lib.hid hOA
    clear hOA
    have cA : ∃ s3, WA.cell? ⟨g, j, none⟩ = some (.string s3) := ⟨_, by rw [HOA.out.cellAt j (by omega), tcs_get _ j (by rw [List.length_set, HN.out]; exact hj)]⟩
    obtain ⟨s3, cA⟩ := cA
    have fA : WA.frozen? ⟨g, j, none⟩ = false := HOA.out.frozenAt j
    refine hK.out _ _ ⟨tA1, tA2⟩ (fun hHeld2 => ?_)
    clear hK K hHeld
    have hHeld := hHeld2
    clear hHeld2
    try simp only [Act.put, List.setIfInBounds_toArray, List.set_cons_zero, List.set_cons_succ]
    refine reg_tk (v := ?_) 18 22 rfl rfl (by kernel_rfl) (by kernel_rfl) (by kernel_rfl) (fun _ _ _ h => h) (by rfl) ?_ (by assumption) ?_
    rotate_left
    · (intro w hSw; (try dsimp only at hSw); go_simp; (try with_reducible rfl))
    simp only [List.setIfInBounds_toArray, List.set_cons_zero, List.set_cons_succ]
    refine wpAnyH_ready (rs := [19]) (by kernel_rfl) (by simp) ?_
    refine AllReadyH.cons rfl (fun K hK => ?_) AllReadyH.nil
    go_simp
    obtain ⟨WC, hWC⟩ : ∃ WC : World, WC = WA.setCell ⟨g, j, none⟩ (.string s) := ⟨_, rfl⟩
    have hOC := own_set (by rw [List.length_set, HN.out]) HOA.out j s
    have hBC := hBA.setCell (p := ⟨g, j, none⟩) hg0 (.string s)
    have tC1 := set_other (p := ⟨g, j, none⟩) (u := .string s) hHeld.1 (by show w.heap.size ≠ g; omega)
    have tC2 := set_other (p := ⟨g, j, none⟩) (u := .string s) hHeld.2 (by show w.heap.size ≠ g; omega)
    rw [← hWC] at hOC hBC tC1 tC2 ⊢
    clear hWC cA fA
    have HOC := Lib.hid hOC
    clear hOC
    refine hK.out _ _ ⟨tC1, tC2⟩ (fun hHeld2 => ?_)
    clear hK K hHeld
    have hHeld := hHeld2
    clear hHeld2
    try simp only [Act.put, List.setIfInBounds_toArray, List.set_cons_zero, List.set_cons_succ]
    refine wpAnyH_done (by kernel_rfl) ?_ _
    refine NoPanic.normal ?_
    clear hHeld
    go_wp2_with fail
    go_ret
    exact ⟨_, rfl, by unfold RdT; rw [List.length_set, List.length_set, HN.out]; exact RdS.of_owns HOC.out (by decide), hBC⟩
  · go_simp
    refine hK.out _ _ hHeld (fun hHeld2 => ?_)
    clear hK K hHeld
    have hHeld := hHeld2
    clear hHeld2
    try simp only [Act.put, List.setIfInBounds_toArray, List.set_cons_zero, List.set_cons_succ]
    refine wpAnyH_ready (rs := [10]) (by kernel_rfl) (by simp) ?_
    refine AllReadyH.cons rfl (fun K hK => ?_) AllReadyH.nil
    go_simp
    refine hK.out _ _ hHeld (fun hHeld2 => ?_)
    clear hK K hHeld
    have hHeld := hHeld2
    clear hHeld2
    try simp only [Act.put, List.setIfInBounds_toArray, List.set_cons_zero, List.set_cons_succ]
    refine reg_tk (v := ?_) 16 21 rfl rfl (by kernel_rfl) (by kernel_rfl) (by kernel_rfl) (fun _ _ _ h => h) (by rfl) ?_ (by assumption) ?_
    rotate_left
    · (intro w hSw; (try dsimp only at hSw); go_simp; (try with_reducible rfl))
    simp only [List.setIfInBounds_toArray, List.set_cons_zero, List.set_cons_succ]
    refine wpAnyH_ready (rs := [17]) (by kernel_rfl) (by simp) ?_
    refine AllReadyH.cons rfl (fun K hK => ?_) AllReadyH.nil
    go_simp
    obtain ⟨WA, hWA⟩ : ∃ WA : World, WA = Wd.setCell ⟨g, k, none⟩ (.string s2) := ⟨_, rfl⟩
    have hOA := own_set HN.out HO3.out k s2
    have hBA := hB3.setCell (p := ⟨g, k, none⟩) hg0 (.string s2)
    have tA1 := set_other (p := ⟨g, k, none⟩) (u := .string s2) hHeld.1 (by show w.heap.size ≠ g; omega)
    have tA2 := set_other (p := ⟨g, k, none⟩) (u := .string s2) hHeld.2 (by show w.heap.size ≠ g; omega)
    rw [← hWA] at hOA hBA tA1 tA2 ⊢
    clear hWA c1 c2 f1 f2
    have HOA := Lib.hid hOA
    clear hOA
    have cA : ∃ s3, WA.cell? ⟨g, j, none⟩ = some (.string s3) := ⟨_, by rw [HOA.out.cellAt j (by omega), tcs_get _ j (by rw [List.length_set, HN.out]; exact hj)]⟩
    obtain ⟨s3, cA⟩ := cA
    have fA : WA.frozen? ⟨g, j, none⟩ = false := HOA.out.frozenAt j
    refine hK.out _ _ ⟨tA1, tA2⟩ (fun hHeld2 => ?_)
    clear hK K hHeld
    have hHeld := hHeld2
    clear hHeld2
    try simp only [Act.put, List.setIfInBounds_toArray, List.set_cons_zero, List.set_cons_succ]
    refine reg_tk (v := ?_) 18 22 rfl rfl (by kernel_rfl) (by kernel_rfl) (by kernel_rfl) (fun _ _ _ h => h) (by rfl) ?_ (by assumption) ?_
    rotate_left
    · (intro w hSw; (try dsimp only at hSw); go_simp; (try with_reducible rfl))
    simp only [List.setIfInBounds_toArray, List.set_cons_zero, List.set_cons_succ]
    refine wpAnyH_ready (rs := [19]) (by kernel_rfl) (by simp) ?_
    refine AllReadyH.cons rfl (fun K hK => ?_) AllReadyH.nil
    go_simp
    obtain ⟨WC, hWC⟩ : ∃ WC : World, WC = WA.setCell ⟨g, j, none⟩ (.string s) := ⟨_, rfl⟩
    have hOC := own_set (by rw [List.length_set, HN.out]) HOA.out j s
    have hBC := hBA.setCell (p := ⟨g, j, none⟩) hg0 (.string s)
    have tC1 := set_other (p := ⟨g, j, none⟩) (u := .string s) hHeld.1 (by show w.heap.size ≠ g; omega)
    have tC2 := set_other (p := ⟨g, j, none⟩) (u := .string s) hHeld.2 (by show w.heap.size ≠ g; omega)
    rw [← hWC] at hOC hBC tC1 tC2 ⊢
    clear hWC cA fA
    have HOC := Lib.hid hOC
    clear hOC
    refine hK.out _ _ ⟨tC1, tC2⟩ (fun hHeld2 => ?_)
    clear hK K hHeld
    have hHeld := hHeld2
    clear hHeld2
    try simp only [Act.put, List.setIfInBounds_toArray, List.set_cons_zero, List.set_cons_succ]
    refine wpAnyH_done (by kernel_rfl) ?_ _
    refine NoPanic.normal ?_
    clear hHeld
    go_wp2_with fail
    go_ret
    exact ⟨_, rfl, by unfold RdT; rw [List.length_set, List.length_set, HN.out]; exact RdS.of_owns HOC.out (by decide), hBC⟩
end Go.Proofs.YtimkeafpefkheaaDoor
