


/- CustodyLooks: the law's walk. -/
import Derived.Test.YtnkpjfogjkjcfaaLt
import Derived.Test.YtnkpjfogjkjcfaaRh
import Derived.Test.YtnkpjfogjkjcfaaLo
import Derived.Test.YtnkpjfogjkjcfaaSa
import Derived.Test.YtnkpjfogjkjcfaaNe
namespace Go.Proofs.Ytnkpjfogjkjcfaa
open Go.RowKit
set_option linter.unusedSimpArgs false
set_option linter.unusedVariables false
set_option maxRecDepth 100000

set_option maxHeartbeats 2000000 in
theorem llooks_any (w : World) (v : Value) (X : Wd) (h : RdW w v X) : Calls Try.prog 6 #[v] w fun e w' => e = .returned (.bool true) ∧ Below w.heap.size w w' := by
  obtain ⟨cv, fv, q, rfl, hp⟩ := h
  obtain ⟨a, c, rfl⟩ := hp.rows.form
  obtain ⟨fa, fc, rfl⟩ := hp.frs.form
  obtain ⟨W, hW⟩ : ∃ W : World, W = w.alloc (.cells #[.int .i64 X.ds, .slice a q.length c, .slice fa X.fr.length fc] 25) := ⟨_, rfl⟩
  have hB0 : Below w.heap.size w W := by rw [hW]; exact (by repeat (first | assumption | exact Below.refl _ _ | apply Below.al | apply below_drewN | apply Below.drew | refine Below.next ?_ (by assumption)))
  have bX : BoxN W w.heap.size 25 #[.int .i64 X.ds, .slice a q.length c, .slice fa X.fr.length fc] := by rw [hW]; exact BoxN.new _ _ _
  have x0 : W.cell? ⟨w.heap.size, 0, none⟩ = some (.int .i64 X.ds) := bX.cell 0
  have x1 : W.cell? ⟨w.heap.size, 1, none⟩ = some (.slice a q.length c) := bX.cell 1
  have x2 : W.cell? ⟨w.heap.size, 2, none⟩ = some (.slice fa X.fr.length fc) := bX.cell 2
  have HX := Lib.hid (⟨bX, hp.keep hB0⟩ : InB W w.heap.size X a c fa fc q)
  have HB0 := Lib.hid hB0
  clear hp bX hB0
  go_enter Try.func6, Try.ntmps6
  go_upto_region 1 with fail
  rw [← hW]
  clear hW
  have hli := light_any W (X.v a c fa fc q) X HX.out.rdw
  by_cases hl : lightP X
  · rw [yb hl] at hli
    have HLI := Lib.hid hli
    have hsml := hl.sml
    have hxl : (hdsW X).length ≤ 1000000 := by
      have h1 : (hdsW X).length ≤ X.cs.length := by rw [← hK_end]; exact hK_len X _
      have h2 := hl.1
      omega
    have HOWN := Lib.hid (fun w' (hb : Below W.heap.size W w') => lown_any w' (X.v a c fa fc q) X hsml (HX.out.keep hb).rdw)
    clear hli hsml hl
    go_wp2_with fail
    refine HLI.out.mono ?_
    rintro e w1 ⟨rfl, hb1⟩
    have x0 := cell_later hb1 x0
    have x1 := cell_later hb1 x1
    have x2 := cell_later hb1 x2
    have HB1 := Lib.hid hb1
    go_wp2_with fail
    refine (HOWN.out _ hb1).mono ?_
    rintro e w2 ⟨u, rfl, hu, hb2⟩
    obtain ⟨cv2, fv2, q2, rfl, hp2⟩ := hu
    obtain ⟨a2, c2, rfl⟩ := hp2.pt.rows.form
    obtain ⟨fa2, fc2, rfl⟩ := hp2.pt.frs.form
    obtain ⟨W2, HN9⟩ : ∃ V : World, Hid (V = (w2).alloc (.cells #[.int .i64 (X).ds, .slice a2 (q2).length c2, .slice fa2 (X).fr.length fc2] 25)) := ⟨_, Lib.hid rfl⟩
    obtain ⟨p3, HPN9⟩ : ∃ p, Hid ((w2).heap.size = p) := ⟨_, Lib.hid rfl⟩
    go_upto_region 4 with fail
    rw [← HN9.out]
    have hb3 : Below (w2).heap.size w2 W2 := by rw [HN9.out]; exact (by repeat (first | assumption | exact Below.refl _ _ | apply Below.al | apply below_drewN | apply Below.drew | refine Below.next ?_ (by assumption)))
    have bx3 : BoxN W2 p3 25 #[.int .i64 (X).ds, .slice a2 (q2).length c2, .slice fa2 (X).fr.length fc2] := by rw [HN9.out, ← HPN9.out]; exact BoxN.new _ _ _
    rw [HPN9.out]
    clear HN9 HPN9
    have h23 := Below.next hb2 hb3
    have x0 := cell_later h23 x0
    have x1 := cell_later h23 x1
    have x2 := cell_later h23 x2
    have HY := Lib.hid (⟨bx3, hp2.pt.keep hb3⟩ : InB W2 p3 X a2 c2 fa2 fc2 q2)
    have HXX := Lib.hid (HX.out.keep (Below.next HB1.out h23))
    have HB := Lib.hid (Below.next (Below.next HB0.out HB1.out) h23)
    have y0 : W2.cell? ⟨p3, 0, none⟩ = some (.int .i64 X.ds) := bx3.cell 0
    have y1 : W2.cell? ⟨p3, 1, none⟩ = some (.slice a2 q2.length c2) := bx3.cell 1
    have y2 : W2.cell? ⟨p3, 2, none⟩ = some (.slice fa2 X.fr.length fc2) := bx3.cell 2
    have k1 := fun w' (hb : Below W2.heap.size W2 w') => holders_any w' (X.v a2 c2 fa2 fc2 q2) X (HY.out.keep hb).rdw
    have k2 := fun w' (hb : Below W2.heap.size W2 w') => rholders_any w' (X.v a c fa fc q) X (HXX.out.keep hb).rdw
    have k3 := fun w' (hb : Below W2.heap.size W2 w') => lost_any w' (X.v a2 c2 fa2 fc2 q2) X (HY.out.keep hb).rdw
    have k4 := fun w' (hb : Below W2.heap.size W2 w') => rlost_any w' (X.v a c fa fc q) X (HXX.out.keep hb).rdw
    have k5 := fun w' (hb : Below W2.heap.size W2 w') => check_any w' (X.v a2 c2 fa2 fc2 q2) X _ rfl (HY.out.keep hb).rdw
    have k6 := fun w' (hb : Below W2.heap.size W2 w') => rcheck_any w' (X.v a c fa fc q) X _ rfl (HXX.out.keep hb).rdw
    have k7 := fun w' (hb : Below W2.heap.size W2 w') => same_eq (X.v a2 c2 fa2 fc2 q2) (X.v a c fa fc q) X w' (HY.out.keep hb).rdw (HXX.out.keep hb).rdw
    have hxl2 : (if Okw X then hdsW X else []).length ≤ 1000000 := by split; exact hxl; simp
    obtain ⟨xs, HXS⟩ : ∃ xs, Hid ((if Okw X then hdsW X else []) = xs) := ⟨_, Lib.hid rfl⟩
    obtain ⟨er, HER⟩ : ∃ er, Hid (chkE X = er) := ⟨_, Lib.hid rfl⟩
    obtain ⟨lo, HLO⟩ : ∃ lo, Hid ((decide (Okw X) && lstW X) = lo) := ⟨_, Lib.hid rfl⟩
    simp only [HXS.out, HER.out, HLO.out] at k1 k2 k3 k4 k5 k6
    rw [HXS.out] at hxl2
    have K1 := Lib.hid k1
    have K2 := Lib.hid k2
    have K3 := Lib.hid k3
    have K4 := Lib.hid k4
    have K5 := Lib.hid k5
    have K6 := Lib.hid k6
    have K7 := Lib.hid k7
    clear k1 k2 k3 k4 k5 k6 k7 hb1 hb2 hb3 h23 bx3 hp2 hxl HX HOWN HLI
    go_wp2_with fail
    refine (K1.out _ (Below.refl _ _)).mono ?_
    rintro e w3 ⟨s3, rfl, hs3, _, hb3⟩
    obtain ⟨sa, sc, rfl⟩ := hs3.form
    have x0 := cell_later hb3 x0
    have x1 := cell_later hb3 x1
    have x2 := cell_later hb3 x2
    have y0 := cell_later hb3 y0
    have y1 := cell_later hb3 y1
    have y2 := cell_later hb3 y2
    go_wp2_with fail
    refine (K2.out _ hb3).mono ?_
    rintro e w4 ⟨s4, rfl, hs4, _, hb4⟩
    obtain ⟨ta, tc, rfl⟩ := hs4.form
    have x0 := cell_later hb4 x0
    have x1 := cell_later hb4 x1
    have x2 := cell_later hb4 x2
    have y0 := cell_later hb4 y0
    have y1 := cell_later hb4 y1
    have y2 := cell_later hb4 y2
    have h34 := Below.next hb3 hb4
    have hs3 := RdI.keep hb4 hs3
    clear hb3 hb4
    go_wp2_with fail
    refine (K3.out _ h34).mono ?_
    rintro e w5 ⟨rfl, hb5⟩
    have x0 := cell_later hb5 x0
    have x1 := cell_later hb5 x1
    have x2 := cell_later hb5 x2
    have y0 := cell_later hb5 y0
    have y1 := cell_later hb5 y1
    have y2 := cell_later hb5 y2
    have h35 := Below.next h34 hb5
    have hs3 := RdI.keep hb5 hs3
    have hs4 := RdI.keep hb5 hs4
    clear hb5 h34
    go_wp2_with fail
    refine (K4.out _ h35).mono ?_
    rintro e w6 ⟨rfl, hb6⟩
    have x0 := cell_later hb6 x0
    have x1 := cell_later hb6 x1
    have x2 := cell_later hb6 x2
    have y0 := cell_later hb6 y0
    have y1 := cell_later hb6 y1
    have y2 := cell_later hb6 y2
    have h36 := Below.next h35 hb6
    have hs3 := RdI.keep hb6 hs3
    have hs4 := RdI.keep hb6 hs4
    have HS3 := Lib.hid hs3
    have HS4 := Lib.hid hs4
    obtain ⟨M, hM⟩ : ∃ M, xs.length = M := ⟨_, rfl⟩
    have d1 : (er == er) = true := by simp
    have d2 : (lo == lo) = true := by simp
    clear hb6 h35 hs3 hs4 hM
    go_upto_region 8 with fail
    have hA : Below w6.heap.size w6 w6.drew := (Below.refl _ w6).drew
    refine wp_region_noPanic ?_
    refine wp_region_held_drew (S := (fun w' => Below w6.heap.size w6 w')) (by kernel_rfl) hA (fun hHeld => ?_)
    refine reg_tk (v := X.v a2 c2 fa2 fc2 q2) 0 38 rfl rfl (by kernel_rfl) (by kernel_rfl) (by kernel_rfl) (fun _ _ _ h => h) (by rfl) (fun w3 hS => by (have j0 := cell_later hS y0; have j1 := cell_later hS y1; have j2 := cell_later hS y2); go_simp) (by assumption) ?_
    simp only [List.setIfInBounds_toArray, List.set_cons_zero, List.set_cons_succ]
    refine reg_tk (v := X.v a c fa fc q) 2 40 rfl rfl (by kernel_rfl) (by kernel_rfl) (by kernel_rfl) (fun _ _ _ h => h) (by rfl) (fun w3 hS => by (have j0 := cell_later hS x0; have j1 := cell_later hS x1; have j2 := cell_later hS x2); go_simp) (by assumption) ?_
    simp only [List.setIfInBounds_toArray, List.set_cons_zero, List.set_cons_succ]
    refine wpAnyH_ready (rs := [1]) (by kernel_rfl) (by simp) ?_
    refine AllReadyH.cons rfl (fun K hK => ?_) AllReadyH.nil
    go_simp
    refine (K5.out _ (Below.next h36 hA)).mono ?_
    rintro e w7 ⟨rfl, hb7⟩
    have hA7 := Below.next hA hb7
    refine hK.out _ _ hA7 (fun hHeld2 => ?_)
    clear hK K hHeld
    have hHeld := hHeld2
    clear hHeld2
    try simp only [Act.put, List.setIfInBounds_toArray, List.set_cons_zero, List.set_cons_succ]
    refine wpAnyH_ready (rs := [3]) (by kernel_rfl) (by simp) ?_
    refine AllReadyH.cons rfl (fun K hK => ?_) AllReadyH.nil
    go_simp
    refine (K6.out _ (Below.next h36 hA7)).mono ?_
    rintro e w8 ⟨rfl, hb8⟩
    have hA8 := Below.next hA7 hb8
    refine hK.out _ _ hA8 (fun hHeld2 => ?_)
    clear hK K hHeld
    have hHeld := hHeld2
    clear hHeld2
    try simp only [Act.put, List.setIfInBounds_toArray, List.set_cons_zero, List.set_cons_succ]
    refine reg_tk (v := ?_) 4 42 rfl rfl (by kernel_rfl) (by kernel_rfl) (by kernel_rfl) (fun _ _ _ h => h) (by rfl) ?_ (by assumption) ?_
    rotate_left
    · (intro w hSw; (try dsimp only at hSw); go_simp; (try with_reducible rfl))
    simp only [List.setIfInBounds_toArray, List.set_cons_zero, List.set_cons_succ]
    refine reg_tk (v := ?_) 5 43 rfl rfl (by kernel_rfl) (by kernel_rfl) (by kernel_rfl) (fun _ _ _ h => h) (by rfl) ?_ (by assumption) ?_
    rotate_left
    · (intro w hSw; (try dsimp only at hSw); go_simp; (try with_reducible rfl))
    simp only [List.setIfInBounds_toArray, List.set_cons_zero, List.set_cons_succ]
    refine reg_tk (v := ?_) 6 44 rfl rfl (by kernel_rfl) (by kernel_rfl) (by kernel_rfl) (fun _ _ _ h => h) (by rfl) ?_ (by assumption) ?_
    rotate_left
    · (intro w hSw; (try dsimp only at hSw); go_simp; (try with_reducible rfl))
    simp only [List.setIfInBounds_toArray, List.set_cons_zero, List.set_cons_succ]
    refine reg_tk (v := ?_) 7 45 rfl rfl (by kernel_rfl) (by kernel_rfl) (by kernel_rfl) (fun _ _ _ h => h) (by rfl) ?_ (by assumption) ?_
    rotate_left
    · (intro w hSw; (try dsimp only at hSw); go_simp; (try with_reducible rfl))
    simp only [List.setIfInBounds_toArray, List.set_cons_zero, List.set_cons_succ]
    refine wpAnyH_ready (rs := [8]) (by kernel_rfl) (by simp) ?_
    refine AllReadyH.cons rfl (fun K hK => ?_) AllReadyH.nil
    go_simp
    refine (sameInts_eq _ _ xs hxl2 w8 (RdI.keep hA8 HS3.out) (RdI.keep hA8 HS4.out)).mono ?_
    rintro e w9 ⟨rfl, hb9⟩
    have hA9 := Below.next hA8 hb9
    refine hK.out _ _ hA9 (fun hHeld2 => ?_)
    clear hK K hHeld
    have hHeld := hHeld2
    clear hHeld2
    try simp only [Act.put, List.setIfInBounds_toArray, List.set_cons_zero, List.set_cons_succ]
    refine reg_tk (v := ?_) 9 47 rfl rfl (by kernel_rfl) (by kernel_rfl) (by kernel_rfl) (fun _ _ _ h => h) (by rfl) ?_ (by assumption) ?_
    rotate_left
    · (intro w hSw; (try dsimp only at hSw); go_simp; (try with_reducible rfl))
    simp only [List.setIfInBounds_toArray, List.set_cons_zero, List.set_cons_succ]
    refine reg_tk (v := ?_) 10 48 rfl rfl (by kernel_rfl) (by kernel_rfl) (by kernel_rfl) (fun _ _ _ h => h) (by rfl) ?_ (by assumption) ?_
    rotate_left
    · (intro w hSw; (try dsimp only at hSw); go_simp; (try with_reducible rfl))
    simp only [List.setIfInBounds_toArray, List.set_cons_zero, List.set_cons_succ]
    refine reg_tk (v := ?_) 11 49 rfl rfl (by kernel_rfl) (by kernel_rfl) (by kernel_rfl) (fun _ _ _ h => h) (by rfl) ?_ (by assumption) ?_
    rotate_left
    · (intro w hSw; (try dsimp only at hSw); go_simp; (try with_reducible rfl))
    simp only [List.setIfInBounds_toArray, List.set_cons_zero, List.set_cons_succ]
    refine reg_tk (v := ?_) 12 50 rfl rfl (by kernel_rfl) (by kernel_rfl) (by kernel_rfl) (fun _ _ _ h => h) (by rfl) ?_ (by assumption) ?_
    rotate_left
    · (intro w hSw; (try dsimp only at hSw); go_simp; (try with_reducible rfl))
    simp only [List.setIfInBounds_toArray, List.set_cons_zero, List.set_cons_succ]
    refine reg_tk (v := ?_) 13 51 rfl rfl (by kernel_rfl) (by kernel_rfl) (by kernel_rfl) (fun _ _ _ h => h) (by rfl) ?_ (by assumption) ?_
    rotate_left
    · (intro w hSw; (try dsimp only at hSw); go_simp; (try with_reducible rfl))
    simp only [List.setIfInBounds_toArray, List.set_cons_zero, List.set_cons_succ]
    refine reg_tk (v := ?_) 14 52 rfl rfl (by kernel_rfl) (by kernel_rfl) (by kernel_rfl) (fun _ _ _ h => h) (by rfl) ?_ (by assumption) ?_
    rotate_left
    · (intro w hSw; (try dsimp only at hSw); go_simp; (try with_reducible rfl))
    simp only [List.setIfInBounds_toArray, List.set_cons_zero, List.set_cons_succ]
    refine reg_tk (v := ?_) 15 53 rfl rfl (by kernel_rfl) (by kernel_rfl) (by kernel_rfl) (fun _ _ _ h => h) (by rfl) ?_ (by assumption) ?_
    rotate_left
    · (intro w hSw; (try dsimp only at hSw); go_simp; (try with_reducible rfl))
    simp only [List.setIfInBounds_toArray, List.set_cons_zero, List.set_cons_succ]
    refine reg_tk (v := ?_) 16 54 rfl rfl (by kernel_rfl) (by kernel_rfl) (by kernel_rfl) (fun _ _ _ h => h) (by rfl) ?_ (by assumption) ?_
    rotate_left
    · (intro w hSw; (try dsimp only at hSw); go_simp; (try with_reducible rfl))
    simp only [List.setIfInBounds_toArray, List.set_cons_zero, List.set_cons_succ]
    refine reg_tk (v := ?_) 17 55 rfl rfl (by kernel_rfl) (by kernel_rfl) (by kernel_rfl) (fun _ _ _ h => h) (by rfl) ?_ (by assumption) ?_
    rotate_left
    · (intro w hSw; (try dsimp only at hSw); go_simp; (try with_reducible rfl))
    simp only [List.setIfInBounds_toArray, List.set_cons_zero, List.set_cons_succ]
    refine reg_tk (v := ?_) 18 56 rfl rfl (by kernel_rfl) (by kernel_rfl) (by kernel_rfl) (fun _ _ _ h => h) (by rfl) ?_ (by assumption) ?_
    rotate_left
    · (intro w hSw; (try dsimp only at hSw); go_simp; (try with_reducible rfl))
    simp only [List.setIfInBounds_toArray, List.set_cons_zero, List.set_cons_succ]
    refine reg_tk (v := ?_) 19 57 rfl rfl (by kernel_rfl) (by kernel_rfl) (by kernel_rfl) (fun _ _ _ h => h) (by rfl) ?_ (by assumption) ?_
    rotate_left
    · (intro w hSw; (try dsimp only at hSw); go_simp; (try with_reducible rfl))
    simp only [List.setIfInBounds_toArray, List.set_cons_zero, List.set_cons_succ]
    refine reg_tk (v := ?_) 20 58 rfl rfl (by kernel_rfl) (by kernel_rfl) (by kernel_rfl) (fun _ _ _ h => h) (by rfl) ?_ (by assumption) ?_
    rotate_left
    · (intro w hSw; (try dsimp only at hSw); go_simp; (try with_reducible rfl))
    simp only [List.setIfInBounds_toArray, List.set_cons_zero, List.set_cons_succ]
    refine reg_tk (v := ?_) 21 59 rfl rfl (by kernel_rfl) (by kernel_rfl) (by kernel_rfl) (fun _ _ _ h => h) (by rfl) ?_ (by assumption) ?_
    rotate_left
    · (intro w hSw; (try dsimp only at hSw); go_simp; (try with_reducible rfl))
    simp only [List.setIfInBounds_toArray, List.set_cons_zero, List.set_cons_succ]
    refine reg_tk (v := ?_) 22 60 rfl rfl (by kernel_rfl) (by kernel_rfl) (by kernel_rfl) (fun _ _ _ h => h) (by rfl) ?_ (by assumption) ?_
    rotate_left
    · (intro w hSw; (try dsimp only at hSw); go_simp; (try with_reducible rfl))
    simp only [List.setIfInBounds_toArray, List.set_cons_zero, List.set_cons_succ]
    refine reg_tk (v := ?_) 23 61 rfl rfl (by kernel_rfl) (by kernel_rfl) (by kernel_rfl) (fun _ _ _ h => h) (by rfl) ?_ (by assumption) ?_
    rotate_left
    · (intro w hSw; (try dsimp only at hSw); go_simp; (try with_reducible rfl))
    simp only [List.setIfInBounds_toArray, List.set_cons_zero, List.set_cons_succ]
    refine reg_tk (v := ?_) 24 62 rfl rfl (by kernel_rfl) (by kernel_rfl) (by kernel_rfl) (fun _ _ _ h => h) (by rfl) ?_ (by assumption) ?_
    rotate_left
    · (intro w hSw; (try dsimp only at hSw); go_simp; (try with_reducible rfl))
    simp only [List.setIfInBounds_toArray, List.set_cons_zero, List.set_cons_succ]
    refine reg_tk (v := ?_) 25 63 rfl rfl (by kernel_rfl) (by kernel_rfl) (by kernel_rfl) (fun _ _ _ h => h) (by rfl) ?_ (by assumption) ?_
    rotate_left
    · (intro w hSw; (try dsimp only at hSw); go_simp; (try with_reducible rfl))
    simp only [List.setIfInBounds_toArray, List.set_cons_zero, List.set_cons_succ]
    refine reg_tk (v := X.v a2 c2 fa2 fc2 q2) 26 64 rfl rfl (by kernel_rfl) (by kernel_rfl) (by kernel_rfl) (fun _ _ _ h => h) (by rfl) (fun w3 hS => by (have j0 := cell_later hS y0; have j1 := cell_later hS y1; have j2 := cell_later hS y2); go_simp) (by assumption) ?_
    simp only [List.setIfInBounds_toArray, List.set_cons_zero, List.set_cons_succ]
    refine reg_tk (v := X.v a c fa fc q) 27 65 rfl rfl (by kernel_rfl) (by kernel_rfl) (by kernel_rfl) (fun _ _ _ h => h) (by rfl) (fun w3 hS => by (have j0 := cell_later hS x0; have j1 := cell_later hS x1; have j2 := cell_later hS x2); go_simp) (by assumption) ?_
    simp only [List.setIfInBounds_toArray, List.set_cons_zero, List.set_cons_succ]
    refine wpAnyH_ready (rs := [28]) (by kernel_rfl) (by simp) ?_
    refine AllReadyH.cons rfl (fun K hK => ?_) AllReadyH.nil
    go_simp
    refine (K7.out _ (Below.next h36 hA9)).mono ?_
    rintro e w10 ⟨rfl, hb10⟩
    have hA10 := Below.next hA9 hb10
    refine hK.out _ _ hA10 (fun hHeld2 => ?_)
    clear hK K hHeld
    have hHeld := hHeld2
    clear hHeld2
    try simp only [Act.put, List.setIfInBounds_toArray, List.set_cons_zero, List.set_cons_succ]
    refine reg_tk (v := ?_) 29 67 rfl rfl (by kernel_rfl) (by kernel_rfl) (by kernel_rfl) (fun _ _ _ h => h) (by rfl) ?_ (by assumption) ?_
    rotate_left
    · (intro w hSw; (try dsimp only at hSw); go_simp; (try with_reducible rfl))
    simp only [List.setIfInBounds_toArray, List.set_cons_zero, List.set_cons_succ]
    refine reg_tk (v := ?_) 30 68 rfl rfl (by kernel_rfl) (by kernel_rfl) (by kernel_rfl) (fun _ _ _ h => h) (by rfl) ?_ (by assumption) ?_
    rotate_left
    · (intro w hSw; (try dsimp only at hSw); go_simp; (try with_reducible rfl))
    simp only [List.setIfInBounds_toArray, List.set_cons_zero, List.set_cons_succ]
    refine wpAnyH_ready (rs := [31]) (by kernel_rfl) (by simp) ?_
    refine AllReadyH.cons rfl (fun K hK => ?_) AllReadyH.nil
    go_simp
    refine (awake_any w10).mono ?_
    rintro e w11 ⟨rfl, hb11⟩
    have hA11 := Below.next hA10 hb11
    refine hK.out _ _ hA11 (fun hHeld2 => ?_)
    clear hK K hHeld
    have hHeld := hHeld2
    clear hHeld2
    try simp only [Act.put, List.setIfInBounds_toArray, List.set_cons_zero, List.set_cons_succ]
    refine reg_tk (v := ?_) 32 70 rfl rfl (by kernel_rfl) (by kernel_rfl) (by kernel_rfl) (fun _ _ _ h => h) (by rfl) ?_ (by assumption) ?_
    rotate_left
    · (intro w hSw; (try dsimp only at hSw); go_simp; (try with_reducible rfl))
    simp only [List.setIfInBounds_toArray, List.set_cons_zero, List.set_cons_succ]
    refine reg_tk (v := ?_) 33 2 rfl rfl (by kernel_rfl) (by kernel_rfl) (by kernel_rfl) (fun _ _ _ h => h) (by rfl) ?_ (by assumption) ?_
    rotate_left
    · (intro w hSw; (try dsimp only at hSw); go_simp; (try with_reducible rfl))
    simp only [List.setIfInBounds_toArray, List.set_cons_zero, List.set_cons_succ]
    refine wpAnyH_done (by kernel_rfl) ?_ _
    refine NoPanic.normal ?_
    have hBf := Below.next (Below.next HB.out h36) hA11
    go_wp2_with fail
    go_ret
    exact ⟨rfl, hBf⟩
  · rw [nb hl] at hli
    have HLI := Lib.hid hli
    clear hli hl
    go_wp2_with fail
    refine HLI.out.mono ?_
    rintro e w1 ⟨rfl, hb1⟩
    have HB1 := Lib.hid (Below.next HB0.out hb1)
    clear hb1
    go_wp2_with fail
    refine (awake_any w1).mono ?_
    rintro e w2 ⟨rfl, hb2⟩
    have hB := Below.next HB1.out hb2
    go_wp2_with fail
    go_ret
    exact ⟨rfl, hB⟩
end Go.Proofs.Ytnkpjfogjkjcfaa
