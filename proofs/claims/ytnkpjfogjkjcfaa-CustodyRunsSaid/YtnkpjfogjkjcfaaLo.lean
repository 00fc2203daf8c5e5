


/- Custody: the laws' copy of a world. -/
import Derived.Test.YtnkpjfogjkjcfaaP
import Derived.Test.YtnkpjfogjkjcfaaW
import Derived.Test.YtnkpjfogjkjcfaaRli
import Derived.Test.YtnkpjfogjkjcfaaRT
namespace Go.Proofs.Ytnkpjfogjkjcfaa
open Go.RowKit
set_option linter.unusedSimpArgs false
set_option linter.unusedVariables false
set_option maxRecDepth 100000

/-- a copy being made: the first k nodes stand, one's own -/
structure LO (wr : World) (B p3 : Nat) (va : Option Addr) (vc : Nat) (fa : Option Addr) (fc : Nat) (qk : List Cq) (X : Wd) (k : Nat) : Prop where
  box : BoxN wr p3 25 #[.int .i64 X.ds, .slice va k vc, .slice fa X.fr.length fc]
  rows : wr.ownsRow B 45 6 (.slice va k vc) k (rcs cpR qk)
  len : qk.length = k
  frs : OwP wr B (.slice fa X.fr.length fc) X.fr
  cop : ∀ i, i < k → CopO wr B (gq qk i) (gc X.cs i)
  ge : B ≤ p3
theorem LO.pt {wr : World} {B p3 : Nat} {va : Option Addr} {vc : Nat} {fa : Option Addr} {fc : Nat} {qk : List Cq} {X : Wd} (h : LO wr B p3 va vc fa fc qk X X.cs.length) : PtF wr B (.slice va qk.length vc) (.slice fa X.fr.length fc) qk X := by
  have hz : ∀ i, X.cs.length ≤ i → gq qk i = cq0 ∧ gc X.cs i = cp0 := fun i hi => by
    constructor
    · show qk.getD i cq0 = cq0
      rw [List.getD_eq_getElem?_getD, List.getElem?_eq_none (by rw [h.len]; exact hi)]
      rfl
    · show X.cs.getD i cp0 = cp0
      rw [List.getD_eq_getElem?_getD, List.getElem?_eq_none hi]
      rfl
  have hr : wr.ownsRow B 45 6 (.slice va qk.length vc) qk.length (rcs cpR qk) := by rw [h.len]; exact h.rows
  refine ⟨⟨RdL.of_owns (R := cpR) hr, RdL.of_owns (R := psR) h.frs, h.len, fun i => ?_⟩, Fresh.of_owns hr, Fresh.of_owns h.frs, fun i => ?_, fun i => ?_⟩
  · by_cases hi : i < X.cs.length
    · exact (h.cop i hi).rd
    · rw [(hz i (by omega)).1, (hz i (by omega)).2]; exact CopR.zero _
  · by_cases hi : i < X.cs.length
    · exact Fresh.of_owns (h.cop i hi).tk
    · rw [(hz i (by omega)).1]; exact Fresh.nil _ _ _
  · by_cases hi : i < X.cs.length
    · exact Fresh.of_owns (h.cop i hi).kp
    · rw [(hz i (by omega)).1]; exact Fresh.nil _ _ _
theorem gq_snoc {q : List Cq} {y : Cq} {i : Nat} (hi : i ≤ q.length) : gq (q ++ [y]) i = if i = q.length then y else gq q i := by
  show (q ++ [y]).getD i cq0 = _
  rw [List.getD_eq_getElem?_getD]
  split
  · rename_i e; subst e; simp
  · rename_i e
    rw [List.getElem?_append_left (by omega)]
    show _ = q.getD i cq0
    rw [List.getD_eq_getElem?_getD]
set_option maxHeartbeats 4000000 in
theorem lown_any (w : World) (v : Value) (X : Wd) (hs : Sml X) (h : RdW w v X) : Calls Try.prog 14 #[v] w fun e w' => ∃ u, e = .returned u ∧ RdF w' w.heap.size u X ∧ Below w.heap.size w w' := by
  obtain ⟨cv, fv, q, rfl, hp⟩ := h
  obtain ⟨a, c, rfl⟩ := hp.rows.form
  obtain ⟨fa, fc, rfl⟩ := hp.frs.form
  obtain ⟨N, hN⟩ : ∃ N, q.length = N := ⟨_, rfl⟩
  obtain ⟨F, hF⟩ : ∃ F, X.fr.length = F := ⟨_, rfl⟩
  have HXN : Hid (X.cs.length = N) := Lib.hid (by rw [← hN]; exact hp.len.symm)
  have hNs : N ≤ 100000 := by rw [← HXN.out]; exact hs.cs
  have hFs : F ≤ 100000 := by rw [← hF]; exact hs.fr
  have HN := Lib.hid hN
  have HF := Lib.hid hF
  have HS := Lib.hid hs.tg
  rw [hN] at hp ⊢
  rw [hF] at hp ⊢
  clear hN hF hs
  obtain ⟨W, hW⟩ : ∃ W : World, W = (w.alloc (.cells #[.int .i64 X.ds, .slice a N c, .slice fa F fc] 25)).alloc (.cells #[.int .i64 0, .slice none 0 0, .slice none 0 0] 25) := ⟨_, rfl⟩
  have hB0 : Below w.heap.size w W := by rw [hW]; exact (by repeat (first | assumption | exact Below.refl _ _ | apply Below.al | apply below_drewN | apply Below.drew | refine Below.next ?_ (by assumption)))
  have hWs : w.heap.size + 2 = W.heap.size := by rw [hW]; simp
  have bX : BoxN W w.heap.size 25 #[.int .i64 X.ds, .slice a N c, .slice fa F fc] := by rw [hW]; exact (BoxN.new w _ _).below (by repeat (first | assumption | exact Below.refl _ _ | apply Below.al | apply below_drewN | apply Below.drew | refine Below.next ?_ (by assumption)))
  have bT : BoxN W (w.heap.size + 1) 25 #[.int .i64 0, .slice none 0 0, .slice none 0 0] := by
    rw [hW]
    have := BoxN.new (w.alloc (.cells #[.int .i64 X.ds, .slice a N c, .slice fa F fc] 25)) 25 #[.int .i64 0, .slice none 0 0, .slice none 0 0]
    simpa using this
  have HP := Lib.hid (hp.keep hB0)
  have HBX := Lib.hid bX
  have HBT := Lib.hid bT
  have HWS := Lib.hid hWs
  have HFR : Hid (∀ w', Below W.heap.size W w' → RdS w' 4 (.slice fa F fc) F (rcs psR X.fr)) := Lib.hid (fun w' hb => by
    have := (hp.frs.keep hB0).keep hb
    have this : RdS w' 4 (.slice fa F fc) X.fr.length (rcs psR X.fr) := this
    rw [HF.out] at this
    exact this)
  have x0 : W.cell? ⟨w.heap.size, 0, none⟩ = some (.int .i64 X.ds) := bX.cell 0
  have x1 : W.cell? ⟨w.heap.size, 1, none⟩ = some (.slice a N c) := bX.cell 1
  have x2 : W.cell? ⟨w.heap.size, 2, none⟩ = some (.slice fa F fc) := bX.cell 2
  have HB0 := Lib.hid hB0
  clear bX bT hp hB0 hWs
  go_enter Try.func14, Try.ntmps14
  go_upto_region 1 with fail
  rw [← hW]
  clear hW
  go_cut [3] (fun s3 wx => ∃ (p3 : Nat) (aF : Option Addr) (cF : Nat), s3 = .pointer (some ⟨p3, 0, none⟩) ∧ BoxN wx p3 25 #[.int .i64 X.ds, .slice none 0 0, .slice aF F cF] ∧ wx.ownsRow W.heap.size 47 4 (.slice aF F cF) F (rcs psR X.fr) ∧ Below W.heap.size W wx ∧ W.heap.size ≤ p3)
  case first =>
    as_aux_lemma =>
    have hBs : W.heap.size ≤ W.heap.size := Nat.le_refl _
    have hBa : Below W.heap.size W W := Below.refl _ W
    refine wp_region_noPanic ?_
    refine wp_region_held_drew (S := (fun w' => Below W.heap.size W w')) (by kernel_rfl) ((Below.refl _ W).drew) (fun hHeld => ?_)
    refine reg_tk (v := ?_) 0 6 rfl rfl (by kernel_rfl) (by kernel_rfl) (by kernel_rfl) (fun _ _ _ h => h) (by rfl) ?_ (by assumption) ?_
    rotate_left
    · (intro w hSw; (try dsimp only at hSw); go_simp; (try with_reducible rfl))
    simp only [List.setIfInBounds_toArray, List.set_cons_zero, List.set_cons_succ]
    refine reg_tk (v := .int .i64 X.ds) 1 7 rfl rfl (by kernel_rfl) (by kernel_rfl) (by kernel_rfl) (fun _ _ _ h => h) (by rfl) (fun w3 hS => by have g := cell_later hS x0; go_simp) (by assumption) ?_
    simp only [List.setIfInBounds_toArray, List.set_cons_zero, List.set_cons_succ]
    refine reg_tk (v := ?_) 3 9 rfl rfl (by kernel_rfl) (by kernel_rfl) (by kernel_rfl) (fun _ _ _ h => h) (by rfl) ?_ (by assumption) ?_
    rotate_left
    · (intro w hSw; (try dsimp only at hSw); go_simp; (try with_reducible rfl))
    simp only [List.setIfInBounds_toArray, List.set_cons_zero, List.set_cons_succ]
    refine reg_tk (v := .slice fa F fc) 4 10 rfl rfl (by kernel_rfl) (by kernel_rfl) (by kernel_rfl) (fun _ _ _ h => h) (by rfl) (fun w3 hS => by have g := cell_later hS x2; go_simp) (by assumption) ?_
    simp only [List.setIfInBounds_toArray, List.set_cons_zero, List.set_cons_succ]
    refine wpAnyH_ready (rs := [2, 7]) (by kernel_rfl) (by simp) ?_
    refine AllReadyH.cons rfl (fun K hK => ?_) (AllReadyH.cons rfl (fun K hK => ?_) AllReadyH.nil)
    · go_simp
      obtain ⟨w1, hw1⟩ : ∃ V : World, V = (World.alloc W (.cells #[] 47)).drew := ⟨_, rfl⟩
      have hb1 : Below (World.heap W).size W w1 := by rw [hw1]; exact (Below.al (Below.refl _ _) _).drew
      have oF : World.ownsRow w1 W.heap.size 47 4 (.slice (some ⟨W.heap.size, 0, none⟩) 0 0) 0 [] := by rw [hw1]; exact owns_block _ _ 47 4 0 [] _ (by have := hBa.size; omega) (heap_last _ _) rfl (by decide)
      rw [← hw1]
      clear hw1
      have hBb := Below.next hBa hb1
      clear hBa
      have hBa := hBb
      clear hBb hb1
      refine hK.out _ _ hBa (fun hHeld2 => ?_)
      clear hK K hHeld
      have hHeld := hHeld2
      clear hHeld2
      try simp only [Act.put, List.setIfInBounds_toArray, List.set_cons_zero, List.set_cons_succ]
      refine wpAnyH_ready (rs := [5, 7]) (by kernel_rfl) (by simp) ?_
      refine AllReadyH.cons rfl (fun K hK => ?_) (AllReadyH.cons rfl (fun K hK => ?_) AllReadyH.nil)
      · refine wp_app_new (.tmp 8) (.tmp 10) 23 rfl W.heap.size 47 _ 4 32 EPs _ rfl oF (.slice fa F fc) F (rcs psR X.fr) rfl (HFR.out _ hBa) (rcs_one _ _) (by unfold maxLen; omega) (by omega) (by exact hBa.size) ?_
        intro aF cF w2 oF2 hb2
        go_simp
        clear oF
        have oF := oF2
        clear oF2
        have hBb := Below.next hBa hb2
        clear hBa
        have hBa := hBb
        clear hBb hb2
        refine hK.out _ _ hBa (fun hHeld2 => ?_)
        clear hK K hHeld
        have hHeld := hHeld2
        clear hHeld2
        try simp only [Act.put, List.setIfInBounds_toArray, List.set_cons_zero, List.set_cons_succ]
        refine reg_tk (v := ?_) 6 12 rfl rfl (by kernel_rfl) (by kernel_rfl) (by kernel_rfl) (fun _ _ _ h => h) (by rfl) ?_ (by assumption) ?_
        rotate_left
        · (intro w hSw; (try dsimp only at hSw); go_simp; (try with_reducible rfl))
        simp only [List.setIfInBounds_toArray, List.set_cons_zero, List.set_cons_succ]
        refine wpAnyH_ready (rs := [7]) (by kernel_rfl) (by simp) ?_
        refine AllReadyH.cons rfl (fun K hK => ?_) AllReadyH.nil
        go_simp
        refine hK.out _ _ (Below.al hBa _) (fun hHeld2 => ?_)
        clear hK K hHeld
        have hHeld := hHeld2
        clear hHeld2
        try simp only [Act.put, List.setIfInBounds_toArray, List.set_cons_zero, List.set_cons_succ]
        refine wpAnyH_ready (rs := [8]) (by kernel_rfl) (by simp) ?_
        refine AllReadyH.cons rfl (fun K hK => ?_) AllReadyH.nil
        go_simp
        obtain ⟨wz, hwz⟩ : ∃ V : World, V = World.alloc w2 (.cells #[.int .i64 X.ds, .slice none 0 0, .slice aF F cF] 25) := ⟨_, rfl⟩
        have hbz : Below (World.heap w2).size w2 wz := by rw [hwz]; exact Below.al (Below.refl _ _) _
        have bz : BoxN wz (World.heap w2).size 25 #[.int .i64 X.ds, .slice none 0 0, .slice aF F cF] := by rw [hwz]; exact BoxN.new _ _ _
        have hpz := hBa.size
        rw [← hwz]
        replace oF := Own.keep oF hbz
        have hBb := Below.next hBa hbz
        refine hK.out _ _ hBb (fun hHeld2 => ?_)
        clear hK K hHeld
        have hHeld := hHeld2
        clear hHeld2
        try simp only [Act.put, List.setIfInBounds_toArray, List.set_cons_zero, List.set_cons_succ]
        refine wpAnyH_done (by kernel_rfl) ?_ _
        refine NoPanic.normal ?_
        clear hHeld hwz
        go_wp2_with fail
        go_meet
        exact ⟨_, _, _, rfl, bz, oF, hBb, hpz⟩
      · go_simp
        obtain ⟨w4, hw4⟩ : ∃ V : World, V = World.alloc w1 (.cells #[.int .i64 0, .slice none 0 0, .slice none 0 0] 25) := ⟨_, rfl⟩
        have hb4 : Below (World.heap w1).size w1 w4 := by rw [hw4]; exact Below.al (Below.refl _ _) _
        have bz : BoxN w4 (w1.heap.size) 25 #[.int .i64 0, .slice none 0 0, .slice none 0 0] := by rw [hw4]; exact BoxN.new _ _ _
        have hpz : W.heap.size ≤ w1.heap.size := by have := hBa.size; first | exact this | exact Nat.le_refl _
        rw [← hw4]
        clear hw4
        replace oF := Own.keep oF hb4
        have hBb := Below.next hBa hb4
        clear hBa
        have hBa := hBb
        clear hBb hb4
        refine hK.out _ _ hBa (fun hHeld2 => ?_)
        clear hK K hHeld
        have hHeld := hHeld2
        clear hHeld2
        try simp only [Act.put, List.setIfInBounds_toArray, List.set_cons_zero, List.set_cons_succ]
        refine wpAnyH_ready (rs := [5]) (by kernel_rfl) (by simp) ?_
        refine AllReadyH.cons rfl (fun K hK => ?_) AllReadyH.nil
        refine wp_app_new (.tmp 8) (.tmp 10) 23 rfl W.heap.size 47 _ 4 32 EPs _ rfl oF (.slice fa F fc) F (rcs psR X.fr) rfl (HFR.out _ hBa) (rcs_one _ _) (by unfold maxLen; omega) (by omega) (by exact hBa.size) ?_
        intro aF cF w5 oF2 hb5
        go_simp
        clear oF
        have oF := oF2
        clear oF2
        replace bz := bz.below hb5
        have hBb := Below.next hBa hb5
        clear hBa
        have hBa := hBb
        clear hBb hb5
        refine hK.out _ _ hBa (fun hHeld2 => ?_)
        clear hK K hHeld
        have hHeld := hHeld2
        clear hHeld2
        try simp only [Act.put, List.setIfInBounds_toArray, List.set_cons_zero, List.set_cons_succ]
        refine reg_tk (v := ?_) 6 12 rfl rfl (by kernel_rfl) (by kernel_rfl) (by kernel_rfl) (fun _ _ _ h => h) (by rfl) ?_ (by assumption) ?_
        rotate_left
        · (intro w hSw; (try dsimp only at hSw); go_simp; (try with_reducible rfl))
        simp only [List.setIfInBounds_toArray, List.set_cons_zero, List.set_cons_succ]
        have t0 : World.cell? w5 ⟨w1.heap.size, 0, none⟩ = some (.int .i64 0) := bz.cell 0
        have t1 : World.cell? w5 ⟨w1.heap.size, 1, none⟩ = some (.slice none 0 0) := bz.cell 1
        have t2 : World.cell? w5 ⟨w1.heap.size, 2, none⟩ = some (.slice none 0 0) := bz.cell 2
        have y0 := bz.frozen 0
        have y1 := bz.frozen 1
        have y2 := bz.frozen 2
        refine wpAnyH_ready (rs := [8]) (by kernel_rfl) (by simp) ?_
        refine AllReadyH.cons rfl (fun K hK => ?_) AllReadyH.nil
        go_simp
        obtain ⟨wz, hwz⟩ : ∃ V : World, V = ((World.setCell w5 ⟨w1.heap.size, 0, none⟩ (.int .i64 X.ds)).setCell ⟨w1.heap.size, 1, none⟩ (.slice none 0 0)).setCell ⟨w1.heap.size, 2, none⟩ (.slice aF F cF) := ⟨_, rfl⟩
        have hkz : Kx (fun k => k = w1.heap.size) w5 wz := by rw [hwz]; exact ((kx_cell _ _ _ _).setCell (.inl rfl) _).setCell (.inl rfl) _
        have bz2 : BoxN wz (w1.heap.size) 25 #[.int .i64 X.ds, .slice none 0 0, .slice aF F cF] := by rw [hwz]; exact ((bz.setc 0 _).setc 1 _).setc 2 _
        rw [← hwz]
        have oF2 : OwP wz W.heap.size (.slice aF F cF) X.fr := by
          have := hkz.owns (fun q e e2 => row_ne oF bz (by decide) q e e2.symm) oF
          unfold OwP
          rw [HF.out]
          exact this
        have hBb : Below W.heap.size W wz := hBa.trans (hkz.below hBa.size (fun k e => by rw [e]; exact hpz))
        refine hK.out _ _ hBb (fun hHeld2 => ?_)
        clear hK K hHeld
        have hHeld := hHeld2
        clear hHeld2
        try simp only [Act.put, List.setIfInBounds_toArray, List.set_cons_zero, List.set_cons_succ]
        refine wpAnyH_done (by kernel_rfl) ?_ _
        refine NoPanic.normal ?_
        clear hHeld hwz t0 t1 t2 y0 y1 y2
        go_wp2_with fail
        go_meet
        exact ⟨_, _, _, rfl, bz2, by have := oF2; unfold OwP at this; rw [HF.out] at this; exact this, hBb, hpz⟩
    · go_simp
      obtain ⟨w6, hw6⟩ : ∃ V : World, V = (World.alloc W (.cells #[.int .i64 0, .slice none 0 0, .slice none 0 0] 25)).drew := ⟨_, rfl⟩
      have hb6 : Below (World.heap W).size W w6 := by rw [hw6]; exact (Below.al (Below.refl _ _) _).drew
      have bz : BoxN w6 (W.heap.size) 25 #[.int .i64 0, .slice none 0 0, .slice none 0 0] := by rw [hw6]; exact BoxN.new _ _ _
      have hpz : W.heap.size ≤ W.heap.size := by have := hBa.size; first | exact this | exact Nat.le_refl _
      rw [← hw6]
      clear hw6
      have hBb := Below.next hBa hb6
      clear hBa
      have hBa := hBb
      clear hBb hb6
      refine hK.out _ _ hBa (fun hHeld2 => ?_)
      clear hK K hHeld
      have hHeld := hHeld2
      clear hHeld2
      try simp only [Act.put, List.setIfInBounds_toArray, List.set_cons_zero, List.set_cons_succ]
      refine wpAnyH_ready (rs := [2]) (by kernel_rfl) (by simp) ?_
      refine AllReadyH.cons rfl (fun K hK => ?_) AllReadyH.nil
      go_simp
      obtain ⟨w7, hw7⟩ : ∃ V : World, V = World.alloc w6 (.cells #[] 47) := ⟨_, rfl⟩
      have hb7 : Below (World.heap w6).size w6 w7 := by rw [hw7]; exact Below.al (Below.refl _ _) _
      have oF : World.ownsRow w7 W.heap.size 47 4 (.slice (some ⟨w6.heap.size, 0, none⟩) 0 0) 0 [] := by rw [hw7]; exact owns_block _ _ 47 4 0 [] _ (by have := hBa.size; omega) (heap_last _ _) rfl (by decide)
      rw [← hw7]
      clear hw7
      replace bz := bz.below hb7
      have hBb := Below.next hBa hb7
      clear hBa
      have hBa := hBb
      clear hBb hb7
      refine hK.out _ _ hBa (fun hHeld2 => ?_)
      clear hK K hHeld
      have hHeld := hHeld2
      clear hHeld2
      try simp only [Act.put, List.setIfInBounds_toArray, List.set_cons_zero, List.set_cons_succ]
      refine wpAnyH_ready (rs := [5]) (by kernel_rfl) (by simp) ?_
      refine AllReadyH.cons rfl (fun K hK => ?_) AllReadyH.nil
      refine wp_app_new (.tmp 8) (.tmp 10) 23 rfl W.heap.size 47 _ 4 32 EPs _ rfl oF (.slice fa F fc) F (rcs psR X.fr) rfl (HFR.out _ hBa) (rcs_one _ _) (by unfold maxLen; omega) (by omega) (by exact hBa.size) ?_
      intro aF cF w8 oF2 hb8
      go_simp
      clear oF
      have oF := oF2
      clear oF2
      replace bz := bz.below hb8
      have hBb := Below.next hBa hb8
      clear hBa
      have hBa := hBb
      clear hBb hb8
      refine hK.out _ _ hBa (fun hHeld2 => ?_)
      clear hK K hHeld
      have hHeld := hHeld2
      clear hHeld2
      try simp only [Act.put, List.setIfInBounds_toArray, List.set_cons_zero, List.set_cons_succ]
      refine reg_tk (v := ?_) 6 12 rfl rfl (by kernel_rfl) (by kernel_rfl) (by kernel_rfl) (fun _ _ _ h => h) (by rfl) ?_ (by assumption) ?_
      rotate_left
      · (intro w hSw; (try dsimp only at hSw); go_simp; (try with_reducible rfl))
      simp only [List.setIfInBounds_toArray, List.set_cons_zero, List.set_cons_succ]
      have t0 : World.cell? w8 ⟨W.heap.size, 0, none⟩ = some (.int .i64 0) := bz.cell 0
      have t1 : World.cell? w8 ⟨W.heap.size, 1, none⟩ = some (.slice none 0 0) := bz.cell 1
      have t2 : World.cell? w8 ⟨W.heap.size, 2, none⟩ = some (.slice none 0 0) := bz.cell 2
      have y0 := bz.frozen 0
      have y1 := bz.frozen 1
      have y2 := bz.frozen 2
      refine wpAnyH_ready (rs := [8]) (by kernel_rfl) (by simp) ?_
      refine AllReadyH.cons rfl (fun K hK => ?_) AllReadyH.nil
      go_simp
      obtain ⟨wz, hwz⟩ : ∃ V : World, V = ((World.setCell w8 ⟨W.heap.size, 0, none⟩ (.int .i64 X.ds)).setCell ⟨W.heap.size, 1, none⟩ (.slice none 0 0)).setCell ⟨W.heap.size, 2, none⟩ (.slice aF F cF) := ⟨_, rfl⟩
      have hkz : Kx (fun k => k = W.heap.size) w8 wz := by rw [hwz]; exact ((kx_cell _ _ _ _).setCell (.inl rfl) _).setCell (.inl rfl) _
      have bz2 : BoxN wz (W.heap.size) 25 #[.int .i64 X.ds, .slice none 0 0, .slice aF F cF] := by rw [hwz]; exact ((bz.setc 0 _).setc 1 _).setc 2 _
      rw [← hwz]
      have oF2 : OwP wz W.heap.size (.slice aF F cF) X.fr := by
        have := hkz.owns (fun q e e2 => row_ne oF bz (by decide) q e e2.symm) oF
        unfold OwP
        rw [HF.out]
        exact this
      have hBb : Below W.heap.size W wz := hBa.trans (hkz.below hBa.size (fun k e => by rw [e]; exact hpz))
      refine hK.out _ _ hBb (fun hHeld2 => ?_)
      clear hK K hHeld
      have hHeld := hHeld2
      clear hHeld2
      try simp only [Act.put, List.setIfInBounds_toArray, List.set_cons_zero, List.set_cons_succ]
      refine wpAnyH_done (by kernel_rfl) ?_ _
      refine NoPanic.normal ?_
      clear hHeld hwz t0 t1 t2 y0 y1 y2
      go_wp2_with fail
      go_meet
      exact ⟨_, _, _, rfl, bz2, by have := oF2; unfold OwP at this; rw [HF.out] at this; exact this, hBb, hpz⟩
  case rest =>
    obtain ⟨p3, aF, cF, rfl, b3, oF, hbx, hp3⟩ := hcut
    rename World => w1
    have HB1 := Lib.hid hbx
    have hlo0 : LO w1 W.heap.size p3 none 0 aF cF [] X 0 := ⟨by rw [HF.out]; exact b3, ⟨rfl, .inl ⟨rfl, rfl⟩⟩, rfl, by unfold OwP; rw [HF.out]; exact oF, fun i hi => by omega, hp3⟩
    have HLO0 := Lib.hid hlo0
    clear hlo0 b3 oF hbx
    go_wp2_with fail
    go_loopw [4] (fun i wr => ∃ (k : Nat) (va : Option Addr) (vc : Nat) (qk : List Cq), k ≤ N ∧ i = .int .i64 k ∧ LO wr W.heap.size p3 va vc aF cF qk X k ∧ Below W.heap.size W wr) (fun i _ => N - (intOf i).toNat)
    case atStart => exact ⟨0, none, 0, [], Nat.zero_le _, rfl, HLO0.out, HB1.out⟩
    case round =>
      clear HLO0 HB1
      obtain ⟨k, va, vc, qk, hk, rfl, hlo, hbr⟩ := hrel
      have x1 := cell_later hbr x1
      have HLO := Lib.hid hlo
      have HBR := Lib.hid hbr
      have hWr := hbr.size
      clear hlo hbr x0 x2
      by_cases hlt : k < N
      · have d1 : decide ((k : Int) < (N : Int)) = true := yb (by omega)
        have i1 : (0 : Int) ≤ (k : Int) := by omega
        have i2 : (k : Int) < (N : Int) := by omega
        have hwk : IntKind.i64.wrap (k : Int) = (k : Int) := IntWalk.i64_in _ (by omega)
        have hwk2 : IntKind.i64.wrap ((k : Int) + 1) = (k : Int) + 1 := IntWalk.i64_in _ (by omega)
        obtain ⟨b, off, rfl, hcap, g0, g1, g2, g3, g4, g5⟩ := RdC.at (HP.out.keep HBR.out).rows HN.out k hlt
        have hco := (HP.out.keep HBR.out).cop k
        have hsk := HS.out k
        obtain ⟨y, HY⟩ : ∃ y, Hid (gq q k = y) := ⟨_, Lib.hid rfl⟩
        obtain ⟨cc, HC⟩ : ∃ cc, Hid (gc X.cs k = cc) := ⟨_, Lib.hid rfl⟩
        rw [HY.out, HC.out] at hco
        rw [HC.out] at hsk
        rw [HY.out] at g0 g1 g2 g3 g4 g5
        obtain ⟨tks, htks⟩ : ∃ l, cc.tk = l := ⟨_, rfl⟩
        obtain ⟨kps, hkps⟩ : ∃ l, cc.kp = l := ⟨_, rfl⟩
        rw [htks, hkps] at hsk
        have htn : y.tn = tks.length := by
          obtain ⟨a9, c9, e9⟩ := hco.tk.form
          rw [htks] at e9
          simp only [Cq.tv, Value.slice.injEq] at e9
          exact e9.2.1
        have hkn : y.kn = kps.length := by
          obtain ⟨a9, c9, e9⟩ := hco.kp.form
          rw [hkps] at e9
          simp only [Cq.kv, Value.slice.injEq] at e9
          exact e9.2.1
        have htm : y.tn ≤ 100000 := by omega
        have hkm : y.kn ≤ 100000 := by omega
        obtain ⟨W5, hW5⟩ : ∃ V : World, V = wr.alloc (.cells #[.int .i64 y.st, .int .i64 y.tt, .int .i64 y.of, .int .i64 y.nx, .slice y.ta y.tn y.tc, .slice y.ka y.kn y.kc] 45) := ⟨_, rfl⟩
        obtain ⟨p5, hp5⟩ : ∃ p, wr.heap.size = p := ⟨_, rfl⟩
        have hBr : Below p5 wr W5 := by rw [hW5, ← hp5]; exact (by repeat (first | assumption | exact Below.refl _ _ | apply Below.al | apply below_drewN | apply Below.drew | refine Below.next ?_ (by assumption)))
        have hB5s : p5 ≤ W5.heap.size := by have := hBr.size; omega
        have hb5 : BoxN W5 p5 45 #[.int .i64 y.st, .int .i64 y.tt, .int .i64 y.of, .int .i64 y.nx, .slice y.ta y.tn y.tc, .slice y.ka y.kn y.kc] := by rw [hW5, ← hp5]; exact BoxN.new _ _ _
        have hWle : W.heap.size ≤ W5.heap.size := by omega
        have hWp : W.heap.size ≤ p5 := by omega
        have HTK : Hid (∀ w', Below W5.heap.size W5 w' → RdS w' 2 (.slice y.ta y.tn y.tc) y.tn (rcs tgR tks)) := Lib.hid (fun w' hb => by
          have e := (hco.tk.keep (by rw [← hp5] at hBr; exact hBr)).keep hb
          rw [htks] at e
          have e : RdS w' 2 (.slice y.ta y.tn y.tc) tks.length (rcs tgR tks) := e
          rw [← htn] at e
          exact e)
        have HKP : Hid (∀ w', Below W5.heap.size W5 w' → RdS w' 2 (.slice y.ka y.kn y.kc) y.kn (rcs tgR kps)) := Lib.hid (fun w' hb => by
          have e := (hco.kp.keep (by rw [← hp5] at hBr; exact hBr)).keep hb
          rw [hkps] at e
          have e : RdS w' 2 (.slice y.ka y.kn y.kc) kps.length (rcs tgR kps) := e
          rw [← hkn] at e
          exact e)
        have B5 := Lib.hid hb5
        have HCO := Lib.hid hco
        have HW5 := Lib.hid hW5
        have HP5 := Lib.hid hp5
        have HTKE := Lib.hid htks
        have HKPE := Lib.hid hkps
        have HTN := Lib.hid htn
        have HKN := Lib.hid hkn
        clear hb5 hco hp5 htks hkps htn hkn hsk hW5
        go_upto_region 6 with fail
        rw [← HW5.out]
        rw [HP5.out]
        clear g0 g1 g2 g3 g4 g5 HW5
        have g4 : W5.cell? ⟨p5, 4, none⟩ = some (.slice y.ta y.tn y.tc) := B5.out.cell 4
        have g5 : W5.cell? ⟨p5, 5, none⟩ = some (.slice y.ka y.kn y.kc) := B5.out.cell 5
        go_cut [5] (fun s5 wx => ∃ (ta : Option Addr) (tc : Nat) (ka : Option Addr) (kc : Nat), s5 = .pointer (some ⟨p5, 0, none⟩) ∧ BoxN wx p5 45 #[.int .i64 y.st, .int .i64 y.tt, .int .i64 y.of, .int .i64 y.nx, .slice ta y.tn tc, .slice ka y.kn kc] ∧ wx.ownsRow W.heap.size 80 2 (.slice ta y.tn tc) y.tn (rcs tgR tks) ∧ wx.ownsRow W.heap.size 80 2 (.slice ka y.kn kc) y.kn (rcs tgR kps) ∧ Below p5 wr wx)
        case first =>
          as_aux_lemma =>
          have hBa : Below W5.heap.size W5 W5 := Below.refl _ W5
          refine wp_region_noPanic ?_
          refine wp_region_late (fun _ => True) (fun w' => w'.cell? ⟨p5, 4, none⟩ = some (.slice y.ta y.tn y.tc) ∧ w'.cell? ⟨p5, 5, none⟩ = some (.slice y.ka y.kn y.kc)) [9, 11] (by kernel_rfl) trivial ⟨g4, g5⟩ (fun hHeld0 hHeld => ?_)
          refine reg0_tk (v := ?_) 1 26 rfl rfl (by kernel_rfl) (by kernel_rfl) (by kernel_rfl) (by kernel_rfl) (by kernel_rfl) (fun _ _ _ h => h) (by rfl) ?_ (by assumption) (by assumption) ?_
          rotate_left
          · (intro w3 hS; (try dsimp only at hS); skip; go_simp; (try with_reducible rfl))
          simp only [List.setIfInBounds_toArray, List.set_cons_zero, List.set_cons_succ]
          refine regG_tk (v := ?_) 2 27 rfl rfl (by kernel_rfl) (by kernel_rfl) (by kernel_rfl) (by kernel_rfl) (by kernel_rfl) (fun _ _ _ h => h) (by rfl) ?_ (by assumption) (by assumption) ?_
          rotate_left
          · (intro w3 hS; (try dsimp only at hS); obtain ⟨y4, y5⟩ := hS; go_simp; (try with_reducible rfl))
          simp only [List.setIfInBounds_toArray, List.set_cons_zero, List.set_cons_succ]
          refine reg0_tk (v := ?_) 5 30 rfl rfl (by kernel_rfl) (by kernel_rfl) (by kernel_rfl) (by kernel_rfl) (by kernel_rfl) (fun _ _ _ h => h) (by rfl) ?_ (by assumption) (by assumption) ?_
          rotate_left
          · (intro w3 hS; (try dsimp only at hS); skip; go_simp; (try with_reducible rfl))
          simp only [List.setIfInBounds_toArray, List.set_cons_zero, List.set_cons_succ]
          refine regG_tk (v := ?_) 6 31 rfl rfl (by kernel_rfl) (by kernel_rfl) (by kernel_rfl) (by kernel_rfl) (by kernel_rfl) (fun _ _ _ h => h) (by rfl) ?_ (by assumption) (by assumption) ?_
          rotate_left
          · (intro w3 hS; (try dsimp only at hS); obtain ⟨y4, y5⟩ := hS; go_simp; (try with_reducible rfl))
          simp only [List.setIfInBounds_toArray, List.set_cons_zero, List.set_cons_succ]
          refine wpAnyG_twoS (i := 0) (j := 4) (by kernel_rfl) rfl rfl (by rfl) (by rfl) (fun K hK => ?_) (fun K hK => ?_)
          · go_simp
            obtain ⟨w1, hw1⟩ : ∃ V : World, V = (World.alloc W5 (.cells #[] 80)).drew := ⟨_, rfl⟩
            have hb1 : Below (World.heap W5).size W5 w1 := by rw [hw1]; exact (Below.al (Below.refl _ _) _).drew
            have oA : World.ownsRow w1 W.heap.size 80 2 (.slice (some ⟨W5.heap.size, 0, none⟩) 0 0) 0 [] := by rw [hw1]; exact owns_block _ _ 80 2 0 [] _ (by have := hBa.size; omega) (heap_last _ _) rfl (by decide)
            rw [← hw1]
            clear hw1
            have hBb := Below.next hBa hb1
            have q4_1 : World.cell? w1 ⟨p5, 4, none⟩ = some (.slice y.ta y.tn y.tc) := cell_later hb1 g4
            have q5_1 : World.cell? w1 ⟨p5, 5, none⟩ = some (.slice y.ka y.kn y.kc) := cell_later hb1 g5
            clear hBa
            have hBa := hBb
            clear hBb
            have q4 := q4_1
            have q5 := q5_1
            clear q4_1 q5_1 hb1
            have hSc := And.intro q4 q5
            refine hK _ _ trivial hSc ?_
            clear hK K
            try simp only [Act.put, List.setIfInBounds_toArray, List.set_cons_zero, List.set_cons_succ]
            refine wpAnyG_twoS (i := 3) (j := 4) (by kernel_rfl) rfl rfl (by rfl) (by rfl) (fun K hK => ?_) (fun K hK => ?_)
            · refine wp_app_new (.tmp 25) (.tmp 27) 43 rfl W.heap.size 80 _ 2 16 ETg _ rfl oA (.slice y.ta y.tn y.tc) y.tn (rcs tgR tks) rfl (HTK.out _ hBa) (rcs_one _ _) (by unfold maxLen; omega) (by omega) (by have := hBa.size; omega) ?_
              intro aA cA w2 oA2 hb2
              go_simp
              clear oA
              have oA := oA2
              clear oA2
              have hBb := Below.next hBa hb2
              have q4_2 : World.cell? w2 ⟨p5, 4, none⟩ = some (.slice y.ta y.tn y.tc) := cell_later hb2 q4
              have q5_2 : World.cell? w2 ⟨p5, 5, none⟩ = some (.slice y.ka y.kn y.kc) := cell_later hb2 q5
              clear hBa
              have hBa := hBb
              clear hBb
              clear q4 q5 hSc
              have q4 := q4_2
              have q5 := q5_2
              clear q4_2 q5_2 hb2
              have hSc := And.intro q4 q5
              refine hK _ _ trivial hSc ?_
              clear hK K
              try simp only [Act.put, List.setIfInBounds_toArray, List.set_cons_zero, List.set_cons_succ]
              refine reg0_tk (v := ?_) 8 33 rfl rfl (by kernel_rfl) (by kernel_rfl) (by kernel_rfl) (by kernel_rfl) (by kernel_rfl) (fun _ _ _ h => h) (by rfl) ?_ (by assumption) (by assumption) ?_
              rotate_left
              · (intro w3 hS; (try dsimp only at hS); skip; go_simp; (try with_reducible rfl))
              simp only [List.setIfInBounds_toArray, List.set_cons_zero, List.set_cons_succ]
              refine wpAnyG_oneS (i := 4) (by kernel_rfl) rfl (by rfl) (fun K hK => ?_)
              go_simp
              obtain ⟨w3, hw3⟩ : ∃ V : World, V = World.alloc w2 (.cells #[] 80) := ⟨_, rfl⟩
              have hb3 : Below (World.heap w2).size w2 w3 := by rw [hw3]; exact Below.al (Below.refl _ _) _
              have oB : World.ownsRow w3 W.heap.size 80 2 (.slice (some ⟨w2.heap.size, 0, none⟩) 0 0) 0 [] := by rw [hw3]; exact owns_block _ _ 80 2 0 [] _ (by have := hBa.size; omega) (heap_last _ _) rfl (by decide)
              rw [← hw3]
              clear hw3
              replace oA := Own.keep oA hb3
              have hBb := Below.next hBa hb3
              have q4_3 : World.cell? w3 ⟨p5, 4, none⟩ = some (.slice y.ta y.tn y.tc) := cell_later hb3 q4
              have q5_3 : World.cell? w3 ⟨p5, 5, none⟩ = some (.slice y.ka y.kn y.kc) := cell_later hb3 q5
              clear hBa
              have hBa := hBb
              clear hBb
              clear q4 q5 hSc
              have q4 := q4_3
              have q5 := q5_3
              clear q4_3 q5_3 hb3
              have hSc := And.intro q4 q5
              refine hK _ _ trivial hSc ?_
              clear hK K
              try simp only [Act.put, List.setIfInBounds_toArray, List.set_cons_zero, List.set_cons_succ]
              refine wpAnyG_oneS (i := 7) (by kernel_rfl) rfl (by rfl) (fun K hK => ?_)
              refine wp_app_new (.tmp 29) (.tmp 31) 43 rfl W.heap.size 80 _ 2 16 ETg _ rfl oB (.slice y.ka y.kn y.kc) y.kn (rcs tgR kps) rfl (HKP.out _ hBa) (rcs_one _ _) (by unfold maxLen; omega) (by omega) (by have := hBa.size; omega) ?_
              intro aB cB w4 oB2 hb4
              go_simp
              clear oB
              have oB := oB2
              clear oB2
              replace oA := Own.keep oA hb4
              have hBb := Below.next hBa hb4
              have q4_4 : World.cell? w4 ⟨p5, 4, none⟩ = some (.slice y.ta y.tn y.tc) := cell_later hb4 q4
              have q5_4 : World.cell? w4 ⟨p5, 5, none⟩ = some (.slice y.ka y.kn y.kc) := cell_later hb4 q5
              clear hBa
              have hBa := hBb
              clear hBb
              clear q4 q5 hSc
              have q4 := q4_4
              have q5 := q5_4
              clear q4_4 q5_4 hb4
              have hSc := And.intro q4 q5
              refine hK _ _ trivial hSc ?_
              clear hK K
              try simp only [Act.put, List.setIfInBounds_toArray, List.set_cons_zero, List.set_cons_succ]
              have bz := B5.out.below hBa
              have v4 : World.cell? w4 ⟨p5, 4, none⟩ = some (.slice y.ta y.tn y.tc) := bz.cell 4
              have f4 : World.frozen? w4 ⟨p5, 4, none⟩ = false := bz.frozen 4
              have bz4 := bz.setc 4 (.slice aA y.tn cA)
              have v5 : (World.setCell w4 ⟨p5, 4, none⟩ (.slice aA y.tn cA)).cell? ⟨p5, 5, none⟩ = some (.slice y.ka y.kn y.kc) := bz4.cell 5
              have f5 : (World.setCell w4 ⟨p5, 4, none⟩ (.slice aA y.tn cA)).frozen? ⟨p5, 5, none⟩ = false := bz4.frozen 5
              have bz5 := bz4.setc 5 (.slice aB y.kn cB)
              refine wpAnyG_one (i := 9) (by kernel_rfl) rfl (by rfl) (by kernel_rfl) (fun K hK => ?_)
              go_simp
              refine hK _ _ trivial ?_
              clear hK K
              try simp only [Act.put, List.setIfInBounds_toArray, List.set_cons_zero, List.set_cons_succ]
              refine wpAnyG_one (i := 10) (by kernel_rfl) rfl (by rfl) (by kernel_rfl) (fun K hK => ?_)
              go_simp
              refine hK _ _ trivial ?_
              clear hK K
              try simp only [Act.put, List.setIfInBounds_toArray, List.set_cons_zero, List.set_cons_succ]
              refine wpAnyG_one (i := 11) (by kernel_rfl) rfl (by rfl) (by kernel_rfl) (fun K hK => ?_)
              go_simp
              obtain ⟨wz, hwz⟩ : ∃ V : World, V = (World.setCell w4 ⟨p5, 4, none⟩ (.slice aA y.tn cA)).setCell ⟨p5, 5, none⟩ (.slice aB y.kn cB) := ⟨_, rfl⟩
              have hkz : Kx (fun k => k = p5) w4 wz := by rw [hwz]; exact (kx_cell _ _ _ _).setCell (.inl rfl) _
              rw [← hwz] at bz5 ⊢
              have oA2 := hkz.owns (fun q e e2 => row_ne oA bz (by decide) q e e2.symm) oA
              have oB2 := hkz.owns (fun q e e2 => row_ne oB bz (by decide) q e e2.symm) oB
              have hBz : Below p5 wr wz := (hBr.trans (hBa.mono hB5s)).trans (hkz.below (by have := hBa.size; omega) (fun k e => by omega))
              clear v4 f4 v5 f5 hwz q4 q5 hSc
              refine hK _ _ trivial ?_
              clear hK K
              try simp only [Act.put, List.setIfInBounds_toArray, List.set_cons_zero, List.set_cons_succ]
              refine wpAnyG_done (by kernel_rfl) ?_ _
              refine NoPanic.normal ?_
              go_wp2_with fail
              go_meet
              exact ⟨_, _, _, _, rfl, bz5, oA2, oB2, hBz⟩
            · go_simp
              obtain ⟨w5, hw5⟩ : ∃ V : World, V = World.alloc w1 (.cells #[] 80) := ⟨_, rfl⟩
              have hb5 : Below (World.heap w1).size w1 w5 := by rw [hw5]; exact Below.al (Below.refl _ _) _
              have oB : World.ownsRow w5 W.heap.size 80 2 (.slice (some ⟨w1.heap.size, 0, none⟩) 0 0) 0 [] := by rw [hw5]; exact owns_block _ _ 80 2 0 [] _ (by have := hBa.size; omega) (heap_last _ _) rfl (by decide)
              rw [← hw5]
              clear hw5
              replace oA := Own.keep oA hb5
              have hBb := Below.next hBa hb5
              have q4_5 : World.cell? w5 ⟨p5, 4, none⟩ = some (.slice y.ta y.tn y.tc) := cell_later hb5 q4
              have q5_5 : World.cell? w5 ⟨p5, 5, none⟩ = some (.slice y.ka y.kn y.kc) := cell_later hb5 q5
              clear hBa
              have hBa := hBb
              clear hBb
              clear q4 q5 hSc
              have q4 := q4_5
              have q5 := q5_5
              clear q4_5 q5_5 hb5
              have hSc := And.intro q4 q5
              refine hK _ _ trivial hSc ?_
              clear hK K
              try simp only [Act.put, List.setIfInBounds_toArray, List.set_cons_zero, List.set_cons_succ]
              refine wpAnyG_oneS (i := 3) (by kernel_rfl) rfl (by rfl) (fun K hK => ?_)
              refine wp_app_new (.tmp 25) (.tmp 27) 43 rfl W.heap.size 80 _ 2 16 ETg _ rfl oA (.slice y.ta y.tn y.tc) y.tn (rcs tgR tks) rfl (HTK.out _ hBa) (rcs_one _ _) (by unfold maxLen; omega) (by omega) (by have := hBa.size; omega) ?_
              intro aA cA w6 oA2 hb6
              go_simp
              clear oA
              have oA := oA2
              clear oA2
              replace oB := Own.keep oB hb6
              have hBb := Below.next hBa hb6
              have q4_6 : World.cell? w6 ⟨p5, 4, none⟩ = some (.slice y.ta y.tn y.tc) := cell_later hb6 q4
              have q5_6 : World.cell? w6 ⟨p5, 5, none⟩ = some (.slice y.ka y.kn y.kc) := cell_later hb6 q5
              clear hBa
              have hBa := hBb
              clear hBb
              clear q4 q5 hSc
              have q4 := q4_6
              have q5 := q5_6
              clear q4_6 q5_6 hb6
              have hSc := And.intro q4 q5
              refine hK _ _ trivial hSc ?_
              clear hK K
              try simp only [Act.put, List.setIfInBounds_toArray, List.set_cons_zero, List.set_cons_succ]
              refine reg0_tk (v := ?_) 8 33 rfl rfl (by kernel_rfl) (by kernel_rfl) (by kernel_rfl) (by kernel_rfl) (by kernel_rfl) (fun _ _ _ h => h) (by rfl) ?_ (by assumption) (by assumption) ?_
              rotate_left
              · (intro w3 hS; (try dsimp only at hS); skip; go_simp; (try with_reducible rfl))
              simp only [List.setIfInBounds_toArray, List.set_cons_zero, List.set_cons_succ]
              refine wpAnyG_oneS (i := 7) (by kernel_rfl) rfl (by rfl) (fun K hK => ?_)
              refine wp_app_new (.tmp 29) (.tmp 31) 43 rfl W.heap.size 80 _ 2 16 ETg _ rfl oB (.slice y.ka y.kn y.kc) y.kn (rcs tgR kps) rfl (HKP.out _ hBa) (rcs_one _ _) (by unfold maxLen; omega) (by omega) (by have := hBa.size; omega) ?_
              intro aB cB w7 oB2 hb7
              go_simp
              clear oB
              have oB := oB2
              clear oB2
              replace oA := Own.keep oA hb7
              have hBb := Below.next hBa hb7
              have q4_7 : World.cell? w7 ⟨p5, 4, none⟩ = some (.slice y.ta y.tn y.tc) := cell_later hb7 q4
              have q5_7 : World.cell? w7 ⟨p5, 5, none⟩ = some (.slice y.ka y.kn y.kc) := cell_later hb7 q5
              clear hBa
              have hBa := hBb
              clear hBb
              clear q4 q5 hSc
              have q4 := q4_7
              have q5 := q5_7
              clear q4_7 q5_7 hb7
              have hSc := And.intro q4 q5
              refine hK _ _ trivial hSc ?_
              clear hK K
              try simp only [Act.put, List.setIfInBounds_toArray, List.set_cons_zero, List.set_cons_succ]
              have bz := B5.out.below hBa
              have v4 : World.cell? w7 ⟨p5, 4, none⟩ = some (.slice y.ta y.tn y.tc) := bz.cell 4
              have f4 : World.frozen? w7 ⟨p5, 4, none⟩ = false := bz.frozen 4
              have bz4 := bz.setc 4 (.slice aA y.tn cA)
              have v5 : (World.setCell w7 ⟨p5, 4, none⟩ (.slice aA y.tn cA)).cell? ⟨p5, 5, none⟩ = some (.slice y.ka y.kn y.kc) := bz4.cell 5
              have f5 : (World.setCell w7 ⟨p5, 4, none⟩ (.slice aA y.tn cA)).frozen? ⟨p5, 5, none⟩ = false := bz4.frozen 5
              have bz5 := bz4.setc 5 (.slice aB y.kn cB)
              refine wpAnyG_one (i := 9) (by kernel_rfl) rfl (by rfl) (by kernel_rfl) (fun K hK => ?_)
              go_simp
              refine hK _ _ trivial ?_
              clear hK K
              try simp only [Act.put, List.setIfInBounds_toArray, List.set_cons_zero, List.set_cons_succ]
              refine wpAnyG_one (i := 10) (by kernel_rfl) rfl (by rfl) (by kernel_rfl) (fun K hK => ?_)
              go_simp
              refine hK _ _ trivial ?_
              clear hK K
              try simp only [Act.put, List.setIfInBounds_toArray, List.set_cons_zero, List.set_cons_succ]
              refine wpAnyG_one (i := 11) (by kernel_rfl) rfl (by rfl) (by kernel_rfl) (fun K hK => ?_)
              go_simp
              obtain ⟨wz, hwz⟩ : ∃ V : World, V = (World.setCell w7 ⟨p5, 4, none⟩ (.slice aA y.tn cA)).setCell ⟨p5, 5, none⟩ (.slice aB y.kn cB) := ⟨_, rfl⟩
              have hkz : Kx (fun k => k = p5) w7 wz := by rw [hwz]; exact (kx_cell _ _ _ _).setCell (.inl rfl) _
              rw [← hwz] at bz5 ⊢
              have oA2 := hkz.owns (fun q e e2 => row_ne oA bz (by decide) q e e2.symm) oA
              have oB2 := hkz.owns (fun q e e2 => row_ne oB bz (by decide) q e e2.symm) oB
              have hBz : Below p5 wr wz := (hBr.trans (hBa.mono hB5s)).trans (hkz.below (by have := hBa.size; omega) (fun k e => by omega))
              clear v4 f4 v5 f5 hwz q4 q5 hSc
              refine hK _ _ trivial ?_
              clear hK K
              try simp only [Act.put, List.setIfInBounds_toArray, List.set_cons_zero, List.set_cons_succ]
              refine wpAnyG_done (by kernel_rfl) ?_ _
              refine NoPanic.normal ?_
              go_wp2_with fail
              go_meet
              exact ⟨_, _, _, _, rfl, bz5, oA2, oB2, hBz⟩
          · go_simp
            obtain ⟨w8, hw8⟩ : ∃ V : World, V = (World.alloc W5 (.cells #[] 80)).drew := ⟨_, rfl⟩
            have hb8 : Below (World.heap W5).size W5 w8 := by rw [hw8]; exact (Below.al (Below.refl _ _) _).drew
            have oB : World.ownsRow w8 W.heap.size 80 2 (.slice (some ⟨W5.heap.size, 0, none⟩) 0 0) 0 [] := by rw [hw8]; exact owns_block _ _ 80 2 0 [] _ (by have := hBa.size; omega) (heap_last _ _) rfl (by decide)
            rw [← hw8]
            clear hw8
            have hBb := Below.next hBa hb8
            have q4_8 : World.cell? w8 ⟨p5, 4, none⟩ = some (.slice y.ta y.tn y.tc) := cell_later hb8 g4
            have q5_8 : World.cell? w8 ⟨p5, 5, none⟩ = some (.slice y.ka y.kn y.kc) := cell_later hb8 g5
            clear hBa
            have hBa := hBb
            clear hBb
            have q4 := q4_8
            have q5 := q5_8
            clear q4_8 q5_8 hb8
            have hSc := And.intro q4 q5
            refine hK _ _ trivial hSc ?_
            clear hK K
            try simp only [Act.put, List.setIfInBounds_toArray, List.set_cons_zero, List.set_cons_succ]
            refine wpAnyG_oneS (i := 0) (by kernel_rfl) rfl (by rfl) (fun K hK => ?_)
            go_simp
            obtain ⟨w9, hw9⟩ : ∃ V : World, V = World.alloc w8 (.cells #[] 80) := ⟨_, rfl⟩
            have hb9 : Below (World.heap w8).size w8 w9 := by rw [hw9]; exact Below.al (Below.refl _ _) _
            have oA : World.ownsRow w9 W.heap.size 80 2 (.slice (some ⟨w8.heap.size, 0, none⟩) 0 0) 0 [] := by rw [hw9]; exact owns_block _ _ 80 2 0 [] _ (by have := hBa.size; omega) (heap_last _ _) rfl (by decide)
            rw [← hw9]
            clear hw9
            replace oB := Own.keep oB hb9
            have hBb := Below.next hBa hb9
            have q4_9 : World.cell? w9 ⟨p5, 4, none⟩ = some (.slice y.ta y.tn y.tc) := cell_later hb9 q4
            have q5_9 : World.cell? w9 ⟨p5, 5, none⟩ = some (.slice y.ka y.kn y.kc) := cell_later hb9 q5
            clear hBa
            have hBa := hBb
            clear hBb
            clear q4 q5 hSc
            have q4 := q4_9
            have q5 := q5_9
            clear q4_9 q5_9 hb9
            have hSc := And.intro q4 q5
            refine hK _ _ trivial hSc ?_
            clear hK K
            try simp only [Act.put, List.setIfInBounds_toArray, List.set_cons_zero, List.set_cons_succ]
            refine wpAnyG_oneS (i := 3) (by kernel_rfl) rfl (by rfl) (fun K hK => ?_)
            refine wp_app_new (.tmp 25) (.tmp 27) 43 rfl W.heap.size 80 _ 2 16 ETg _ rfl oA (.slice y.ta y.tn y.tc) y.tn (rcs tgR tks) rfl (HTK.out _ hBa) (rcs_one _ _) (by unfold maxLen; omega) (by omega) (by have := hBa.size; omega) ?_
            intro aA cA w10 oA2 hb10
            go_simp
            clear oA
            have oA := oA2
            clear oA2
            replace oB := Own.keep oB hb10
            have hBb := Below.next hBa hb10
            have q4_10 : World.cell? w10 ⟨p5, 4, none⟩ = some (.slice y.ta y.tn y.tc) := cell_later hb10 q4
            have q5_10 : World.cell? w10 ⟨p5, 5, none⟩ = some (.slice y.ka y.kn y.kc) := cell_later hb10 q5
            clear hBa
            have hBa := hBb
            clear hBb
            clear q4 q5 hSc
            have q4 := q4_10
            have q5 := q5_10
            clear q4_10 q5_10 hb10
            have hSc := And.intro q4 q5
            refine hK _ _ trivial hSc ?_
            clear hK K
            try simp only [Act.put, List.setIfInBounds_toArray, List.set_cons_zero, List.set_cons_succ]
            refine reg0_tk (v := ?_) 8 33 rfl rfl (by kernel_rfl) (by kernel_rfl) (by kernel_rfl) (by kernel_rfl) (by kernel_rfl) (fun _ _ _ h => h) (by rfl) ?_ (by assumption) (by assumption) ?_
            rotate_left
            · (intro w3 hS; (try dsimp only at hS); skip; go_simp; (try with_reducible rfl))
            simp only [List.setIfInBounds_toArray, List.set_cons_zero, List.set_cons_succ]
            refine wpAnyG_oneS (i := 7) (by kernel_rfl) rfl (by rfl) (fun K hK => ?_)
            refine wp_app_new (.tmp 29) (.tmp 31) 43 rfl W.heap.size 80 _ 2 16 ETg _ rfl oB (.slice y.ka y.kn y.kc) y.kn (rcs tgR kps) rfl (HKP.out _ hBa) (rcs_one _ _) (by unfold maxLen; omega) (by omega) (by have := hBa.size; omega) ?_
            intro aB cB w11 oB2 hb11
            go_simp
            clear oB
            have oB := oB2
            clear oB2
            replace oA := Own.keep oA hb11
            have hBb := Below.next hBa hb11
            have q4_11 : World.cell? w11 ⟨p5, 4, none⟩ = some (.slice y.ta y.tn y.tc) := cell_later hb11 q4
            have q5_11 : World.cell? w11 ⟨p5, 5, none⟩ = some (.slice y.ka y.kn y.kc) := cell_later hb11 q5
            clear hBa
            have hBa := hBb
            clear hBb
            clear q4 q5 hSc
            have q4 := q4_11
            have q5 := q5_11
            clear q4_11 q5_11 hb11
            have hSc := And.intro q4 q5
            refine hK _ _ trivial hSc ?_
            clear hK K
            try simp only [Act.put, List.setIfInBounds_toArray, List.set_cons_zero, List.set_cons_succ]
            have bz := B5.out.below hBa
            have v4 : World.cell? w11 ⟨p5, 4, none⟩ = some (.slice y.ta y.tn y.tc) := bz.cell 4
            have f4 : World.frozen? w11 ⟨p5, 4, none⟩ = false := bz.frozen 4
            have bz4 := bz.setc 4 (.slice aA y.tn cA)
            have v5 : (World.setCell w11 ⟨p5, 4, none⟩ (.slice aA y.tn cA)).cell? ⟨p5, 5, none⟩ = some (.slice y.ka y.kn y.kc) := bz4.cell 5
            have f5 : (World.setCell w11 ⟨p5, 4, none⟩ (.slice aA y.tn cA)).frozen? ⟨p5, 5, none⟩ = false := bz4.frozen 5
            have bz5 := bz4.setc 5 (.slice aB y.kn cB)
            refine wpAnyG_one (i := 9) (by kernel_rfl) rfl (by rfl) (by kernel_rfl) (fun K hK => ?_)
            go_simp
            refine hK _ _ trivial ?_
            clear hK K
            try simp only [Act.put, List.setIfInBounds_toArray, List.set_cons_zero, List.set_cons_succ]
            refine wpAnyG_one (i := 10) (by kernel_rfl) rfl (by rfl) (by kernel_rfl) (fun K hK => ?_)
            go_simp
            refine hK _ _ trivial ?_
            clear hK K
            try simp only [Act.put, List.setIfInBounds_toArray, List.set_cons_zero, List.set_cons_succ]
            refine wpAnyG_one (i := 11) (by kernel_rfl) rfl (by rfl) (by kernel_rfl) (fun K hK => ?_)
            go_simp
            obtain ⟨wz, hwz⟩ : ∃ V : World, V = (World.setCell w11 ⟨p5, 4, none⟩ (.slice aA y.tn cA)).setCell ⟨p5, 5, none⟩ (.slice aB y.kn cB) := ⟨_, rfl⟩
            have hkz : Kx (fun k => k = p5) w11 wz := by rw [hwz]; exact (kx_cell _ _ _ _).setCell (.inl rfl) _
            rw [← hwz] at bz5 ⊢
            have oA2 := hkz.owns (fun q e e2 => row_ne oA bz (by decide) q e e2.symm) oA
            have oB2 := hkz.owns (fun q e e2 => row_ne oB bz (by decide) q e e2.symm) oB
            have hBz : Below p5 wr wz := (hBr.trans (hBa.mono hB5s)).trans (hkz.below (by have := hBa.size; omega) (fun k e => by omega))
            clear v4 f4 v5 f5 hwz q4 q5 hSc
            refine hK _ _ trivial ?_
            clear hK K
            try simp only [Act.put, List.setIfInBounds_toArray, List.set_cons_zero, List.set_cons_succ]
            refine wpAnyG_done (by kernel_rfl) ?_ _
            refine NoPanic.normal ?_
            go_wp2_with fail
            go_meet
            exact ⟨_, _, _, _, rfl, bz5, oA2, oB2, hBz⟩
        case rest =>
          obtain ⟨ta, tc, ka, kc, rfl, b5, oT, oK, hbx⟩ := hcut
          rename World => wx
          have hbx' : Below wr.heap.size wr wx := by rw [HP5.out]; exact hbx
          have b3x := HLO.out.box.below hbx'
          have orx : wx.ownsRow W.heap.size 45 6 (.slice va k vc) k (rcs cpR qk) := Own.keep HLO.out.rows hbx'
          have ofx : OwP wx W.heap.size (.slice aF X.fr.length cF) X.fr := Own.keep HLO.out.frs hbx'
          have hcx : ∀ i, i < k → CopO wx W.heap.size (gq qk i) (gc X.cs i) := fun i hi => ⟨(HLO.out.cop i hi).st, (HLO.out.cop i hi).tt, (HLO.out.cop i hi).of, (HLO.out.cop i hi).nx, Own.keep (HLO.out.cop i hi).tk hbx', Own.keep (HLO.out.cop i hi).kp hbx'⟩
          obtain ⟨y', hy'⟩ : ∃ z, ({ y with ta := ta, tc := tc, ka := ka, kc := kc } : Cq) = z := ⟨_, rfl⟩
          have hyc : CopO wx W.heap.size y' cc := by
            rw [← hy']
            refine ⟨HCO.out.st, HCO.out.tt, HCO.out.of, HCO.out.nx, ?_, ?_⟩
            · show wx.ownsRow W.heap.size 80 2 (.slice ta y.tn tc) cc.tk.length (rcs tgR cc.tk)
              rw [HTKE.out, ← HTN.out]
              exact oT
            · show wx.ownsRow W.heap.size 80 2 (.slice ka y.kn kc) cc.kp.length (rcs tgR cc.kp)
              rw [HKPE.out, ← HKN.out]
              exact oK
          have s0 : wx.cell? ⟨p5, 0, none⟩ = some (.int .i64 y.st) := b5.cell 0
          have s1 : wx.cell? ⟨p5, 1, none⟩ = some (.int .i64 y.tt) := b5.cell 1
          have s2 : wx.cell? ⟨p5, 2, none⟩ = some (.int .i64 y.of) := b5.cell 2
          have s3 : wx.cell? ⟨p5, 3, none⟩ = some (.int .i64 y.nx) := b5.cell 3
          have s4 : wx.cell? ⟨p5, 4, none⟩ = some (.slice ta y.tn tc) := b5.cell 4
          have s5 : wx.cell? ⟨p5, 5, none⟩ = some (.slice ka y.kn kc) := b5.cell 5
          have z1 : wx.cell? ⟨p3, 1, none⟩ = some (.slice va k vc) := b3x.cell 1
          have hlit : RdS (wx.alloc (.cells #[.int .i64 y.st, .int .i64 y.tt, .int .i64 y.of, .int .i64 y.nx, .slice ta y.tn tc, .slice ka y.kn kc] 45)) 6 (.slice (some ⟨wx.heap.size, 0, none⟩) 1 1) 1 (rcs cpR [y']) := by
            rw [← hy']
            exact rds_lit cpR wx 45 [{ y with ta := ta, tc := tc, ka := ka, kc := kc }] 1 rfl (by decide) (fun j u hj => alloc_cell _ _ _ j u hj)
          have hWx : W.heap.size ≤ wx.heap.size := by have := hbx'.size; omega
          have ora := orx.alloc (.cells #[.int .i64 y.st, .int .i64 y.tt, .int .i64 y.of, .int .i64 y.nx, .slice ta y.tn tc, .slice ka y.kn kc] 45)
          have b3a := b3x.alloc (.cells #[.int .i64 y.st, .int .i64 y.tt, .int .i64 y.of, .int .i64 y.nx, .slice ta y.tn tc, .slice ka y.kn kc] 45)
          have HLIT := Lib.hid hlit
          have HORA := Lib.hid ora
          have HB3A := Lib.hid b3a
          have HB3X := Lib.hid b3x
          have HORX := Lib.hid orx
          have HOFX := Lib.hid ofx
          have HCX := Lib.hid hcx
          have HYC := Lib.hid hyc
          have HBX := Lib.hid hbx'
          have HLEN := Lib.hid HLO.out.len
          have HYE := Lib.hid hy'
          clear hlit ora b3a b3x orx ofx hcx hyc hbx hbx' oT oK b5 hy' x1
          go_wp2_with (at_builtin; refine wpList_app rfl (.tmp 36) (.tmp 38) 22 rfl W.heap.size 45 _ 6 80 ECp _ k (rcs cpR qk) rfl HORA.out _ 1 (rcs cpR [y']) rfl HLIT.out (rcs_one cpR _) ?c1 ?c2 ?c3 ?_)
          case c1 => unfold maxLen; omega
          case c2 => omega
          case c3 => simp; omega
          intro a3 c3 w3 hown3 hg3 hb3
          have b3w := HB3A.out.kept hg3 (fun e => row_ne HORA.out HB3A.out (by decide) p3 e.symm rfl)
          have hk3 : Kx (fun b => (Value.slice va k vc).ownBlock = some b) wx w3 := ((Kx.refl _ wx).alloc _).grown hg3 (fun b e => .inl e)
          have v1 : w3.cell? ⟨p3, 1, none⟩ = some (.slice va k vc) := b3w.cell 1
          have f1 := b3w.frozen 1
          obtain ⟨w4, hw4⟩ : ∃ V : World, V = w3.setCell ⟨p3, 1, none⟩ (.slice a3 (k + 1) c3) := ⟨_, rfl⟩
          have hk34 : Kx (fun b => b = p3) w3 w4 := by rw [hw4]; exact kx_cell _ _ _ _
          have hk4 : Kx (fun b => (Value.slice va k vc).ownBlock = some b ∨ b = p3) wx w4 := (hk3.mono (fun b e => .inl e)).trans hk34 (fun b _ e => .inr e)
          have hne : ∀ {T s n : Nat} {u : Value} {xs : List Value}, wx.ownsRow W.heap.size T s u n xs → 45 ≠ T → 25 ≠ T → ∀ b, u.ownBlock = some b → ¬ ((Value.slice va k vc).ownBlock = some b ∨ b = p3) := fun ho h1 h2 b hb e => by
            rcases e with e | e
            · exact own_apart HORX.out ho h1 b e hb
            · exact row_ne ho HB3X.out h2 b hb e.symm
          have HR : Hid (LO w4 W.heap.size p3 a3 c3 aF cF (qk ++ [y']) X (k + 1) ∧ Below W.heap.size W w4) := Lib.hid (by
            refine ⟨⟨?_, ?_, by simp [HLEN.out], hk4.owns (hne HOFX.out (by decide) (by decide)) HOFX.out, fun i hi => ?_, HLO.out.ge⟩, ?_⟩
            · rw [hw4]; exact b3w.setc 1 _
            · have e := hk34.owns (fun b e e2 => row_ne hown3 b3w (by decide) b e e2.symm) hown3
              rw [rcs_append]
              exact e
            · rw [gq_snoc (by rw [HLEN.out]; omega)]
              split
              · rename_i e
                rw [HLEN.out] at e
                subst e
                rw [HC.out]
                exact HYC.out.kx hk4 (hne HYC.out.tk (by decide) (by decide)) (hne HYC.out.kp (by decide) (by decide))
              · rename_i e
                rw [HLEN.out] at e
                have hc := HCX.out i (by omega)
                exact hc.kx hk4 (hne hc.tk (by decide) (by decide)) (hne hc.kp (by decide) (by decide))
            · refine (HBR.out.trans (HBX.out.mono hWr)).trans (hk4.below hWx (fun b e => ?_))
              rcases e with e | e
              · exact (HORX.out.lt b e).1
              · rw [e]; exact HLO.out.ge)
          have HW4 := Lib.hid hw4
          clear hown3 hg3 hb3 b3w hk3 hk34 hk4 hne hw4
          go_wp2_with fail
          rw [← HW4.out]
          go_roundw
          case rel => exact ⟨k + 1, a3, c3, qk ++ [y'], by omega, by go_num, HR.out.1, HR.out.2⟩
          case measure => simp [intOf]; omega
      · obtain rfl : k = N := by omega
        have d1 : decide ((k : Int) < (k : Int)) = false := nb (by omega)
        have hlo := HLO.out
        rw [← HXN.out] at hlo
        have hpt := hlo.pt
        have hln := HLO.out.len
        have hbox := HLO.out.box
        rw [hln, HF.out] at hpt
        rw [HF.out] at hbox
        have e9 := HBT.out.below HBR.out
        have t0 : wr.cell? ⟨w.heap.size + 1, 0, none⟩ = some (.int .i64 0) := e9.cell 0
        have t1 : wr.cell? ⟨w.heap.size + 1, 1, none⟩ = some (.slice none 0 0) := e9.cell 1
        have t2 : wr.cell? ⟨w.heap.size + 1, 2, none⟩ = some (.slice none 0 0) := e9.cell 2
        have y0 := e9.frozen 0
        have y1 := e9.frozen 1
        have y2 := e9.frozen 2
        have u0 : wr.cell? ⟨p3, 0, none⟩ = some (.int .i64 X.ds) := hbox.cell 0
        have u1 : wr.cell? ⟨p3, 1, none⟩ = some (.slice va k vc) := hbox.cell 1
        have u2 : wr.cell? ⟨p3, 2, none⟩ = some (.slice aF F cF) := hbox.cell 2
        have HPT := Lib.hid hpt
        have HLN := Lib.hid hln
        have HB9 := Lib.hid (HB0.out.trans (HBR.out.mono HB0.out.size))
        have hws := HWS.out
        clear hlo hpt hln hbox e9
        go_wp2_with fail
        refine bodyPost_ret (v := .agg #[.int .i64 X.ds, .slice va k vc, .slice aF F cF]) (by simp [results, Try.results14, go_sem, t0, t1, t2]) rfl ⟨_, rfl, ⟨_, _, qk, rfl, ?_⟩, ?_⟩
        · exact (((HPT.out.set (p := ⟨w.heap.size + 1, 0, none⟩) _ (by show w.heap.size + 1 < W.heap.size; omega)).set (p := ⟨w.heap.size + 1, 1, none⟩) _ (by show w.heap.size + 1 < W.heap.size; omega)).set (p := ⟨w.heap.size + 1, 2, none⟩) _ (by show w.heap.size + 1 < W.heap.size; omega)).mono (by omega)
        · exact ((HB9.out.setCell (p := ⟨w.heap.size + 1, 0, none⟩) (Nat.le_succ _) _).setCell (p := ⟨w.heap.size + 1, 1, none⟩) (Nat.le_succ _) _).setCell (p := ⟨w.heap.size + 1, 2, none⟩) (Nat.le_succ _) _
end Go.Proofs.Ytnkpjfogjkjcfaa
