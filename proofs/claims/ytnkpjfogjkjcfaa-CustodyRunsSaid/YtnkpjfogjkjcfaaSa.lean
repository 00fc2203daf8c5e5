


/- Custody: the laws' comparisons of tags and of worlds, and what a light world is. -/
import Derived.Test.YtnkpjfogjkjcfaaC
namespace Go.Proofs.Ytnkpjfogjkjcfaa
open Go.RowKit
set_option linter.unusedSimpArgs false
set_option linter.unusedVariables false
set_option maxRecDepth 100000

theorem sameTags_eq (v u : Value) (l : List Tg) (w : World) (h : RdG w v l) (hu : RdG w u l) :
    Calls Try.prog 42 #[v, u] w fun e w' => e = .returned (.bool true) ∧ Below w.heap.size w w' := by
  obtain ⟨a0, n0, rfl⟩ := h.form
  obtain ⟨a1, n1, rfl⟩ := hu.form
  have hmx := h.2.1
  unfold maxLen at hmx
  obtain ⟨N, hN⟩ : ∃ N, l.length = N := ⟨_, rfl⟩
  rw [hN] at h hu hmx ⊢
  have HR := Lib.hid h
  have HU := Lib.hid hu
  have HN := Lib.hid hN
  clear h hu hN
  have d0 : ((N : Int) != (N : Int)) = false := by simp
  go_enter Try.func42, Try.ntmps42
  go_wp2
  go_loopw [5] (fun i wr => ∃ k : Nat, k ≤ N ∧ i = .int .i64 k ∧ Below w.heap.size w wr) (fun i _ => N - (intOf i).toNat)
  case atStart => exact ⟨0, Nat.zero_le _, rfl, Below.refl _ _⟩
  case round =>
    obtain ⟨k, hk, rfl, hB⟩ := hrel
    by_cases hlt : k < N
    · have d2 : decide ((k : Int) < (N : Int)) = true := yb (by omega)
      obtain ⟨b1, o1, rfl, hc1, g0, g1⟩ := RdG.at (HR.out.keep hB) HN.out k hlt
      obtain ⟨b2, o2, rfl, hc2, y0, y1⟩ := RdG.at (HU.out.keep hB) HN.out k hlt
      obtain ⟨y, HY⟩ : ∃ y, Hid (gt l k = y) := ⟨_, rfl⟩
      rw [HY.out] at g0 g1 y0 y1
      have n1 : (0 : Int) ≤ (k : Int) := by omega
      have n2 : (k : Int) < (N : Int) := by omega
      have hwk : IntKind.i64.wrap (k : Int) = (k : Int) := IntWalk.i64_in _ (by omega)
      have hwk2 : IntKind.i64.wrap ((k : Int) + 1) = (k : Int) + 1 := IntWalk.i64_in _ (by omega)
      go_wp2_with fail
      go_quiet (fail)
      go_wp2_with fail
      go_roundw
      case rel => exact ⟨k + 1, by omega, by go_num, Below.next hB (below_drewN (Below.refl _ _) _)⟩
      case measure => simp [intOf]; omega
    · have d2 : decide ((k : Int) < (N : Int)) = false := nb (by omega)
      go_wp2_with fail
      go_ret
      exact ⟨rfl, hB⟩
set_option maxHeartbeats 2000000 in
theorem same_eq (v u : Value) (X : Wd) (w : World) (h : RdW w v X) (hu : RdW w u X) :
    Calls Try.prog 17 #[v, u] w fun e w' => e = .returned (.bool true) ∧ Below w.heap.size w w' := by
  obtain ⟨cv, fv, q, rfl, hp⟩ := h
  obtain ⟨cv2, fv2, q2, rfl, hp2⟩ := hu
  obtain ⟨a, c, rfl⟩ := hp.rows.form
  obtain ⟨fa, fc, rfl⟩ := hp.frs.form
  obtain ⟨a2, c2, rfl⟩ := hp2.rows.form
  obtain ⟨fa2, fc2, rfl⟩ := hp2.frs.form
  have hl := hp.len
  have hl2 := hp2.len
  have hmx := hp.rows.2.1
  have hmf := hp.frs.2.1
  unfold maxLen at hmx hmf
  obtain ⟨N, hN⟩ : ∃ N, X.cs.length = N := ⟨_, rfl⟩
  obtain ⟨F, hF⟩ : ∃ F, X.fr.length = F := ⟨_, rfl⟩
  rw [hN] at hl hl2
  rw [hl] at hp hmx ⊢
  rw [hl2] at hp2 ⊢
  rw [hF] at hp hp2 hmf ⊢
  obtain ⟨W, hW⟩ : ∃ W : World, W = (w.alloc (.cells #[.int .i64 X.ds, .slice a N c, .slice fa F fc] 25)).alloc (.cells #[.int .i64 X.ds, .slice a2 N c2, .slice fa2 F fc2] 25) := ⟨_, rfl⟩
  have hB0 : Below w.heap.size w W := by rw [hW]; exact (by repeat (first | assumption | exact Below.refl _ _ | apply Below.al | apply below_drewN | apply Below.drew | refine Below.next ?_ (by assumption)))
  have hWs : w.heap.size + 2 = W.heap.size := by rw [hW]; simp
  have bX : BoxN W w.heap.size 25 #[.int .i64 X.ds, .slice a N c, .slice fa F fc] := by rw [hW]; exact (BoxN.new w _ _).below (by repeat (first | assumption | exact Below.refl _ _ | apply Below.al | apply below_drewN | apply Below.drew | refine Below.next ?_ (by assumption)))
  have bY : BoxN W (w.heap.size + 1) 25 #[.int .i64 X.ds, .slice a2 N c2, .slice fa2 F fc2] := by
    rw [hW]
    have := BoxN.new (w.alloc (.cells #[.int .i64 X.ds, .slice a N c, .slice fa F fc] 25)) 25 #[.int .i64 X.ds, .slice a2 N c2, .slice fa2 F fc2]
    simpa using this
  have HP := Lib.hid (hp.keep hB0)
  have HP2 := Lib.hid (hp2.keep hB0)
  have HL := Lib.hid hl
  have HL2 := Lib.hid hl2
  have HF := Lib.hid hF
  have x0 : W.cell? ⟨w.heap.size, 0, none⟩ = some (.int .i64 X.ds) := bX.cell 0
  have x1 : W.cell? ⟨w.heap.size, 1, none⟩ = some (.slice a N c) := bX.cell 1
  have x2 : W.cell? ⟨w.heap.size, 2, none⟩ = some (.slice fa F fc) := bX.cell 2
  have y0 : W.cell? ⟨w.heap.size + 1, 0, none⟩ = some (.int .i64 X.ds) := bY.cell 0
  have y1 : W.cell? ⟨w.heap.size + 1, 1, none⟩ = some (.slice a2 N c2) := bY.cell 1
  have y2 : W.cell? ⟨w.heap.size + 1, 2, none⟩ = some (.slice fa2 F fc2) := bY.cell 2
  have d1 : (X.ds != X.ds) = false := by simp
  have d2 : ((N : Int) != (N : Int)) = false := by simp
  have d3 : ((F : Int) != (F : Int)) = false := by simp
  clear bX bY hp hp2 hl hl2 hF hN hWs
  go_enter Try.func17, Try.ntmps17
  go_upto_region 1 with fail
  rw [← hW]
  clear hW
  go_wp2_with fail
  go_loopw [5] (fun i wr => ∃ k : Nat, k ≤ N ∧ i = .int .i64 k ∧ Below W.heap.size W wr) (fun i _ => N - (intOf i).toNat)
  case atStart => exact ⟨0, Nat.zero_le _, rfl, Below.refl _ _⟩
  case round =>
    obtain ⟨k, hk, rfl, hB⟩ := hrel
    have x1 := cell_later hB x1
    have y1 := cell_later hB y1
    by_cases hlt : k < N
    · have e1 : decide ((k : Int) < (N : Int)) = true := yb (by omega)
      obtain ⟨b1, o1, rfl, hc1, g0, g1, g2, g3, g4, g5⟩ := RdC.at (HP.out.keep hB).rows HL.out k hlt
      obtain ⟨b2, o2, rfl, hc2, z0, z1, z2, z3, z4, z5⟩ := RdC.at (HP2.out.keep hB).rows HL2.out k hlt
      have hco := (HP.out.keep hB).cop k
      have hco2 := (HP2.out.keep hB).cop k
      obtain ⟨y, HY⟩ : ∃ y, Hid (gq q k = y) := ⟨_, rfl⟩
      obtain ⟨y', HY'⟩ : ∃ y, Hid (gq q2 k = y) := ⟨_, rfl⟩
      rw [HY.out] at g0 g1 g2 g3 g4 g5 hco
      rw [HY'.out] at z0 z1 z2 z3 z4 z5 hco2
      have m0 : (y.st != y'.st) = false := by rw [hco.st, hco2.st]; simp
      have m1 : (y.tt != y'.tt) = false := by rw [hco.tt, hco2.tt]; simp
      have m2 : (y.of != y'.of) = false := by rw [hco.of, hco2.of]; simp
      have m3 : (y.nx != y'.nx) = false := by rw [hco.nx, hco2.nx]; simp
      have n1 : (0 : Int) ≤ (k : Int) := by omega
      have n2 : (k : Int) < (N : Int) := by omega
      have hwk : IntKind.i64.wrap (k : Int) = (k : Int) := IntWalk.i64_in _ (by omega)
      have hwk2 : IntKind.i64.wrap ((k : Int) + 1) = (k : Int) + 1 := IntWalk.i64_in _ (by omega)
      have HCO := Lib.hid hco
      have HCO2 := Lib.hid hco2
      clear hco hco2
      have hww : wr.drew.heap.size = wr.heap.size := rfl
      go_upto_region 6 with fail
      go_cut [6, 7] (fun sa sb wx => ∃ p1 p2 : Nat, sa = ptr p1 ∧ sb = ptr p2 ∧ BoxN wx p1 45 #[.int .i64 y.st, .int .i64 y.tt, .int .i64 y.of, .int .i64 y.nx, y.tv, y.kv] ∧ BoxN wx p2 45 #[.int .i64 y'.st, .int .i64 y'.tt, .int .i64 y'.of, .int .i64 y'.nx, y'.tv, y'.kv] ∧ Below wr.heap.size wr wx)
      case first =>
        as_aux_lemma =>
        refine wp_region_noPanic ?_
        refine wp_region_held_drew (S := (fun w' => Below wr.heap.size wr w')) (by kernel_rfl) ((Below.refl _ wr).drew) (fun hHeld => ?_)
        refine reg_tk (v := ?_) 0 39 rfl rfl (by kernel_rfl) (by kernel_rfl) (by kernel_rfl) (fun _ _ _ h => h) (by rfl) ?_ (by assumption) ?_
        rotate_left
        · (intro w hSw; (try dsimp only at hSw); go_simp; (try with_reducible rfl))
        simp only [List.setIfInBounds_toArray, List.set_cons_zero, List.set_cons_succ]
        refine reg_tk (v := .slice (some ⟨b1, o1, none⟩) N c) 1 40 rfl rfl (by kernel_rfl) (by kernel_rfl) (by kernel_rfl) (fun _ _ _ h => h) (by rfl) (fun w3 hS => by have g := cell_later hS x1; go_simp) (by assumption) ?_
        simp only [List.setIfInBounds_toArray, List.set_cons_zero, List.set_cons_succ]
        refine reg_tk (v := ?_) 2 41 rfl rfl (by kernel_rfl) (by kernel_rfl) (by kernel_rfl) (fun _ _ _ h => h) (by rfl) ?_ (by assumption) ?_
        rotate_left
        · (intro w hSw; (try dsimp only at hSw); go_simp; (try with_reducible rfl))
        simp only [List.setIfInBounds_toArray, List.set_cons_zero, List.set_cons_succ]
        refine reg_tk (v := .pointer (some ⟨b1, o1 + k * 6, none⟩)) 3 42 rfl rfl (by kernel_rfl) (by kernel_rfl) (by kernel_rfl) (fun _ _ _ h => h) (by rfl) (fun w3 hS => by skip; go_simp) (by assumption) ?_
        simp only [List.setIfInBounds_toArray, List.set_cons_zero, List.set_cons_succ]
        refine reg_tk (v := y.v) 4 43 rfl rfl (by kernel_rfl) (by kernel_rfl) (by kernel_rfl) (fun _ _ _ h => h) (by rfl) (fun w3 hS => by (have j0 := cell_later hS g0; have j1 := cell_later hS g1; have j2 := cell_later hS g2; have j3 := cell_later hS g3; have j4 := cell_later hS g4; have j5 := cell_later hS g5); go_simp) (by assumption) ?_
        simp only [List.setIfInBounds_toArray, List.set_cons_zero, List.set_cons_succ]
        refine reg_tk (v := ?_) 5 44 rfl rfl (by kernel_rfl) (by kernel_rfl) (by kernel_rfl) (fun _ _ _ h => h) (by rfl) ?_ (by assumption) ?_
        rotate_left
        · (intro w hSw; (try dsimp only at hSw); go_simp; (try with_reducible rfl))
        simp only [List.setIfInBounds_toArray, List.set_cons_zero, List.set_cons_succ]
        refine reg_tk (v := .slice (some ⟨b2, o2, none⟩) N c2) 6 45 rfl rfl (by kernel_rfl) (by kernel_rfl) (by kernel_rfl) (fun _ _ _ h => h) (by rfl) (fun w3 hS => by have g := cell_later hS y1; go_simp) (by assumption) ?_
        simp only [List.setIfInBounds_toArray, List.set_cons_zero, List.set_cons_succ]
        refine reg_tk (v := ?_) 7 46 rfl rfl (by kernel_rfl) (by kernel_rfl) (by kernel_rfl) (fun _ _ _ h => h) (by rfl) ?_ (by assumption) ?_
        rotate_left
        · (intro w hSw; (try dsimp only at hSw); go_simp; (try with_reducible rfl))
        simp only [List.setIfInBounds_toArray, List.set_cons_zero, List.set_cons_succ]
        refine reg_tk (v := .pointer (some ⟨b2, o2 + k * 6, none⟩)) 8 47 rfl rfl (by kernel_rfl) (by kernel_rfl) (by kernel_rfl) (fun _ _ _ h => h) (by rfl) (fun w3 hS => by skip; go_simp) (by assumption) ?_
        simp only [List.setIfInBounds_toArray, List.set_cons_zero, List.set_cons_succ]
        refine reg_tk (v := y'.v) 9 48 rfl rfl (by kernel_rfl) (by kernel_rfl) (by kernel_rfl) (fun _ _ _ h => h) (by rfl) (fun w3 hS => by (have j0 := cell_later hS z0; have j1 := cell_later hS z1; have j2 := cell_later hS z2; have j3 := cell_later hS z3; have j4 := cell_later hS z4; have j5 := cell_later hS z5); go_simp) (by assumption) ?_
        simp only [List.setIfInBounds_toArray, List.set_cons_zero, List.set_cons_succ]
        refine wpAnyH_ready (rs := [10, 11]) (by kernel_rfl) (by simp) ?_
        refine AllReadyH.cons rfl (fun K hK => ?_) (AllReadyH.cons rfl (fun K hK => ?_) AllReadyH.nil)
        · go_simp
          refine hK.out _ _ (Below.al (Below.refl _ wr).drew _) (fun hHeld2 => ?_)
          clear hK K hHeld
          have hHeld := hHeld2
          clear hHeld2
          try simp only [Act.put, List.setIfInBounds_toArray, List.set_cons_zero, List.set_cons_succ]
          refine wpAnyH_ready (rs := [11]) (by kernel_rfl) (by simp) ?_
          refine AllReadyH.cons rfl (fun K hK => ?_) AllReadyH.nil
          go_simp
          refine hK.out _ _ (Below.al (Below.al (Below.refl _ wr).drew _) _) (fun hHeld2 => ?_)
          clear hK K hHeld
          have hHeld := hHeld2
          clear hHeld2
          try simp only [Act.put, List.setIfInBounds_toArray, List.set_cons_zero, List.set_cons_succ]
          refine wpAnyH_ready (rs := [12]) (by kernel_rfl) (by simp) ?_
          refine AllReadyH.cons rfl (fun K hK => ?_) AllReadyH.nil
          go_simp
          refine hK.out _ _ (Below.al (Below.al (Below.refl _ wr) _) _).drew (fun hHeld2 => ?_)
          clear hK K hHeld
          have hHeld := hHeld2
          clear hHeld2
          try simp only [Act.put, List.setIfInBounds_toArray, List.set_cons_zero, List.set_cons_succ]
          refine wpAnyH_ready (rs := [13]) (by kernel_rfl) (by simp) ?_
          refine AllReadyH.cons rfl (fun K hK => ?_) AllReadyH.nil
          go_simp
          refine hK.out _ _ (Below.al (Below.al (Below.refl _ wr) _) _).drew (fun hHeld2 => ?_)
          clear hK K hHeld
          have hHeld := hHeld2
          clear hHeld2
          try simp only [Act.put, List.setIfInBounds_toArray, List.set_cons_zero, List.set_cons_succ]
          refine wpAnyH_done (by kernel_rfl) ?_ _
          refine NoPanic.normal ?_
          go_wp2_with fail
          go_meet
          refine ⟨wr.heap.size, wr.heap.size + 1, rfl, rfl, ?_, ?_, (Below.al (Below.al (Below.refl _ wr) _) _).drew⟩
          · exact ((BoxN.new wr _ _).alloc _).below (Below.refl _ _).drew
          · exact (by simpa using BoxN.new (wr.alloc _) _ _ : BoxN _ (wr.heap.size + 1) _ _).below (Below.refl _ _).drew
        · go_simp
          refine hK.out _ _ (Below.al (Below.refl _ wr).drew _) (fun hHeld2 => ?_)
          clear hK K hHeld
          have hHeld := hHeld2
          clear hHeld2
          try simp only [Act.put, List.setIfInBounds_toArray, List.set_cons_zero, List.set_cons_succ]
          refine wpAnyH_ready (rs := [10]) (by kernel_rfl) (by simp) ?_
          refine AllReadyH.cons rfl (fun K hK => ?_) AllReadyH.nil
          go_simp
          refine hK.out _ _ (Below.al (Below.al (Below.refl _ wr).drew _) _) (fun hHeld2 => ?_)
          clear hK K hHeld
          have hHeld := hHeld2
          clear hHeld2
          try simp only [Act.put, List.setIfInBounds_toArray, List.set_cons_zero, List.set_cons_succ]
          refine wpAnyH_ready (rs := [12]) (by kernel_rfl) (by simp) ?_
          refine AllReadyH.cons rfl (fun K hK => ?_) AllReadyH.nil
          go_simp
          refine hK.out _ _ (Below.al (Below.al (Below.refl _ wr) _) _).drew (fun hHeld2 => ?_)
          clear hK K hHeld
          have hHeld := hHeld2
          clear hHeld2
          try simp only [Act.put, List.setIfInBounds_toArray, List.set_cons_zero, List.set_cons_succ]
          refine wpAnyH_ready (rs := [13]) (by kernel_rfl) (by simp) ?_
          refine AllReadyH.cons rfl (fun K hK => ?_) AllReadyH.nil
          go_simp
          refine hK.out _ _ (Below.al (Below.al (Below.refl _ wr) _) _).drew (fun hHeld2 => ?_)
          clear hK K hHeld
          have hHeld := hHeld2
          clear hHeld2
          try simp only [Act.put, List.setIfInBounds_toArray, List.set_cons_zero, List.set_cons_succ]
          refine wpAnyH_done (by kernel_rfl) ?_ _
          refine NoPanic.normal ?_
          go_wp2_with fail
          go_meet
          refine ⟨wr.heap.size + 1, wr.heap.size, rfl, rfl, ?_, ?_, (Below.al (Below.al (Below.refl _ wr) _) _).drew⟩
          · exact (by simpa using BoxN.new (wr.alloc _) _ _ : BoxN _ (wr.heap.size + 1) _ _).below (Below.refl _ _).drew
          · exact ((BoxN.new wr _ _).alloc _).below (Below.refl _ _).drew
      case rest =>
        obtain ⟨p1, p2, rfl, rfl, e1b, e2b, hbx⟩ := hcut
        rename World => wx
        have s0 : wx.cell? ⟨p1, 0, none⟩ = some (.int .i64 y.st) := e1b.cell 0
        have s1 : wx.cell? ⟨p1, 1, none⟩ = some (.int .i64 y.tt) := e1b.cell 1
        have s2 : wx.cell? ⟨p1, 2, none⟩ = some (.int .i64 y.of) := e1b.cell 2
        have s3 : wx.cell? ⟨p1, 3, none⟩ = some (.int .i64 y.nx) := e1b.cell 3
        have s4 : wx.cell? ⟨p1, 4, none⟩ = some (.slice y.ta y.tn y.tc) := e1b.cell 4
        have s5 : wx.cell? ⟨p1, 5, none⟩ = some (.slice y.ka y.kn y.kc) := e1b.cell 5
        have r0 : wx.cell? ⟨p2, 0, none⟩ = some (.int .i64 y'.st) := e2b.cell 0
        have r1 : wx.cell? ⟨p2, 1, none⟩ = some (.int .i64 y'.tt) := e2b.cell 1
        have r2 : wx.cell? ⟨p2, 2, none⟩ = some (.int .i64 y'.of) := e2b.cell 2
        have r3 : wx.cell? ⟨p2, 3, none⟩ = some (.int .i64 y'.nx) := e2b.cell 3
        have r4 : wx.cell? ⟨p2, 4, none⟩ = some (.slice y'.ta y'.tn y'.tc) := e2b.cell 4
        have r5 : wx.cell? ⟨p2, 5, none⟩ = some (.slice y'.ka y'.kn y'.kc) := e2b.cell 5
        have HT := Lib.hid (fun w' (hb : Below wx.heap.size wx w') => sameTags_eq _ _ _ w' ((HCO.out.tk.keep hbx).keep hb) ((HCO2.out.tk.keep hbx).keep hb))
        have HK := Lib.hid (fun w' (hb : Below wx.heap.size wx w') => sameTags_eq _ _ _ w' ((HCO.out.kp.keep hbx).keep hb) ((HCO2.out.kp.keep hbx).keep hb))
        clear e1b e2b g0 g1 g2 g3 g4 g5 z0 z1 z2 z3 z4 z5
        go_wp2_with fail
        refine (HT.out _ (Below.refl _ _)).mono ?_
        rintro e w1 ⟨rfl, hb1⟩
        have s5 := cell_later hb1 s5
        have r5 := cell_later hb1 r5
        go_wp2_with fail
        refine (HK.out _ hb1).mono ?_
        rintro e w2 ⟨rfl, hb2⟩
        have hB2 := Below.next hB (Below.next (Below.next hbx hb1) hb2)
        clear s0 s1 s2 s3 s4 s5 r0 r1 r2 r3 r4 r5
        go_wp2_with fail
        go_roundw
        case rel => exact ⟨k + 1, by omega, by go_num, hB2⟩
        case measure => simp [intOf]; omega
    · have e1 : decide ((k : Int) < (N : Int)) = false := nb (by omega)
      go_wp2_with fail
      rename World => w0
      go_loopw [8] (fun i wr => ∃ k : Nat, k ≤ F ∧ i = .int .i64 k ∧ Below W.heap.size W wr) (fun i _ => F - (intOf i).toNat)
      case atStart => exact ⟨0, Nat.zero_le _, rfl, hB⟩
      case round =>
        obtain ⟨j, hj, rfl, hB⟩ := hrel
        have x2 := cell_later hB x2
        have y2 := cell_later hB y2
        by_cases hlt2 : j < F
        · have e3 : decide ((j : Int) < (F : Int)) = true := yb (by omega)
          obtain ⟨b1, o1, rfl, hc1, g0, g1, g2, g3⟩ := RdP.at (HP.out.keep hB).frs HF.out j hlt2
          obtain ⟨b2, o2, rfl, hc2, z0, z1, z2, z3⟩ := RdP.at (HP2.out.keep hB).frs HF.out j hlt2
          obtain ⟨y, HY⟩ : ∃ y, Hid (gp X.fr j = y) := ⟨_, rfl⟩
          rw [HY.out] at g0 g1 g2 g3 z0 z1 z2 z3
          have n1 : (0 : Int) ≤ (j : Int) := by omega
          have n2 : (j : Int) < (F : Int) := by omega
          have hwk : IntKind.i64.wrap (j : Int) = (j : Int) := IntWalk.i64_in _ (by omega)
          have hwk2 : IntKind.i64.wrap ((j : Int) + 1) = (j : Int) + 1 := IntWalk.i64_in _ (by omega)
          go_wp2_with fail
          go_quiet (fail)
          go_wp2_with fail
          go_roundw
          case rel => exact ⟨j + 1, by omega, by go_num, Below.next hB (below_drewN (Below.refl _ _) _)⟩
          case measure => simp [intOf]; omega
        · have e3 : decide ((j : Int) < (F : Int)) = false := nb (by omega)
          go_wp2_with fail
          go_ret
          exact ⟨rfl, Below.next hB0 hB⟩
end Go.Proofs.Ytnkpjfogjkjcfaa
