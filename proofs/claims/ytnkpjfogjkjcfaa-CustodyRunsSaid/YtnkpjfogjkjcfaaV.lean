



/- Custody: a move: the program, the kinds that append. -/
import Derived.Test.YtnkpjfogjkjcfaaU
namespace Go.Proofs.Ytnkpjfogjkjcfaa
open Go.RowKit
set_option linter.unusedSimpArgs false
set_option linter.unusedVariables false
set_option maxRecDepth 100000

set_option maxHeartbeats 1000000 in
theorem move_4 (w : World) (v : Value) (X : Wd) (nd ot : Int) (j : Nat) (rash : Bool) (hs : Sml X) (h : RdW w v X) (ho : Okw X) (hf : ftE X ⟨4, nd, ot, j⟩ = 0) :
    Calls Try.prog 44 #[v, .agg #[.int .i64 4, .int .i64 nd, .int .i64 ot, .int .i64 (j : Int)], .bool rash] w (MvR w (mvW rash X ⟨4, nd, ot, j⟩) 0) := by
  have hj : j < X.fr.length := by
    have : (j : Int) < (X.fr.length : Int) := ((ftE_zero hf).n (.inr (.inr rfl))).2
    omega
  obtain ⟨XE, HXE⟩ : ∃ XE, Hid (mvW rash X ⟨4, nd, ot, j⟩ = XE) := ⟨_, Lib.hid rfl⟩
  rw [HXE.out]
  obtain ⟨cv, fv0, q0, rfl, hp⟩ := h
  obtain ⟨a, c, rfl⟩ := hp.rows.form
  obtain ⟨fa, fc, rfl⟩ := hp.frs.form
  obtain ⟨N, hN⟩ : ∃ N, q0.length = N := ⟨_, rfl⟩
  obtain ⟨F, hF⟩ : ∃ F, X.fr.length = F := ⟨_, rfl⟩
  rw [hN] at hp ⊢
  rw [hF] at hp ⊢
  clear hN hF
  obtain ⟨W, hW⟩ : ∃ W : World, W = ((w.alloc (.cells #[.int .i64 X.ds, .slice a N c, .slice fa F fc] 25)).alloc (.cells #[.int .i64 (4), .int .i64 nd, .int .i64 ot, .int .i64 ((j : Int))] 40)).alloc (.cells #[.int .i64 0, .slice none 0 0, .slice none 0 0] 25) := ⟨_, rfl⟩
  have hB0 : Below w.heap.size w W := by rw [hW]; exact (by repeat (first | assumption | exact Below.refl _ _ | apply Below.al | apply below_drewN | apply Below.drew | refine Below.next ?_ (by assumption)))
  have hWs : w.heap.size + 3 ≤ W.heap.size := by rw [hW]; simp
  have bX : BoxN W w.heap.size 25 #[.int .i64 X.ds, .slice a N c, .slice fa F fc] := by rw [hW]; exact (BoxN.new w _ _).below (by repeat (first | assumption | exact Below.refl _ _ | apply Below.al | apply below_drewN | apply Below.drew | refine Below.next ?_ (by assumption)))
  have bM : BoxN W (w.heap.size + 1) 40 #[.int .i64 (4), .int .i64 nd, .int .i64 ot, .int .i64 ((j : Int))] := by
    rw [hW]
    have := BoxN.new (w.alloc (.cells #[.int .i64 X.ds, .slice a N c, .slice fa F fc] 25)) 40 #[.int .i64 (4), .int .i64 nd, .int .i64 ot, .int .i64 ((j : Int))]
    have e2 := this.below (Below.al (Below.refl _ _) (.cells #[.int .i64 0, .slice none 0 0, .slice none 0 0] 25))
    simpa using e2
  have bT : BoxN W (w.heap.size + 2) 25 #[.int .i64 0, .slice none 0 0, .slice none 0 0] := by
    rw [hW]
    have := BoxN.new ((w.alloc (.cells #[.int .i64 X.ds, .slice a N c, .slice fa F fc] 25)).alloc (.cells #[.int .i64 (4), .int .i64 nd, .int .i64 ot, .int .i64 ((j : Int))] 40)) 25 #[.int .i64 0, .slice none 0 0, .slice none 0 0]
    simpa using this
  have HRD : Hid (RdW W (wV X (.slice a N c) (.slice fa F fc)) X) := Lib.hid ⟨_, _, _, rfl, hp.keep hB0⟩
  have HBM := Lib.hid bM
  have HBT := Lib.hid bT
  have x0 : W.cell? ⟨w.heap.size, 0, none⟩ = some (.int .i64 X.ds) := bX.cell 0
  have x1 : W.cell? ⟨w.heap.size, 1, none⟩ = some (.slice a N c) := bX.cell 1
  have x2 : W.cell? ⟨w.heap.size, 2, none⟩ = some (.slice fa F fc) := bX.cell 2
  clear bX bM bT hp
  go_enter Try.func44, Try.ntmps44
  go_upto_region 1 with fail
  rw [← hW]
  clear hW
  have HCK := Lib.hid (check_any W _ X 0 (by unfold chkE; exact if_pos ho) HRD.out)
  have HO := Lib.hid ho
  have HF0 := Lib.hid hf
  have HS := Lib.hid hs
  clear ho hf hs
  go_wp2_with fail
  refine HCK.out.mono ?_
  rintro e w1 ⟨rfl, hb1⟩
  have hB1 := Below.next hB0 hb1
  have HB1 := Lib.hid hb1
  have HB1w := Lib.hid hB1
  have x0 := cell_later hb1 x0
  have x1 := cell_later hb1 x1
  have x2 := cell_later hb1 x2
  have hw1 := hb1.size
  have HOWN := Lib.hid (own_any w1 _ X (HRD.out.keep hb1) HS.out (by have := HO.out.1; omega))
  clear hb1
  go_wp2_with fail
  refine HOWN.out.mono ?_
  rintro e w2 ⟨p, g, cap, fv, q, rfl, hop2, hb2⟩
  have HB2 := Lib.hid ((HB1.out).trans (hb2.mono hw1))
  have hB2 := Below.next hB1 hb2
  have hw2 := hb2.size
  have bm2 := HBM.out.below HB2.out
  have m0 : w2.cell? ⟨w.heap.size + 1, 0, none⟩ = some (.int .i64 (4)) := bm2.cell 0
  have m1 : w2.cell? ⟨w.heap.size + 1, 1, none⟩ = some (.int .i64 nd) := bm2.cell 1
  have m2 : w2.cell? ⟨w.heap.size + 1, 2, none⟩ = some (.int .i64 ot) := bm2.cell 2
  have m3 : w2.cell? ⟨w.heap.size + 1, 3, none⟩ = some (.int .i64 ((j : Int))) := bm2.cell 3
  have HWR := Lib.hid (wrongM_any w2 p _ _ fv q X ⟨4, nd, ot, (j : Int)⟩ _ HF0.out hop2.bw)
  have HB12 := Lib.hid hb2
  have HOP2 := Lib.hid hop2
  clear hb2 bm2 hop2 x0 x1 x2
  go_wp2_with fail
  refine HWR.out.mono ?_
  rintro e w3 ⟨rfl, hb3⟩
  have hB3 := Below.next hB2 hb3
  have hw3 := hb3.size
  have m0 := cell_later hb3 m0
  have m1 := cell_later hb3 m1
  have m2 := cell_later hb3 m2
  have m3 := cell_later hb3 m3
  have HOP3 := Lib.hid (HOP2.out.below hb3)
  have HB13 := Lib.hid (HB12.out.trans (hb3.mono hw2))
  have HB3 := Lib.hid hB3
  have hge := HOP2.out.ge
  clear hb3 hB1 hB2 hB3 hB0
  obtain ⟨ra, rc, hfv⟩ := owns_form HOP3.out.or.frs
  subst hfv
  obtain ⟨rb, ro, hra, hrc, g0, g1, g2, g3⟩ := RdP.at HOP3.out.or.pt.frs rfl j hj
  subst hra
  obtain ⟨f, HFf⟩ : ∃ f, Hid (gp X.fr j = f) := ⟨_, Lib.hid rfl⟩
  rw [HFf.out] at g0 g1 g2 g3
  have i1 : (0 : Int) ≤ (j : Int) := by omega
  have i2 : (j : Int) < (X.fr.length : Int) := by omega
  have hsf := HS.out.fr
  have hwk : IntKind.i64.wrap ((j : Int) + 1) = (j : Int) + 1 := IntWalk.i64_in _ (by omega)
  have p2 : w3.cell? ⟨p, 2, none⟩ = some (.slice (some ⟨rb, ro, none⟩) X.fr.length rc) := HOP3.out.box.cell 2
  go_upto_region 15 with fail
  refine wp_region_noPanic ?_
  refine wp_region_late (fun _ => True) (fun w' => w'.cell? ⟨p, 2, none⟩ = some (.slice (some ⟨rb, ro, none⟩) X.fr.length rc) ∧ w'.cell? ⟨w.heap.size + 1, 3, none⟩ = some (.int .i64 (j : Int))) [20] (by kernel_rfl) trivial ⟨p2, m3⟩ (fun hHeld0 hHeld => ?_)
  refine reg0_tk (v := ?_) 0 80 rfl rfl (by kernel_rfl) (by kernel_rfl) (by kernel_rfl) (by kernel_rfl) (by kernel_rfl) (fun _ _ _ h => h) (by rfl) ?_ (by assumption) (by assumption) ?_
  rotate_left
  · (intro w3 hS; (try dsimp only at hS); skip; go_simp; (try with_reducible rfl))
  simp only [List.setIfInBounds_toArray, List.set_cons_zero, List.set_cons_succ]
  refine reg0_tk (v := ?_) 1 81 rfl rfl (by kernel_rfl) (by kernel_rfl) (by kernel_rfl) (by kernel_rfl) (by kernel_rfl) (fun _ _ _ h => h) (by rfl) ?_ (by assumption) (by assumption) ?_
  rotate_left
  · (intro w3 hS; (try dsimp only at hS); skip; go_simp; (try with_reducible rfl))
  simp only [List.setIfInBounds_toArray, List.set_cons_zero, List.set_cons_succ]
  refine reg0_tk (v := ?_) 2 82 rfl rfl (by kernel_rfl) (by kernel_rfl) (by kernel_rfl) (by kernel_rfl) (by kernel_rfl) (fun _ _ _ h => h) (by rfl) ?_ (by assumption) (by assumption) ?_
  rotate_left
  · (intro w3 hS; (try dsimp only at hS); skip; go_simp; (try with_reducible rfl))
  simp only [List.setIfInBounds_toArray, List.set_cons_zero, List.set_cons_succ]
  refine reg0_tk (v := ?_) 3 83 rfl rfl (by kernel_rfl) (by kernel_rfl) (by kernel_rfl) (by kernel_rfl) (by kernel_rfl) (fun _ _ _ h => h) (by rfl) ?_ (by assumption) (by assumption) ?_
  rotate_left
  · (intro w3 hS; (try dsimp only at hS); skip; go_simp; (try with_reducible rfl))
  simp only [List.setIfInBounds_toArray, List.set_cons_zero, List.set_cons_succ]
  refine reg0_tk (v := ?_) 4 84 rfl rfl (by kernel_rfl) (by kernel_rfl) (by kernel_rfl) (by kernel_rfl) (by kernel_rfl) (fun _ _ _ h => h) (by rfl) ?_ (by assumption) (by assumption) ?_
  rotate_left
  · (intro w3 hS; (try dsimp only at hS); skip; go_simp; (try with_reducible rfl))
  simp only [List.setIfInBounds_toArray, List.set_cons_zero, List.set_cons_succ]
  refine regG_tk (v := ?_) 5 85 rfl rfl (by kernel_rfl) (by kernel_rfl) (by kernel_rfl) (by kernel_rfl) (by kernel_rfl) (fun _ _ _ h => h) (by rfl) ?_ (by assumption) (by assumption) ?_
  rotate_left
  · (intro w3 hS; (try dsimp only at hS); obtain ⟨y0, y1⟩ := hS; go_simp; (try with_reducible rfl))
  simp only [List.setIfInBounds_toArray, List.set_cons_zero, List.set_cons_succ]
  refine reg0_tk (v := ?_) 6 86 rfl rfl (by kernel_rfl) (by kernel_rfl) (by kernel_rfl) (by kernel_rfl) (by kernel_rfl) (fun _ _ _ h => h) (by rfl) ?_ (by assumption) (by assumption) ?_
  rotate_left
  · (intro w3 hS; (try dsimp only at hS); skip; go_simp; (try with_reducible rfl))
  simp only [List.setIfInBounds_toArray, List.set_cons_zero, List.set_cons_succ]
  refine reg0_tk (v := ?_) 7 87 rfl rfl (by kernel_rfl) (by kernel_rfl) (by kernel_rfl) (by kernel_rfl) (by kernel_rfl) (fun _ _ _ h => h) (by rfl) ?_ (by assumption) (by assumption) ?_
  rotate_left
  · (intro w3 hS; (try dsimp only at hS); skip; go_simp; (try with_reducible rfl))
  simp only [List.setIfInBounds_toArray, List.set_cons_zero, List.set_cons_succ]
  refine reg0_tk (v := ?_) 8 88 rfl rfl (by kernel_rfl) (by kernel_rfl) (by kernel_rfl) (by kernel_rfl) (by kernel_rfl) (fun _ _ _ h => h) (by rfl) ?_ (by assumption) (by assumption) ?_
  rotate_left
  · (intro w3 hS; (try dsimp only at hS); skip; go_simp; (try with_reducible rfl))
  simp only [List.setIfInBounds_toArray, List.set_cons_zero, List.set_cons_succ]
  refine reg0_tk (v := ?_) 9 89 rfl rfl (by kernel_rfl) (by kernel_rfl) (by kernel_rfl) (by kernel_rfl) (by kernel_rfl) (fun _ _ _ h => h) (by rfl) ?_ (by assumption) (by assumption) ?_
  rotate_left
  · (intro w3 hS; (try dsimp only at hS); skip; go_simp; (try with_reducible rfl))
  simp only [List.setIfInBounds_toArray, List.set_cons_zero, List.set_cons_succ]
  refine regG_tk (v := ?_) 10 90 rfl rfl (by kernel_rfl) (by kernel_rfl) (by kernel_rfl) (by kernel_rfl) (by kernel_rfl) (fun _ _ _ h => h) (by rfl) ?_ (by assumption) (by assumption) ?_
  rotate_left
  · (intro w3 hS; (try dsimp only at hS); obtain ⟨y0, y1⟩ := hS; go_simp; (try with_reducible rfl))
  simp only [List.setIfInBounds_toArray, List.set_cons_zero, List.set_cons_succ]
  refine reg0_tk (v := ?_) 11 91 rfl rfl (by kernel_rfl) (by kernel_rfl) (by kernel_rfl) (by kernel_rfl) (by kernel_rfl) (fun _ _ _ h => h) (by rfl) ?_ (by assumption) (by assumption) ?_
  rotate_left
  · (intro w3 hS; (try dsimp only at hS); skip; go_simp; (try with_reducible rfl))
  simp only [List.setIfInBounds_toArray, List.set_cons_zero, List.set_cons_succ]
  refine regG_tk (v := ?_) 12 92 rfl rfl (by kernel_rfl) (by kernel_rfl) (by kernel_rfl) (by kernel_rfl) (by kernel_rfl) (fun _ _ _ h => h) (by rfl) ?_ (by assumption) (by assumption) ?_
  rotate_left
  · (intro w3 hS; (try dsimp only at hS); obtain ⟨y0, y1⟩ := hS; go_simp; (try with_reducible rfl))
  simp only [List.setIfInBounds_toArray, List.set_cons_zero, List.set_cons_succ]
  refine reg0_tk (v := ?_) 13 93 rfl rfl (by kernel_rfl) (by kernel_rfl) (by kernel_rfl) (by kernel_rfl) (by kernel_rfl) (fun _ _ _ h => h) (by rfl) ?_ (by assumption) (by assumption) ?_
  rotate_left
  · (intro w3 hS; (try dsimp only at hS); skip; go_simp; (try with_reducible rfl))
  simp only [List.setIfInBounds_toArray, List.set_cons_zero, List.set_cons_succ]
  refine wpAnyG_oneS (i := 14) (by kernel_rfl) rfl (by rfl) (fun K hK => ?_)
  go_simp
  refine hK _ _ trivial ⟨p2, m3⟩ ?_
  clear hK K
  try simp only [Act.put, List.setIfInBounds_toArray, List.set_cons_zero, List.set_cons_succ]
  obtain ⟨V, hV⟩ : ∃ V : World, V = (World.alloc w3 (.cells #[.int .i64 f.kd, .int .i64 f.fr, .int .i64 f.tt, .int .i64 f.of] 47)).drew := ⟨_, rfl⟩
  have hVb : Below (World.heap w3).size w3 V := by rw [hV]; exact (Below.al (Below.refl _ w3) _).drew
  have hVn : RdS V 4 (.slice (some ⟨(World.heap w3).size, 0, none⟩) 1 1) 1 (rcs psR [f]) := by rw [hV]; exact (RdS.boxP w3 47 f).keep ((Below.refl _ _).drew)
  have hVo := ((HOP3).out.or.below hVb).frs
  have hVz := hVb.size
  have hmB : ∀ b, (b = p ∨ Mn g (.slice (some ⟨rb, ro, none⟩) X.fr.length rc) q b) → w1.heap.size ≤ b := fun b e => by
    rcases e with rfl | e
    · exact hge
    · exact ((HOP3).out.or.gt_lt e).1
  refine wpAnyG_oneS (i := 15) (by kernel_rfl) rfl (by rfl) (fun K hK => ?_)
  go_simp
  rw [← hV]
  clear hV
  refine hK _ _ trivial ⟨cell_later hVb p2, cell_later hVb m3⟩ ?_
  clear hK K
  try simp only [Act.put, List.setIfInBounds_toArray, List.set_cons_zero, List.set_cons_succ]
  refine wpAnyG_oneS (i := 16) (by kernel_rfl) rfl (by rfl) (fun K hK => ?_)
  refine wp_app_at (.tmp 85) (.tmp 95) 23 rfl w1.heap.size 47 _ 4 32 EPs (.slice (some ⟨rb, ro, none⟩) X.fr.length rc) (X).fr.length (rcs psR (X).fr) rfl hVo _ 1 (rcs psR [f]) (by decide) rfl hVn (rcs_one _ _) (by unfold maxLen; omega) (by omega) (by omega) ?_
  intro a' c' w6 hown hg hwh
  obtain ⟨r1, r2, r3, r4⟩ := (HOP3).out.push (f := f) hVb hown hg hwh
  have hkk : Kx (fun k => (Value.ownBlock (.slice (some ⟨rb, ro, none⟩) X.fr.length rc)) = some k) V w6 := (Kx.refl (fun k => (Value.ownBlock (.slice (some ⟨rb, ro, none⟩) X.fr.length rc)) = some k) V).grown hg (fun k e => .inl e)
  have hno : ¬ (Value.ownBlock (.slice (some ⟨rb, ro, none⟩) X.fr.length rc)) = some (w.heap.size + 1) := fun e => by have := hmB (w.heap.size + 1) (.inr (.inr (.inl e))); omega
  have hS6 := (show w6.cell? ⟨p, 2, none⟩ = some (.slice (some ⟨rb, ro, none⟩) X.fr.length rc) ∧ w6.cell? ⟨w.heap.size + 1, 3, none⟩ = some (.int .i64 (j : Int)) from ⟨r4.cell 2, hkk.cell (p := ⟨w.heap.size + 1, 3, none⟩) hno (cell_later hVb m3)⟩)
  have v0 := r4.cell 2
  have v0 : w6.cell? ⟨p, 2, none⟩ = some (.slice (some ⟨rb, ro, none⟩) X.fr.length rc) := v0
  have v1 := r4.frozen 2
  clear r4 hown hg hwh hVo hVn
  refine hK _ _ trivial hS6 ?_
  clear hK K
  try simp only [Act.put, List.setIfInBounds_toArray, List.set_cons_zero, List.set_cons_succ]
  refine wpAnyG_oneS (i := 17) (by kernel_rfl) rfl (by rfl) (fun K hK => ?_)
  go_simp
  refine hK _ _ trivial hS6 ?_
  clear hK K
  try simp only [Act.put, List.setIfInBounds_toArray, List.set_cons_zero, List.set_cons_succ]
  refine wpAnyG_oneS (i := 18) (by kernel_rfl) rfl (by rfl) (fun K hK => ?_)
  go_simp
  refine hK _ _ trivial hS6 ?_
  clear hK K
  try simp only [Act.put, List.setIfInBounds_toArray, List.set_cons_zero, List.set_cons_succ]
  refine wpAnyG_oneS (i := 19) (by kernel_rfl) rfl (by rfl) (fun K hK => ?_)
  go_simp
  refine hK _ _ trivial hS6 ?_
  clear hK K
  try simp only [Act.put, List.setIfInBounds_toArray, List.set_cons_zero, List.set_cons_succ]
  refine wpAnyG_one (i := 20) (by kernel_rfl) rfl (by rfl) (by kernel_rfl) (fun K hK => ?_)
  go_simp
  refine hK _ _ trivial ?_
  clear hK K
  try simp only [Act.put, List.setIfInBounds_toArray, List.set_cons_zero, List.set_cons_succ]
  refine wpAnyG_done (by kernel_rfl) ?_ _
  refine NoPanic.normal ?_
  obtain ⟨w7, hw7⟩ : ∃ w7 : World, w7 = w6.setCell ⟨p, 2, none⟩ (.slice a' ((X).fr.length + 1) c') := ⟨_, rfl⟩
  rw [← hw7] at r1 r2 ⊢
  clear hw7 v0 v1 hS6 hkk hno
  have ms : MvS w1 w1.heap.size p { X with fr := X.fr ++ [f] } w7 := ⟨_, _, _, _, r1, HB13.out.trans (r2.below (by omega) hmB)⟩
  have hxe : ({ X with fr := X.fr ++ [f] } : Wd) = XE := by rw [← HFf.out]; exact HXE.out
  rw [hxe] at ms
  clear r1 r2 hmB hxe p2 m0 m1 m2 m3 g0 g1 g2 g3
  obtain ⟨g9, cap9, fv9, q9, ho9, hb9⟩ := ms
  obtain ⟨fa9, fc9, hfv9⟩ := owns_form ho9.or.frs
  subst hfv9
  have e9 := HBT.out.below (HB1.out.trans (hb9.mono hw1))
  have hB9 := HB1w.out.trans (hb9.mono (by omega))
  have hw9 := hb9.size
  have t0 : World.cell? w7 ⟨w.heap.size + 2, 0, none⟩ = some (.int .i64 0) := e9.cell 0
  have t1 : World.cell? w7 ⟨w.heap.size + 2, 1, none⟩ = some (.slice none 0 0) := e9.cell 1
  have t2 : World.cell? w7 ⟨w.heap.size + 2, 2, none⟩ = some (.slice none 0 0) := e9.cell 2
  have z0 := e9.frozen 0
  have z1 := e9.frozen 1
  have z2 := e9.frozen 2
  have p0 : World.cell? w7 ⟨p, 0, none⟩ = some (.int .i64 (XE).ds) := ho9.box.cell 0
  have p1 : World.cell? w7 ⟨p, 1, none⟩ = some (.slice (some ⟨g9, 0, none⟩) (XE).cs.length cap9) := ho9.box.cell 1
  have p2 : World.cell? w7 ⟨p, 2, none⟩ = some (.slice fa9 (XE).fr.length fc9) := ho9.box.cell 2
  have HO9 := Lib.hid ho9
  have HB9 := Lib.hid hB9
  clear ho9 hb9 e9 hB9
  go_wp2_with fail
  refine bodyPost_ret (v := .tuple #[.agg #[.int .i64 (XE).ds, .slice (some ⟨g9, 0, none⟩) (XE).cs.length cap9, .slice fa9 (XE).fr.length fc9], .int .i64 0]) (by simp [results, Try.results44, go_sem, t0, t1, t2]) rfl ⟨_, rfl, ?_, ⟨_, _, q9, rfl, ?_⟩⟩
  · exact ((HB9.out.setCell (p := ⟨w.heap.size + 2, 0, none⟩) (by show w.heap.size ≤ w.heap.size + 2; omega) _).setCell (p := ⟨w.heap.size + 2, 1, none⟩) (by show w.heap.size ≤ w.heap.size + 2; omega) _).setCell (p := ⟨w.heap.size + 2, 2, none⟩) (by show w.heap.size ≤ w.heap.size + 2; omega) _
  · exact (PtF.of_or (HO9.out.or.kx (S := fun k => k = w.heap.size + 2) (((kx_cell w7 (w.heap.size + 2) 0 _).setCell (.inl rfl) _).setCell (.inl rfl) _) (fun k hk e => by have := (HO9.out.or.gt_lt hk).1; omega))).mono (by omega)
set_option maxHeartbeats 1000000 in
theorem move_1 (w : World) (v : Value) (X : Wd) (nd ot n : Int) (rash : Bool) (hs : Sml X) (h : RdW w v X) (ho : Okw X) (hf : ftE X ⟨1, nd, ot, n⟩ = 0) :
    Calls Try.prog 44 #[v, .agg #[.int .i64 1, .int .i64 nd, .int .i64 ot, .int .i64 n], .bool rash] w (MvR w (mvW rash X ⟨1, nd, ot, n⟩) 0) := by
  have hnd : isN X nd := (ftE_zero hf).nd (.inl rfl)
  obtain ⟨i, hi, hfi, hat0⟩ := atC_get hnd
  have hcp := okw_cop ho hnd
  rw [hat0] at hcp
  obtain ⟨⟨_, _, _, hx0, hx1⟩, _⟩ := hcp
  clear hnd
  obtain ⟨cz, HC⟩ : ∃ cz, Hid (gc X.cs i = cz) := ⟨_, Lib.hid rfl⟩
  rw [HC.out] at hx0 hx1 hat0
  obtain ⟨XE, HXE⟩ : ∃ XE, Hid (mvW rash X ⟨1, nd, ot, n⟩ = XE) := ⟨_, Lib.hid rfl⟩
  have hx : { setI X i { cz with st := 2, tt := ot, of := cz.nx, nx := cz.nx + 1 } with fr := X.fr ++ [⟨3, nd, ot, cz.nx⟩] } = XE := by
    have e : ∀ z, setI X i z = setC X nd z := fun z => by unfold setI setC; rw [show (nd - 1).toNat = i by omega]
    rw [← HXE.out, ← hat0, e]
    rfl
  have HX := Lib.hid hx
  have HFI := Lib.hid hfi
  rw [HXE.out]
  have hwx : IntKind.i64.wrap (cz.nx + 1) = cz.nx + 1 := IntWalk.i64_in _ (by omega)
  clear hx hat0 hfi hx0 hx1
  obtain ⟨cv, fv0, q0, rfl, hp⟩ := h
  obtain ⟨a, c, rfl⟩ := hp.rows.form
  obtain ⟨fa, fc, rfl⟩ := hp.frs.form
  obtain ⟨N, hN⟩ : ∃ N, q0.length = N := ⟨_, rfl⟩
  obtain ⟨F, hF⟩ : ∃ F, X.fr.length = F := ⟨_, rfl⟩
  rw [hN] at hp ⊢
  rw [hF] at hp ⊢
  clear hN hF
  obtain ⟨W, hW⟩ : ∃ W : World, W = ((w.alloc (.cells #[.int .i64 X.ds, .slice a N c, .slice fa F fc] 25)).alloc (.cells #[.int .i64 (1), .int .i64 nd, .int .i64 ot, .int .i64 (n)] 40)).alloc (.cells #[.int .i64 0, .slice none 0 0, .slice none 0 0] 25) := ⟨_, rfl⟩
  have hB0 : Below w.heap.size w W := by rw [hW]; exact (by repeat (first | assumption | exact Below.refl _ _ | apply Below.al | apply below_drewN | apply Below.drew | refine Below.next ?_ (by assumption)))
  have hWs : w.heap.size + 3 ≤ W.heap.size := by rw [hW]; simp
  have bX : BoxN W w.heap.size 25 #[.int .i64 X.ds, .slice a N c, .slice fa F fc] := by rw [hW]; exact (BoxN.new w _ _).below (by repeat (first | assumption | exact Below.refl _ _ | apply Below.al | apply below_drewN | apply Below.drew | refine Below.next ?_ (by assumption)))
  have bM : BoxN W (w.heap.size + 1) 40 #[.int .i64 (1), .int .i64 nd, .int .i64 ot, .int .i64 (n)] := by
    rw [hW]
    have := BoxN.new (w.alloc (.cells #[.int .i64 X.ds, .slice a N c, .slice fa F fc] 25)) 40 #[.int .i64 (1), .int .i64 nd, .int .i64 ot, .int .i64 (n)]
    have e2 := this.below (Below.al (Below.refl _ _) (.cells #[.int .i64 0, .slice none 0 0, .slice none 0 0] 25))
    simpa using e2
  have bT : BoxN W (w.heap.size + 2) 25 #[.int .i64 0, .slice none 0 0, .slice none 0 0] := by
    rw [hW]
    have := BoxN.new ((w.alloc (.cells #[.int .i64 X.ds, .slice a N c, .slice fa F fc] 25)).alloc (.cells #[.int .i64 (1), .int .i64 nd, .int .i64 ot, .int .i64 (n)] 40)) 25 #[.int .i64 0, .slice none 0 0, .slice none 0 0]
    simpa using this
  have HRD : Hid (RdW W (wV X (.slice a N c) (.slice fa F fc)) X) := Lib.hid ⟨_, _, _, rfl, hp.keep hB0⟩
  have HBM := Lib.hid bM
  have HBT := Lib.hid bT
  have x0 : W.cell? ⟨w.heap.size, 0, none⟩ = some (.int .i64 X.ds) := bX.cell 0
  have x1 : W.cell? ⟨w.heap.size, 1, none⟩ = some (.slice a N c) := bX.cell 1
  have x2 : W.cell? ⟨w.heap.size, 2, none⟩ = some (.slice fa F fc) := bX.cell 2
  clear bX bM bT hp
  go_enter Try.func44, Try.ntmps44
  go_upto_region 1 with fail
  rw [← hW]
  clear hW
  have HCK := Lib.hid (check_any W _ X 0 (by unfold chkE; exact if_pos ho) HRD.out)
  have HO := Lib.hid ho
  have HF0 := Lib.hid hf
  have HS := Lib.hid hs
  clear ho hf hs
  go_wp2_with fail
  refine HCK.out.mono ?_
  rintro e w1 ⟨rfl, hb1⟩
  have hB1 := Below.next hB0 hb1
  have HB1 := Lib.hid hb1
  have HB1w := Lib.hid hB1
  have x0 := cell_later hb1 x0
  have x1 := cell_later hb1 x1
  have x2 := cell_later hb1 x2
  have hw1 := hb1.size
  have HOWN := Lib.hid (own_any w1 _ X (HRD.out.keep hb1) HS.out (by have := HO.out.1; omega))
  clear hb1
  go_wp2_with fail
  refine HOWN.out.mono ?_
  rintro e w2 ⟨p, g, cap, fv, q, rfl, hop2, hb2⟩
  have HB2 := Lib.hid ((HB1.out).trans (hb2.mono hw1))
  have hB2 := Below.next hB1 hb2
  have hw2 := hb2.size
  have bm2 := HBM.out.below HB2.out
  have m0 : w2.cell? ⟨w.heap.size + 1, 0, none⟩ = some (.int .i64 (1)) := bm2.cell 0
  have m1 : w2.cell? ⟨w.heap.size + 1, 1, none⟩ = some (.int .i64 nd) := bm2.cell 1
  have m2 : w2.cell? ⟨w.heap.size + 1, 2, none⟩ = some (.int .i64 ot) := bm2.cell 2
  have m3 : w2.cell? ⟨w.heap.size + 1, 3, none⟩ = some (.int .i64 (n)) := bm2.cell 3
  have HWR := Lib.hid (wrongM_any w2 p _ _ fv q X ⟨1, nd, ot, n⟩ _ HF0.out hop2.bw)
  have HB12 := Lib.hid hb2
  have HOP2 := Lib.hid hop2
  clear hb2 bm2 hop2 x0 x1 x2
  go_wp2_with fail
  refine HWR.out.mono ?_
  rintro e w3 ⟨rfl, hb3⟩
  have hB3 := Below.next hB2 hb3
  have hw3 := hb3.size
  have m0 := cell_later hb3 m0
  have m1 := cell_later hb3 m1
  have m2 := cell_later hb3 m2
  have m3 := cell_later hb3 m3
  have HOP3 := Lib.hid (HOP2.out.below hb3)
  have HB13 := Lib.hid (HB12.out.trans (hb3.mono hw2))
  have HB3 := Lib.hid hB3
  have hge := HOP2.out.ge
  clear hb3 hB1 hB2 hB3 hB0
  have hat := at_any w3 p 66 g 0 cap fv q X i hi HOP3.out.bw
  rw [Nat.zero_add, ← HFI.out] at hat
  have HAT := Lib.hid hat
  obtain ⟨y, HY⟩ : ∃ y, Hid (gq q i = y) := ⟨_, Lib.hid rfl⟩
  have hco := HOP3.out.or.cop i
  obtain ⟨a0, a1, a2, a3, a4, a5⟩ := HOP3.out.or.at i hi
  have h3 := HOP3.out.or.three hi 2 ot cz.nx
  rw [HC.out, HY.out] at hco h3
  rw [HY.out] at a0 a1 a2 a3 a4 a5
  have f0 := HOP3.out.or.there (i * 6)
  have f1 := HOP3.out.or.there (i * 6 + 1)
  have f2 := HOP3.out.or.there (i * 6 + 2)
  replace a3 : w3.cell? ⟨g, i * 6 + 3, none⟩ = some (.int .i64 cz.nx) := by rw [← hco.nx]; exact a3
  have HCO := Lib.hid hco
  have H3 := Lib.hid h3
  have hmg : w1.heap.size ≤ g := (HOP3.out.or.gt_lt (.inl rfl)).1
  have hng : ¬ (w.heap.size + 1 = g) := by omega
  clear hat hco h3 a4 a5
  go_upto_region 11 with (go_at_call 43; refine HAT.out.mono ?_; rintro e w9 ⟨rfl, h9⟩; obtain rfl := h9.symm; clear h9)
  have st1 : (w3.setCell ⟨g, i * 6, none⟩ (.int .i64 2)).cell? ⟨w.heap.size + 1, 2, none⟩ = some (.int .i64 ot) ∧ (w3.setCell ⟨g, i * 6, none⟩ (.int .i64 2)).cell? ⟨g, i * 6 + 3, none⟩ = some (.int .i64 cz.nx) := ⟨cell_set _ (by simp; omega) m2, by go_simp⟩
  have st2 : ((w3.setCell ⟨g, i * 6, none⟩ (.int .i64 2)).setCell ⟨g, i * 6 + 1, none⟩ (.int .i64 ot)).cell? ⟨w.heap.size + 1, 2, none⟩ = some (.int .i64 ot) ∧ ((w3.setCell ⟨g, i * 6, none⟩ (.int .i64 2)).setCell ⟨g, i * 6 + 1, none⟩ (.int .i64 ot)).cell? ⟨g, i * 6 + 3, none⟩ = some (.int .i64 cz.nx) := ⟨cell_set _ (by simp; omega) st1.1, by go_simp⟩
  have st3 : (((w3.setCell ⟨g, i * 6, none⟩ (.int .i64 2)).setCell ⟨g, i * 6 + 1, none⟩ (.int .i64 ot)).setCell ⟨g, i * 6 + 2, none⟩ (.int .i64 cz.nx)).cell? ⟨w.heap.size + 1, 2, none⟩ = some (.int .i64 ot) ∧ (((w3.setCell ⟨g, i * 6, none⟩ (.int .i64 2)).setCell ⟨g, i * 6 + 1, none⟩ (.int .i64 ot)).setCell ⟨g, i * 6 + 2, none⟩ (.int .i64 cz.nx)).cell? ⟨g, i * 6 + 3, none⟩ = some (.int .i64 cz.nx) := ⟨cell_set _ (by simp; omega) st2.1, by go_simp⟩
  refine wp_region_noPanic ?_
  refine wp_region_held_drew (S := (fun w' => w'.cell? ⟨w.heap.size + 1, 2, none⟩ = some (.int .i64 ot) ∧ w'.cell? ⟨g, i * 6 + 3, none⟩ = some (.int .i64 cz.nx))) (by kernel_rfl) ⟨m2, a3⟩ (fun hHeld => ?_)
  refine reg_tk (v := ?_) 0 36 rfl rfl (by kernel_rfl) (by kernel_rfl) (by kernel_rfl) (fun _ _ _ h => h) (by rfl) ?_ (by assumption) ?_
  rotate_left
  · (intro w hSw; (try dsimp only at hSw); go_simp; (try with_reducible rfl))
  simp only [List.setIfInBounds_toArray, List.set_cons_zero, List.set_cons_succ]
  refine reg_tk (v := ?_) 1 37 rfl rfl (by kernel_rfl) (by kernel_rfl) (by kernel_rfl) (fun _ _ _ h => h) (by rfl) ?_ (by assumption) ?_
  rotate_left
  · (intro w hSw; (try dsimp only at hSw); go_simp; (try with_reducible rfl))
  simp only [List.setIfInBounds_toArray, List.set_cons_zero, List.set_cons_succ]
  refine reg_tk (v := ?_) 2 38 rfl rfl (by kernel_rfl) (by kernel_rfl) (by kernel_rfl) (fun _ _ _ h => h) (by rfl) ?_ (by assumption) ?_
  rotate_left
  · (intro w hSw; (try dsimp only at hSw); go_simp; (try with_reducible rfl))
  simp only [List.setIfInBounds_toArray, List.set_cons_zero, List.set_cons_succ]
  refine reg_tk (v := ?_) 3 39 rfl rfl (by kernel_rfl) (by kernel_rfl) (by kernel_rfl) (fun _ _ _ h => h) (by rfl) ?_ (by assumption) ?_
  rotate_left
  · (intro w hSw; (try dsimp only at hSw); go_simp; (try with_reducible rfl))
  simp only [List.setIfInBounds_toArray, List.set_cons_zero, List.set_cons_succ]
  refine reg_tk (v := (.int .i64 ot)) 4 40 rfl rfl (by kernel_rfl) (by kernel_rfl) (by kernel_rfl) (fun _ _ _ h => h) (by rfl) (fun w3 hS => by obtain ⟨y1, y2⟩ := hS; go_simp) (by assumption) ?_
  simp only [List.setIfInBounds_toArray, List.set_cons_zero, List.set_cons_succ]
  refine reg_tk (v := ?_) 5 41 rfl rfl (by kernel_rfl) (by kernel_rfl) (by kernel_rfl) (fun _ _ _ h => h) (by rfl) ?_ (by assumption) ?_
  rotate_left
  · (intro w hSw; (try dsimp only at hSw); go_simp; (try with_reducible rfl))
  simp only [List.setIfInBounds_toArray, List.set_cons_zero, List.set_cons_succ]
  refine reg_tk (v := ?_) 6 42 rfl rfl (by kernel_rfl) (by kernel_rfl) (by kernel_rfl) (fun _ _ _ h => h) (by rfl) ?_ (by assumption) ?_
  rotate_left
  · (intro w hSw; (try dsimp only at hSw); go_simp; (try with_reducible rfl))
  simp only [List.setIfInBounds_toArray, List.set_cons_zero, List.set_cons_succ]
  refine reg_tk (v := ?_) 7 43 rfl rfl (by kernel_rfl) (by kernel_rfl) (by kernel_rfl) (fun _ _ _ h => h) (by rfl) ?_ (by assumption) ?_
  rotate_left
  · (intro w hSw; (try dsimp only at hSw); go_simp; (try with_reducible rfl))
  simp only [List.setIfInBounds_toArray, List.set_cons_zero, List.set_cons_succ]
  refine reg_tk (v := (.int .i64 cz.nx)) 8 44 rfl rfl (by kernel_rfl) (by kernel_rfl) (by kernel_rfl) (fun _ _ _ h => h) (by rfl) (fun w3 hS => by obtain ⟨y1, y2⟩ := hS; go_simp) (by assumption) ?_
  simp only [List.setIfInBounds_toArray, List.set_cons_zero, List.set_cons_succ]
  refine reg_tk (v := ?_) 9 45 rfl rfl (by kernel_rfl) (by kernel_rfl) (by kernel_rfl) (fun _ _ _ h => h) (by rfl) ?_ (by assumption) ?_
  rotate_left
  · (intro w hSw; (try dsimp only at hSw); go_simp; (try with_reducible rfl))
  simp only [List.setIfInBounds_toArray, List.set_cons_zero, List.set_cons_succ]
  refine reg_tk (v := ?_) 10 46 rfl rfl (by kernel_rfl) (by kernel_rfl) (by kernel_rfl) (fun _ _ _ h => h) (by rfl) ?_ (by assumption) ?_
  rotate_left
  · (intro w hSw; (try dsimp only at hSw); go_simp; (try with_reducible rfl))
  simp only [List.setIfInBounds_toArray, List.set_cons_zero, List.set_cons_succ]
  refine wpAnyH_ready (rs := [11]) (by kernel_rfl) (by simp) ?_
  refine AllReadyH.cons rfl (fun K hK => ?_) AllReadyH.nil
  go_simp
  refine hK.out _ _ st1 (fun hHeld2 => ?_)
  clear hK K hHeld
  have hHeld := hHeld2
  clear hHeld2
  try simp only [Act.put, List.setIfInBounds_toArray, List.set_cons_zero, List.set_cons_succ]
  refine reg_tk (v := ?_) 12 47 rfl rfl (by kernel_rfl) (by kernel_rfl) (by kernel_rfl) (fun _ _ _ h => h) (by rfl) ?_ (by assumption) ?_
  rotate_left
  · (intro w hSw; (try dsimp only at hSw); go_simp; (try with_reducible rfl))
  simp only [List.setIfInBounds_toArray, List.set_cons_zero, List.set_cons_succ]
  refine reg_tk (v := ?_) 13 48 rfl rfl (by kernel_rfl) (by kernel_rfl) (by kernel_rfl) (fun _ _ _ h => h) (by rfl) ?_ (by assumption) ?_
  rotate_left
  · (intro w hSw; (try dsimp only at hSw); go_simp; (try with_reducible rfl))
  simp only [List.setIfInBounds_toArray, List.set_cons_zero, List.set_cons_succ]
  refine wpAnyH_ready (rs := [14]) (by kernel_rfl) (by simp) ?_
  refine AllReadyH.cons rfl (fun K hK => ?_) AllReadyH.nil
  go_simp
  refine hK.out _ _ st2 (fun hHeld2 => ?_)
  clear hK K hHeld
  have hHeld := hHeld2
  clear hHeld2
  try simp only [Act.put, List.setIfInBounds_toArray, List.set_cons_zero, List.set_cons_succ]
  refine reg_tk (v := ?_) 15 49 rfl rfl (by kernel_rfl) (by kernel_rfl) (by kernel_rfl) (fun _ _ _ h => h) (by rfl) ?_ (by assumption) ?_
  rotate_left
  · (intro w hSw; (try dsimp only at hSw); go_simp; (try with_reducible rfl))
  simp only [List.setIfInBounds_toArray, List.set_cons_zero, List.set_cons_succ]
  refine reg_tk (v := ?_) 16 50 rfl rfl (by kernel_rfl) (by kernel_rfl) (by kernel_rfl) (fun _ _ _ h => h) (by rfl) ?_ (by assumption) ?_
  rotate_left
  · (intro w hSw; (try dsimp only at hSw); go_simp; (try with_reducible rfl))
  simp only [List.setIfInBounds_toArray, List.set_cons_zero, List.set_cons_succ]
  refine wpAnyH_ready (rs := [17]) (by kernel_rfl) (by simp) ?_
  refine AllReadyH.cons rfl (fun K hK => ?_) AllReadyH.nil
  go_simp
  refine hK.out _ _ st3 (fun hHeld2 => ?_)
  clear hK K hHeld
  have hHeld := hHeld2
  clear hHeld2
  try simp only [Act.put, List.setIfInBounds_toArray, List.set_cons_zero, List.set_cons_succ]
  refine wpAnyH_done (by kernel_rfl) ?_ _
  refine NoPanic.normal ?_
  obtain ⟨w4, hw4⟩ : ∃ w4 : World, w4 = ((w3.setCell ⟨g, i * 6, none⟩ (.int .i64 2)).setCell ⟨g, i * 6 + 1, none⟩ (.int .i64 ot)).setCell ⟨g, i * 6 + 2, none⟩ (.int .i64 cz.nx) := ⟨_, rfl⟩
  have hk4 := H3.out.2
  have h4 := H3.out.1
  rw [← hw4] at h4 hk4 st3 ⊢
  have hql : i < q.length := by rw [HOP3.out.or.len]; exact hi
  have h4c : CopO w4 w1.heap.size { y with st := 2, tt := ot, of := cz.nx } { cz with st := 2, tt := ot, of := cz.nx } := by
    have := h4.cop i
    rw [gq_set hql, if_pos rfl] at this
    have e : gc (setI X i { cz with st := 2, tt := ot, of := cz.nx }).cs i = { cz with st := 2, tt := ot, of := cz.nx } := by show gc (X.cs.set i _) i = _; rw [gc_set hi, if_pos rfl]
    rw [e] at this
    exact this
  have h5 := h4.num' (y' := { y with st := 2, tt := ot, of := cz.nx, nx := cz.nx + 1 }) (c' := { cz with st := 2, tt := ot, of := cz.nx, nx := cz.nx + 1 }) hi hql 3 (.int .i64 (cz.nx + 1)) (by decide) rfl (h4c.num rfl rfl rfl rfl rfl rfl rfl rfl) rfl rfl
  have k3 := st3.2
  have f3 := h4.there (i * 6 + 3)
  have hk5 : Kx (fun k => k = g) w3 (w4.setCell ⟨g, i * 6 + 3, none⟩ (.int .i64 (cz.nx + 1))) := hk4.setCell (.inl rfl) _
  have HW4 := Lib.hid hw4
  have H5 := Lib.hid h5
  have HK5 := Lib.hid hk5
  clear hw4 hk4 h4 h4c h5 hk5 st1 st2 st3 a0 a1 a2 a3 f0 f1 f2 hHeld
  go_upto_region 13 with fail
  obtain ⟨w5, hw5⟩ : ∃ w5 : World, w5 = (w4.setCell ⟨g, i * 6 + 3, none⟩ (.int .i64 (cz.nx + 1))).drew := ⟨_, rfl⟩
  replace H5 := Lib.hid (H5.out.below ((Below.refl _ _).drew))
  replace HK5 := Lib.hid (HK5.out.drew)
  rw [← hw5] at H5 HK5 ⊢
  clear hw5 k3 f3 HW4 H3
  obtain ⟨X5, HX5⟩ : ∃ X5, Hid (setI X i { cz with st := 2, tt := ot, of := cz.nx, nx := cz.nx + 1 } = X5) := ⟨_, Lib.hid rfl⟩
  have h5 := H5.out
  have hq5 : gq (q.set i { y with st := 2, tt := ot, of := cz.nx, nx := cz.nx + 1 }) i = { y with st := 2, tt := ot, of := cz.nx, nx := cz.nx + 1 } := by rw [gq_set hql, if_pos rfl]
  have k2 := (h5.at i (by rw [setI_len]; exact hi)).2.2.1
  rw [hq5] at k2
  replace k2 : w5.cell? ⟨g, i * 6 + 2, none⟩ = some (.int .i64 cz.nx) := k2
  obtain ⟨q5, HQ5⟩ : ∃ q5, Hid (q.set i { y with st := 2, tt := ot, of := cz.nx, nx := cz.nx + 1 } = q5) := ⟨_, Lib.hid rfl⟩
  have hop5 : OP w5 w1.heap.size p g cap fv (q.set i { y with st := 2, tt := ot, of := cz.nx, nx := cz.nx + 1 }) (setI X i { cz with st := 2, tt := ot, of := cz.nx, nx := cz.nx + 1 }) := ⟨by
    rw [setI_len]
    exact HK5.out.box (fun e => HOP3.out.ne (.inl e)) HOP3.out.box, h5, hge⟩
  rw [HQ5.out, HX5.out] at hop5
  have hxe : ({ X5 with fr := X5.fr ++ [⟨3, nd, ot, cz.nx⟩] } : Wd) = XE := by rw [← HX5.out]; exact HX.out
  have hsf : X5.fr.length ≤ 100000 := by rw [← HX5.out]; exact HS.out.fr
  have HXF := Lib.hid hxe
  have hB15 : Below w1.heap.size w1 w5 := HB13.out.trans (HK5.out.below (by omega) (fun b e => by omega))
  have HB15 := Lib.hid hB15
  have m1 := HK5.out.cell (p := ⟨w.heap.size + 1, 1, none⟩) hng m1
  have m2 := HK5.out.cell (p := ⟨w.heap.size + 1, 2, none⟩) hng m2
  obtain ⟨ra, rc, hfv⟩ := owns_form hop5.or.frs
  subst hfv
  have p2 : w5.cell? ⟨p, 2, none⟩ = some (.slice ra X5.fr.length rc) := hop5.box.cell 2
  have hnog : ¬ (Value.slice ra X5.fr.length rc).ownBlock = some g := fun e => own_apart hop5.or.rows hop5.or.frs (by decide) g rfl e
  have HOP5 := Lib.hid hop5
  have hz5 := HK5.out.size
  clear hop5 hxe hB15 h5 hq5 H5 HK5 HOP3 HAT HCO
  refine wp_region_noPanic ?_
  refine wp_region_late (fun _ => True) (fun w' => w'.cell? ⟨p, 2, none⟩ = some (.slice ra X5.fr.length rc) ∧ w'.cell? ⟨w.heap.size + 1, 1, none⟩ = some (.int .i64 nd) ∧ w'.cell? ⟨w.heap.size + 1, 2, none⟩ = some (.int .i64 ot) ∧ w'.cell? ⟨g, i * 6 + 2, none⟩ = some (.int .i64 cz.nx)) [20] (by kernel_rfl) trivial ⟨p2, m1, m2, k2⟩ (fun hHeld0 hHeld => ?_)
  refine reg0_tk (v := ?_) 0 58 rfl rfl (by kernel_rfl) (by kernel_rfl) (by kernel_rfl) (by kernel_rfl) (by kernel_rfl) (fun _ _ _ h => h) (by rfl) ?_ (by assumption) (by assumption) ?_
  rotate_left
  · (intro w3 hS; (try dsimp only at hS); skip; go_simp; (try with_reducible rfl))
  simp only [List.setIfInBounds_toArray, List.set_cons_zero, List.set_cons_succ]
  refine reg0_tk (v := ?_) 1 59 rfl rfl (by kernel_rfl) (by kernel_rfl) (by kernel_rfl) (by kernel_rfl) (by kernel_rfl) (fun _ _ _ h => h) (by rfl) ?_ (by assumption) (by assumption) ?_
  rotate_left
  · (intro w3 hS; (try dsimp only at hS); skip; go_simp; (try with_reducible rfl))
  simp only [List.setIfInBounds_toArray, List.set_cons_zero, List.set_cons_succ]
  refine reg0_tk (v := ?_) 2 60 rfl rfl (by kernel_rfl) (by kernel_rfl) (by kernel_rfl) (by kernel_rfl) (by kernel_rfl) (fun _ _ _ h => h) (by rfl) ?_ (by assumption) (by assumption) ?_
  rotate_left
  · (intro w3 hS; (try dsimp only at hS); skip; go_simp; (try with_reducible rfl))
  simp only [List.setIfInBounds_toArray, List.set_cons_zero, List.set_cons_succ]
  refine reg0_tk (v := ?_) 3 61 rfl rfl (by kernel_rfl) (by kernel_rfl) (by kernel_rfl) (by kernel_rfl) (by kernel_rfl) (fun _ _ _ h => h) (by rfl) ?_ (by assumption) (by assumption) ?_
  rotate_left
  · (intro w3 hS; (try dsimp only at hS); skip; go_simp; (try with_reducible rfl))
  simp only [List.setIfInBounds_toArray, List.set_cons_zero, List.set_cons_succ]
  refine reg0_tk (v := ?_) 4 62 rfl rfl (by kernel_rfl) (by kernel_rfl) (by kernel_rfl) (by kernel_rfl) (by kernel_rfl) (fun _ _ _ h => h) (by rfl) ?_ (by assumption) (by assumption) ?_
  rotate_left
  · (intro w3 hS; (try dsimp only at hS); skip; go_simp; (try with_reducible rfl))
  simp only [List.setIfInBounds_toArray, List.set_cons_zero, List.set_cons_succ]
  refine regG_tk (v := ?_) 5 63 rfl rfl (by kernel_rfl) (by kernel_rfl) (by kernel_rfl) (by kernel_rfl) (by kernel_rfl) (fun _ _ _ h => h) (by rfl) ?_ (by assumption) (by assumption) ?_
  rotate_left
  · (intro w3 hS; (try dsimp only at hS); obtain ⟨y0, y1, y2, y3⟩ := hS; go_simp; (try with_reducible rfl))
  simp only [List.setIfInBounds_toArray, List.set_cons_zero, List.set_cons_succ]
  refine reg0_tk (v := ?_) 6 64 rfl rfl (by kernel_rfl) (by kernel_rfl) (by kernel_rfl) (by kernel_rfl) (by kernel_rfl) (fun _ _ _ h => h) (by rfl) ?_ (by assumption) (by assumption) ?_
  rotate_left
  · (intro w3 hS; (try dsimp only at hS); skip; go_simp; (try with_reducible rfl))
  simp only [List.setIfInBounds_toArray, List.set_cons_zero, List.set_cons_succ]
  refine regG_tk (v := ?_) 7 65 rfl rfl (by kernel_rfl) (by kernel_rfl) (by kernel_rfl) (by kernel_rfl) (by kernel_rfl) (fun _ _ _ h => h) (by rfl) ?_ (by assumption) (by assumption) ?_
  rotate_left
  · (intro w3 hS; (try dsimp only at hS); obtain ⟨y0, y1, y2, y3⟩ := hS; go_simp; (try with_reducible rfl))
  simp only [List.setIfInBounds_toArray, List.set_cons_zero, List.set_cons_succ]
  refine reg0_tk (v := ?_) 8 66 rfl rfl (by kernel_rfl) (by kernel_rfl) (by kernel_rfl) (by kernel_rfl) (by kernel_rfl) (fun _ _ _ h => h) (by rfl) ?_ (by assumption) (by assumption) ?_
  rotate_left
  · (intro w3 hS; (try dsimp only at hS); skip; go_simp; (try with_reducible rfl))
  simp only [List.setIfInBounds_toArray, List.set_cons_zero, List.set_cons_succ]
  refine regG_tk (v := ?_) 9 67 rfl rfl (by kernel_rfl) (by kernel_rfl) (by kernel_rfl) (by kernel_rfl) (by kernel_rfl) (fun _ _ _ h => h) (by rfl) ?_ (by assumption) (by assumption) ?_
  rotate_left
  · (intro w3 hS; (try dsimp only at hS); obtain ⟨y0, y1, y2, y3⟩ := hS; go_simp; (try with_reducible rfl))
  simp only [List.setIfInBounds_toArray, List.set_cons_zero, List.set_cons_succ]
  refine reg0_tk (v := ?_) 10 68 rfl rfl (by kernel_rfl) (by kernel_rfl) (by kernel_rfl) (by kernel_rfl) (by kernel_rfl) (fun _ _ _ h => h) (by rfl) ?_ (by assumption) (by assumption) ?_
  rotate_left
  · (intro w3 hS; (try dsimp only at hS); skip; go_simp; (try with_reducible rfl))
  simp only [List.setIfInBounds_toArray, List.set_cons_zero, List.set_cons_succ]
  refine reg0_tk (v := ?_) 11 69 rfl rfl (by kernel_rfl) (by kernel_rfl) (by kernel_rfl) (by kernel_rfl) (by kernel_rfl) (fun _ _ _ h => h) (by rfl) ?_ (by assumption) (by assumption) ?_
  rotate_left
  · (intro w3 hS; (try dsimp only at hS); skip; go_simp; (try with_reducible rfl))
  simp only [List.setIfInBounds_toArray, List.set_cons_zero, List.set_cons_succ]
  refine reg0_tk (v := ?_) 12 70 rfl rfl (by kernel_rfl) (by kernel_rfl) (by kernel_rfl) (by kernel_rfl) (by kernel_rfl) (fun _ _ _ h => h) (by rfl) ?_ (by assumption) (by assumption) ?_
  rotate_left
  · (intro w3 hS; (try dsimp only at hS); skip; go_simp; (try with_reducible rfl))
  simp only [List.setIfInBounds_toArray, List.set_cons_zero, List.set_cons_succ]
  refine regG_tk (v := ?_) 13 71 rfl rfl (by kernel_rfl) (by kernel_rfl) (by kernel_rfl) (by kernel_rfl) (by kernel_rfl) (fun _ _ _ h => h) (by rfl) ?_ (by assumption) (by assumption) ?_
  rotate_left
  · (intro w3 hS; (try dsimp only at hS); obtain ⟨y0, y1, y2, y3⟩ := hS; go_simp; (try with_reducible rfl))
  simp only [List.setIfInBounds_toArray, List.set_cons_zero, List.set_cons_succ]
  refine reg0_tk (v := ?_) 14 72 rfl rfl (by kernel_rfl) (by kernel_rfl) (by kernel_rfl) (by kernel_rfl) (by kernel_rfl) (fun _ _ _ h => h) (by rfl) ?_ (by assumption) (by assumption) ?_
  rotate_left
  · (intro w3 hS; (try dsimp only at hS); skip; go_simp; (try with_reducible rfl))
  simp only [List.setIfInBounds_toArray, List.set_cons_zero, List.set_cons_succ]
  obtain ⟨V, hV⟩ : ∃ V : World, V = (World.alloc w5 (.cells #[.int .i64 3, .int .i64 nd, .int .i64 ot, .int .i64 cz.nx] 47)).drew := ⟨_, rfl⟩
  have hVb : Below (World.heap w5).size w5 V := by rw [hV]; exact (Below.al (Below.refl _ w5) _).drew
  have hVn : RdS V 4 (.slice (some ⟨(World.heap w5).size, 0, none⟩) 1 1) 1 (rcs psR [(⟨3, nd, ot, cz.nx⟩ : Ps)]) := by rw [hV]; exact (RdS.boxP w5 47 (⟨3, nd, ot, cz.nx⟩ : Ps)).keep ((Below.refl _ _).drew)
  have hVo := ((HOP5).out.or.below hVb).frs
  have hVz := hVb.size
  have hmB : ∀ b, (b = p ∨ Mn g (.slice ra X5.fr.length rc) q5 b) → w1.heap.size ≤ b := fun b e => by
    rcases e with rfl | e
    · exact hge
    · exact ((HOP5).out.or.gt_lt e).1
  refine wpAnyG_oneS (i := 15) (by kernel_rfl) rfl (by rfl) (fun K hK => ?_)
  go_simp
  rw [← hV]
  clear hV
  refine hK _ _ trivial ⟨cell_later hVb p2, cell_later hVb m1, cell_later hVb m2, cell_later hVb k2⟩ ?_
  clear hK K
  try simp only [Act.put, List.setIfInBounds_toArray, List.set_cons_zero, List.set_cons_succ]
  refine wpAnyG_oneS (i := 16) (by kernel_rfl) rfl (by rfl) (fun K hK => ?_)
  refine wp_app_at (.tmp 63) (.tmp 73) 23 rfl w1.heap.size 47 _ 4 32 EPs (.slice ra X5.fr.length rc) (X5).fr.length (rcs psR (X5).fr) rfl hVo _ 1 (rcs psR [(⟨3, nd, ot, cz.nx⟩ : Ps)]) (by decide) rfl hVn (rcs_one _ _) (by unfold maxLen; omega) (by omega) (by omega) ?_
  intro a' c' w6 hown hg hwh
  obtain ⟨r1, r2, r3, r4⟩ := (HOP5).out.push (f := (⟨3, nd, ot, cz.nx⟩ : Ps)) hVb hown hg hwh
  have hkk : Kx (fun k => (Value.ownBlock (.slice ra X5.fr.length rc)) = some k) V w6 := (Kx.refl (fun k => (Value.ownBlock (.slice ra X5.fr.length rc)) = some k) V).grown hg (fun k e => .inl e)
  have hno : ¬ (Value.ownBlock (.slice ra X5.fr.length rc)) = some (w.heap.size + 1) := fun e => by have := hmB (w.heap.size + 1) (.inr (.inr (.inl e))); omega
  have hS6 := (show w6.cell? ⟨p, 2, none⟩ = some (.slice ra X5.fr.length rc) ∧ w6.cell? ⟨w.heap.size + 1, 1, none⟩ = some (.int .i64 nd) ∧ w6.cell? ⟨w.heap.size + 1, 2, none⟩ = some (.int .i64 ot) ∧ w6.cell? ⟨g, i * 6 + 2, none⟩ = some (.int .i64 cz.nx) from ⟨r4.cell 2, hkk.cell (p := ⟨w.heap.size + 1, 1, none⟩) hno (cell_later hVb m1), hkk.cell (p := ⟨w.heap.size + 1, 2, none⟩) hno (cell_later hVb m2), hkk.cell (p := ⟨g, i * 6 + 2, none⟩) hnog (cell_later hVb k2)⟩)
  have v0 := r4.cell 2
  have v0 : w6.cell? ⟨p, 2, none⟩ = some (.slice ra X5.fr.length rc) := v0
  have v1 := r4.frozen 2
  clear r4 hown hg hwh hVo hVn
  refine hK _ _ trivial hS6 ?_
  clear hK K
  try simp only [Act.put, List.setIfInBounds_toArray, List.set_cons_zero, List.set_cons_succ]
  refine wpAnyG_oneS (i := 17) (by kernel_rfl) rfl (by rfl) (fun K hK => ?_)
  go_simp
  refine hK _ _ trivial hS6 ?_
  clear hK K
  try simp only [Act.put, List.setIfInBounds_toArray, List.set_cons_zero, List.set_cons_succ]
  refine wpAnyG_oneS (i := 18) (by kernel_rfl) rfl (by rfl) (fun K hK => ?_)
  go_simp
  refine hK _ _ trivial hS6 ?_
  clear hK K
  try simp only [Act.put, List.setIfInBounds_toArray, List.set_cons_zero, List.set_cons_succ]
  refine wpAnyG_oneS (i := 19) (by kernel_rfl) rfl (by rfl) (fun K hK => ?_)
  go_simp
  refine hK _ _ trivial hS6 ?_
  clear hK K
  try simp only [Act.put, List.setIfInBounds_toArray, List.set_cons_zero, List.set_cons_succ]
  refine wpAnyG_one (i := 20) (by kernel_rfl) rfl (by rfl) (by kernel_rfl) (fun K hK => ?_)
  go_simp
  refine hK _ _ trivial ?_
  clear hK K
  try simp only [Act.put, List.setIfInBounds_toArray, List.set_cons_zero, List.set_cons_succ]
  refine wpAnyG_done (by kernel_rfl) ?_ _
  refine NoPanic.normal ?_
  obtain ⟨w7, hw7⟩ : ∃ w7 : World, w7 = w6.setCell ⟨p, 2, none⟩ (.slice a' ((X5).fr.length + 1) c') := ⟨_, rfl⟩
  rw [← hw7] at r1 r2 ⊢
  clear hw7 v0 v1 hS6 hkk hno
  have ms : MvS w1 w1.heap.size p _ w7 := ⟨_, _, _, _, r1, HB15.out.trans (r2.below (by omega) hmB)⟩
  rw [HXF.out] at ms
  clear r1 r2 hmB p2 m0 m1 m2 m3 k2 hnog
  obtain ⟨g9, cap9, fv9, q9, ho9, hb9⟩ := ms
  obtain ⟨fa9, fc9, hfv9⟩ := owns_form ho9.or.frs
  subst hfv9
  have e9 := HBT.out.below (HB1.out.trans (hb9.mono hw1))
  have hB9 := HB1w.out.trans (hb9.mono (by omega))
  have hw9 := hb9.size
  have t0 : World.cell? w7 ⟨w.heap.size + 2, 0, none⟩ = some (.int .i64 0) := e9.cell 0
  have t1 : World.cell? w7 ⟨w.heap.size + 2, 1, none⟩ = some (.slice none 0 0) := e9.cell 1
  have t2 : World.cell? w7 ⟨w.heap.size + 2, 2, none⟩ = some (.slice none 0 0) := e9.cell 2
  have z0 := e9.frozen 0
  have z1 := e9.frozen 1
  have z2 := e9.frozen 2
  have p0 : World.cell? w7 ⟨p, 0, none⟩ = some (.int .i64 (XE).ds) := ho9.box.cell 0
  have p1 : World.cell? w7 ⟨p, 1, none⟩ = some (.slice (some ⟨g9, 0, none⟩) (XE).cs.length cap9) := ho9.box.cell 1
  have p2 : World.cell? w7 ⟨p, 2, none⟩ = some (.slice fa9 (XE).fr.length fc9) := ho9.box.cell 2
  have HO9 := Lib.hid ho9
  have HB9 := Lib.hid hB9
  clear ho9 hb9 e9 hB9
  go_wp2_with fail
  refine bodyPost_ret (v := .tuple #[.agg #[.int .i64 (XE).ds, .slice (some ⟨g9, 0, none⟩) (XE).cs.length cap9, .slice fa9 (XE).fr.length fc9], .int .i64 0]) (by simp [results, Try.results44, go_sem, t0, t1, t2]) rfl ⟨_, rfl, ?_, ⟨_, _, q9, rfl, ?_⟩⟩
  · exact ((HB9.out.setCell (p := ⟨w.heap.size + 2, 0, none⟩) (by show w.heap.size ≤ w.heap.size + 2; omega) _).setCell (p := ⟨w.heap.size + 2, 1, none⟩) (by show w.heap.size ≤ w.heap.size + 2; omega) _).setCell (p := ⟨w.heap.size + 2, 2, none⟩) (by show w.heap.size ≤ w.heap.size + 2; omega) _
  · exact (PtF.of_or (HO9.out.or.kx (S := fun k => k = w.heap.size + 2) (((kx_cell w7 (w.heap.size + 2) 0 _).setCell (.inl rfl) _).setCell (.inl rfl) _) (fun k hk e => by have := (HO9.out.or.gt_lt hk).1; omega))).mono (by omega)
theorem move_any (w : World) (v : Value) (X : Wd) (m : Mv) (rash : Bool) (hs : Sml X) (h : RdW w v X) :
    Calls Try.prog 44 #[v, m.v, .bool rash] w (MvR w (stpW rash X m) (stpE X m)) := by
  obtain ⟨k, nd, ot, n⟩ := m
  show Calls Try.prog 44 #[v, .agg #[.int .i64 k, .int .i64 nd, .int .i64 ot, .int .i64 n], .bool rash] w _
  by_cases ho : Okw X
  · have e1 : stpE X ⟨k, nd, ot, n⟩ = ftE X ⟨k, nd, ot, n⟩ := by unfold stpE; rw [if_pos ho]
    by_cases hf : ftE X ⟨k, nd, ot, n⟩ = 0
    · have e2 : stpW rash X ⟨k, nd, ot, n⟩ = mvW rash X ⟨k, nd, ot, n⟩ := by unfold stpW; rw [if_pos (e1.trans hf)]
      rw [e2, e1, hf]
      have hm := ftE_zero hf
      have hk := hm.k
      have hn := hm.n
      simp only at hk hn
      by_cases k1 : k = 1
      · subst k1; exact move_1 w v X nd ot n rash hs h ho hf
      by_cases k5 : k = 5
      · subst k5; exact move_5 w v X nd ot n rash hs h ho hf
      by_cases k6 : k = 6
      · subst k6; exact move_6 w v X nd ot n rash hs h ho hf
      have hn2 := (hn (by omega)).1
      obtain ⟨j, rfl⟩ : ∃ j : Nat, n = (j : Int) := ⟨n.toNat, by omega⟩
      by_cases k2 : k = 2
      · subst k2; exact move_2 w v X nd ot j rash hs h ho hf
      by_cases k3 : k = 3
      · subst k3; exact move_3 w v X nd ot j rash hs h ho hf
      obtain rfl : k = 4 := by omega
      exact move_4 w v X nd ot j rash hs h ho hf
    · have e2 : stpW rash X ⟨k, nd, ot, n⟩ = W0 := by unfold stpW; rw [if_neg (by rw [e1]; exact hf)]
      rw [e2, e1]
      exact move_wrong w v X k nd ot n rash _ hs h ho rfl hf
  · have e1 : stpE X ⟨k, nd, ot, n⟩ = 3 := by unfold stpE; rw [if_neg ho]
    have e2 : stpW rash X ⟨k, nd, ot, n⟩ = W0 := by unfold stpW; rw [if_neg (by rw [e1]; decide)]
    rw [e2, e1]
    exact move_bad w v X k nd ot n rash h ho
end Go.Proofs.Ytnkpjfogjkjcfaa
