


/- CustodyGone: the law's walk. -/
import Derived.Test.YtnkpjfogjkjcfaaLo
import Derived.Test.YtnkpjfogjkjcfaaNe
namespace Go.Proofs.Ytnkpjfogjkjcfaa
open Go.RowKit
set_option linter.unusedSimpArgs false
set_option linter.unusedVariables false
set_option maxRecDepth 100000

set_option maxHeartbeats 2000000 in
theorem lgone_any (w : World) (nn : Int) (v : Value) (xs : List Int) (hn : Ib nn) (hbx : ∀ x ∈ xs, Ib x) (h : RdI .i64 w v xs) :
    Calls Try.prog 4 #[.int .i64 nn, v] w fun e w' => e = .returned (.bool true) ∧ Below w.heap.size w w' := by
  obtain ⟨va, vc, rfl⟩ := h.form
  obtain ⟨L, hL⟩ : ∃ L, xs.length = L := ⟨_, rfl⟩
  rw [hL] at h ⊢
  have hmx : L ≤ 9223372036854775807 := by have := h.2.1; rw [hL] at this; unfold maxLen at this; omega
  have HL := Lib.hid hL
  have HR := Lib.hid h
  have HBX := Lib.hid hbx
  clear hL h hbx
  obtain ⟨z, HZ, z0, z1⟩ : ∃ y, Hid (nn % 5 = y) ∧ 0 ≤ y ∧ y < 5 := ⟨_, rfl, Int.emod_nonneg _ (by omega), Int.emod_lt_of_pos _ (by omega)⟩
  obtain ⟨N, hN, hN1, hN2⟩ : ∃ N : Nat, 2 + z = (N : Int) ∧ 2 ≤ N ∧ N ≤ 6 := ⟨(2 + z).toNat, by omega, by omega, by omega⟩
  obtain ⟨X0, HX0⟩ : ∃ X, Hid (begW (N : Int) (N : Int) 1 = X) := ⟨_, Lib.hid rfl⟩
  have hbe : begE (N : Int) (N : Int) 1 = 0 := by unfold begE; rw [if_neg (by omega)]
  have hbg := begs N hN1 (by omega) N 1 (by omega) (Nat.le_refl _) (Nat.le_refl _) (by omega) (by omega)
  have hsf : Had (begW (N : Int) (N : Int) 1) := beg_had (n := N) (d := N) (o := 1) (Nat.le_refl 1) (by omega)
  have htg := beg_tgb (N : Int) (N : Int) 1
  have e1 : ((1 : Nat) : Int) = 1 := rfl
  rw [e1] at hbg
  rw [HX0.out] at hbg hsf htg
  have hbegin := begin_ok w N (N : Int) 1 hbe
  rw [HX0.out] at hbegin
  have HBEGIN := Lib.hid hbegin
  have HBG := Lib.hid hbg
  have HSF := Lib.hid hsf
  have HTG := Lib.hid htg
  have hwn : IntKind.i64.wrap (2 + z) = (N : Int) := by rw [hN]; exact IntWalk.i64_in _ (by omega)
  clear hbegin hbg hsf htg e1 hbe hN
  go_enter Try.func4, Try.ntmps4
  go_wp2_with fail
  refine (mod_any nn 5 (by omega) (by omega) hn _).mono ?_
  rw [HZ.out]
  rintro e w9 ⟨rfl, rfl⟩
  go_wp2_with fail
  refine HBEGIN.out.mono ?_
  rintro e w1 ⟨u, rfl, hb1, hu⟩
  obtain ⟨cv1, fv1, q1, rfl, hp1⟩ := hu
  obtain ⟨a1, c1, rfl⟩ := hp1.pt.rows.form
  obtain ⟨fa1, fc1, rfl⟩ := hp1.pt.frs.form
  obtain ⟨W1, hW1⟩ : ∃ W1 : World, W1 = w1.alloc (.cells #[.int .i64 X0.ds, .slice a1 q1.length c1, .slice fa1 X0.fr.length fc1] 25) := ⟨_, rfl⟩
  have hbn : Below w1.heap.size w1 W1 := by rw [hW1]; exact (by repeat (first | assumption | exact Below.refl _ _ | apply Below.al | apply below_drewN | apply Below.drew | refine Below.next ?_ (by assumption)))
  have hsz1 := hb1.size
  have HB := Lib.hid (Below.next hb1 hbn)
  obtain ⟨p6, hp6⟩ : ∃ p, w1.heap.size = p := ⟨_, rfl⟩
  have hbx : BoxN W1 p6 25 #[.int .i64 X0.ds, .slice a1 q1.length c1, .slice fa1 X0.fr.length fc1] := by rw [hW1, ← hp6]; exact BoxN.new _ _ _
  have hwp : w.heap.size ≤ p6 := by omega
  have HIN := Lib.hid (⟨hbx, hp1.pt.keep hbn⟩ : InB W1 p6 X0 a1 c1 fa1 fc1 q1)
  have hql : (q1.length : Int) = (N : Int) := by rw [hp1.pt.len, HBG.out.2.1]
  have hqq : ((q1.length : Int) != (N : Int)) = false := by rw [hql]; simp
  have x1 : W1.cell? ⟨p6, 1, none⟩ = some (.slice a1 q1.length c1) := hbx.cell 1
  clear hb1 hp1 hbn hbx hql
  go_upto_region 3 with fail
  rw [← hW1]
  clear hW1 hp6 hsz1
  go_wp2_with fail
  clear x1 hqq
  go_loopw [8] (fun i wr => ∃ (k : Nat) (X : Wd) (a : Option Addr) (c : Nat) (fa : Option Addr) (fc : Nat) (q : List Cq), k ≤ L ∧ k ≤ 60 ∧ i = .int .i64 k ∧ InB wr p6 X a c fa fc q ∧ Okw X ∧ Had X ∧ X.cs.length = N ∧ TgB k X ∧ Below w.heap.size w wr ∧ p6 < wr.heap.size) (fun i _ => 81 - (intOf i).toNat)
  case atStart => exact ⟨0, X0, a1, c1, fa1, fc1, q1, Nat.zero_le _, Nat.zero_le _, rfl, HIN.out, HBG.out.1, HSF.out, HBG.out.2.1, HTG.out, HB.out, HIN.out.box.lt⟩
  case round =>
    clear HIN HBG HSF HTG HB
    obtain ⟨k, X, a, c, fa, fc, q, hkL, hk8, rfl, hin, hok, hsafe, hlen, htg, hbr, hpl⟩ := hrel
    have HIN := Lib.hid hin
    have HOK := Lib.hid hok
    have HSF := Lib.hid hsafe
    have HLEN := Lib.hid hlen
    have HTG := Lib.hid htg
    have HB := Lib.hid hbr
    have x0 : wr.cell? ⟨p6, 0, none⟩ = some (.int .i64 X.ds) := hin.box.cell 0
    have x1 : wr.cell? ⟨p6, 1, none⟩ = some (.slice a q.length c) := hin.box.cell 1
    have x2 : wr.cell? ⟨p6, 2, none⟩ = some (.slice fa X.fr.length fc) := hin.box.cell 2
    clear hin hok hsafe hlen htg hbr
    by_cases hlt : k < L ∧ k < 60
    · have d1 : decide ((k : Int) < (L : Int)) = true := yb (by omega)
      have d2 : decide ((k : Int) < 60) = true := yb (by omega)
      obtain ⟨b, off, rfl, hcap, hcx⟩ := RdI.at (HR.out.keep HB.out) HL.out k hlt.1
      obtain ⟨z, hz⟩ : ∃ z, xs.getD k 0 = z := ⟨_, rfl⟩
      have hzb : Ib z := by rw [← hz]; exact mkN_bd HBX.out (by rw [HL.out]; exact hlt.1)
      rw [hz] at hcx
      have i1 : (0 : Int) ≤ (k : Int) := by omega
      have i2 : (k : Int) < (L : Int) := by omega
      have hwk : IntKind.i64.wrap ((k : Int) + 1) = (k : Int) + 1 := IntWalk.i64_in _ (by omega)
      have hwk0 : IntKind.i64.wrap (k : Int) = (k : Int) := IntWalk.i64_in _ (by omega)
      obtain ⟨m, HM⟩ : ∃ m, Hid (mkN X z = m) := ⟨_, Lib.hid rfl⟩
      obtain ⟨er, HER⟩ : ∃ er, Hid (stpE X m = er) := ⟨_, Lib.hid rfl⟩
      obtain ⟨XE, HXE⟩ : ∃ XE, Hid (stpW false X m = XE) := ⟨_, Lib.hid rfl⟩
      have hmd := fun w' (hb : Below wr.heap.size wr w') => lmade_any w' (X.v a c fa fc q) X z hzb (by rw [HLEN.out]; omega) (by have := okw_len HOK.out; omega) ((HIN.out.keep hb).rdw)
      simp only [HM.out] at hmd
      obtain ⟨mk, mn, mo, mi⟩ := m
      have HMD : Hid (∀ w', Below wr.heap.size wr w' → Calls Try.prog 20 #[X.v a c fa fc q, .int .i64 z] w' fun e w'' => e = .returned (.agg #[.int .i64 mk, .int .i64 mn, .int .i64 mo, .int .i64 mi]) ∧ Below w'.heap.size w' w'') := Lib.hid hmd
      clear hmd hz
      go_upto_region 8 with fail
      go_cut [9] (fun s9 wx => ∃ pm : Nat, s9 = ptr pm ∧ BoxN wx pm 40 #[.int .i64 mk, .int .i64 mn, .int .i64 mo, .int .i64 mi] ∧ Below wr.heap.size wr wx)
      case first =>
        as_aux_lemma =>
        refine wp_region_noPanic ?_
        refine wp_region_held_drew (S := (fun w' => Below wr.heap.size wr w')) (by kernel_rfl) ((Below.refl _ wr).drew) (fun hHeld => ?_)
        refine reg_tk (v := X.v a c fa fc q) 0 44 rfl rfl (by kernel_rfl) (by kernel_rfl) (by kernel_rfl) (fun _ _ _ h => h) (by rfl) (fun w3 hS => by (have j0 := cell_later hS x0; have j1 := cell_later hS x1; have j2 := cell_later hS x2); go_simp) (by assumption) ?_
        simp only [List.setIfInBounds_toArray, List.set_cons_zero, List.set_cons_succ]
        refine reg_tk (v := ?_) 1 45 rfl rfl (by kernel_rfl) (by kernel_rfl) (by kernel_rfl) (fun _ _ _ h => h) (by rfl) ?_ (by assumption) ?_
        rotate_left
        · (intro w hSw; (try dsimp only at hSw); go_simp; (try with_reducible rfl))
        simp only [List.setIfInBounds_toArray, List.set_cons_zero, List.set_cons_succ]
        refine reg_tk (v := ?_) 2 46 rfl rfl (by kernel_rfl) (by kernel_rfl) (by kernel_rfl) (fun _ _ _ h => h) (by rfl) ?_ (by assumption) ?_
        rotate_left
        · (intro w hSw; (try dsimp only at hSw); go_simp; (try with_reducible rfl))
        simp only [List.setIfInBounds_toArray, List.set_cons_zero, List.set_cons_succ]
        refine reg_tk (v := .pointer (some ⟨b, off + k, none⟩)) 3 47 rfl rfl (by kernel_rfl) (by kernel_rfl) (by kernel_rfl) (fun _ _ _ h => h) (by rfl) (fun w3 hS => by skip; go_simp) (by assumption) ?_
        simp only [List.setIfInBounds_toArray, List.set_cons_zero, List.set_cons_succ]
        refine reg_tk (v := .int .i64 z) 4 48 rfl rfl (by kernel_rfl) (by kernel_rfl) (by kernel_rfl) (fun _ _ _ h => h) (by rfl) (fun w3 hS => by have j0 := cell_later hS hcx; go_simp) (by assumption) ?_
        simp only [List.setIfInBounds_toArray, List.set_cons_zero, List.set_cons_succ]
        have hB0 : Below wr.heap.size wr wr.drew := (Below.refl _ wr).drew
        refine wpAnyH_ready (rs := [5, 6]) (by kernel_rfl) (by simp) ?_
        refine AllReadyH.cons rfl (fun K hK => ?_) (AllReadyH.cons rfl (fun K hK => ?_) AllReadyH.nil)
        · go_simp
          refine (HMD.out _ hB0).mono ?_
          rintro e v1 ⟨rfl, hb1⟩
          have hB1 : Below wr.heap.size wr v1 := Below.next hB0 hb1
          refine hK.out _ _ hB1 (fun hHeld2 => ?_)
          clear hK K hHeld
          have hHeld := hHeld2
          clear hHeld2
          try simp only [Act.put, List.setIfInBounds_toArray, List.set_cons_zero, List.set_cons_succ]
          refine wpAnyH_ready (rs := [6]) (by kernel_rfl) (by simp) ?_
          refine AllReadyH.cons rfl (fun K hK => ?_) AllReadyH.nil
          go_simp
          refine hK.out _ _ (Below.al hB1 _) (fun hHeld2 => ?_)
          clear hK K hHeld
          have hHeld := hHeld2
          clear hHeld2
          try simp only [Act.put, List.setIfInBounds_toArray, List.set_cons_zero, List.set_cons_succ]
          refine wpAnyH_ready (rs := [7]) (by kernel_rfl) (by simp) ?_
          refine AllReadyH.cons rfl (fun K hK => ?_) AllReadyH.nil
          go_simp
          obtain ⟨W3, hW3⟩ : ∃ V : World, V = World.alloc v1 (.cells #[.int .i64 mk, .int .i64 mn, .int .i64 mo, .int .i64 mi] 40) := ⟨_, rfl⟩
          have b3 : BoxN W3 (v1.heap.size) 40 #[.int .i64 mk, .int .i64 mn, .int .i64 mo, .int .i64 mi] := by rw [hW3]; exact BoxN.new _ _ _
          have hb3 : Below (World.heap v1).size v1 W3 := by rw [hW3]; exact (by repeat (first | assumption | exact Below.refl _ _ | apply Below.al | apply below_drewN | apply Below.drew | refine Below.next ?_ (by assumption)))
          have hB3 := Below.next hB1 hb3
          have hz3 := (hB1).size
          rw [← hW3]
          refine hK.out _ _ hB3 (fun hHeld2 => ?_)
          clear hK K hHeld
          have hHeld := hHeld2
          clear hHeld2
          try simp only [Act.put, List.setIfInBounds_toArray, List.set_cons_zero, List.set_cons_succ]
          refine wpAnyH_done (by kernel_rfl) ?_ _
          refine NoPanic.normal ?_
          clear hHeld hW3 hb3
          go_wp2_with fail
          go_meet
          exact ⟨_, rfl, b3, hB3⟩
        · go_simp
          have hal := Below.al hB0 (.cells #[.int .i64 0, .int .i64 0, .int .i64 0, .int .i64 0] 40)
          refine hK.out _ _ hal (fun hHeld2 => ?_)
          clear hK K hHeld
          have hHeld := hHeld2
          clear hHeld2
          try simp only [Act.put, List.setIfInBounds_toArray, List.set_cons_zero, List.set_cons_succ]
          have bzA : BoxN (World.alloc wr.drew (.cells #[.int .i64 0, .int .i64 0, .int .i64 0, .int .i64 0] 40)) (wr.heap.size) 40 #[.int .i64 0, .int .i64 0, .int .i64 0, .int .i64 0] := BoxN.new _ _ _
          have hza : wr.heap.size ≤ wr.heap.size := (hB0).size
          refine wpAnyH_ready (rs := [5]) (by kernel_rfl) (by simp) ?_
          refine AllReadyH.cons rfl (fun K hK => ?_) AllReadyH.nil
          go_simp
          refine (HMD.out _ hal).mono ?_
          rintro e v1 ⟨rfl, hb1⟩
          have hB1 : Below wr.heap.size wr v1 := Below.next hal hb1
          have bz1 : BoxN v1 (wr.heap.size) 40 #[.int .i64 0, .int .i64 0, .int .i64 0, .int .i64 0] := bzA.below hb1
          refine hK.out _ _ hB1 (fun hHeld2 => ?_)
          clear hK K hHeld
          have hHeld := hHeld2
          clear hHeld2
          try simp only [Act.put, List.setIfInBounds_toArray, List.set_cons_zero, List.set_cons_succ]
          have t0 : World.cell? v1 ⟨wr.heap.size, 0, none⟩ = some (.int .i64 0) := bz1.cell 0
          have y0 := bz1.frozen 0
          have t1 : World.cell? v1 ⟨wr.heap.size, 1, none⟩ = some (.int .i64 0) := bz1.cell 1
          have y1 := bz1.frozen 1
          have t2 : World.cell? v1 ⟨wr.heap.size, 2, none⟩ = some (.int .i64 0) := bz1.cell 2
          have y2 := bz1.frozen 2
          have t3 : World.cell? v1 ⟨wr.heap.size, 3, none⟩ = some (.int .i64 0) := bz1.cell 3
          have y3 := bz1.frozen 3
          refine wpAnyH_ready (rs := [7]) (by kernel_rfl) (by simp) ?_
          refine AllReadyH.cons rfl (fun K hK => ?_) AllReadyH.nil
          go_simp
          obtain ⟨W3, hW3⟩ : ∃ V : World, V = (((World.setCell v1 ⟨wr.heap.size, 0, none⟩ (.int .i64 mk)).setCell ⟨wr.heap.size, 1, none⟩ (.int .i64 mn)).setCell ⟨wr.heap.size, 2, none⟩ (.int .i64 mo)).setCell ⟨wr.heap.size, 3, none⟩ (.int .i64 mi) := ⟨_, rfl⟩
          have b3 : BoxN W3 (wr.heap.size) 40 #[.int .i64 mk, .int .i64 mn, .int .i64 mo, .int .i64 mi] := by rw [hW3]; exact ((((bz1).setc 0 _).setc 1 _).setc 2 _).setc 3 _
          have hB3 : Below wr.heap.size wr W3 := by rw [hW3]; exact (((hB1.setCell (p := ⟨wr.heap.size, 0, none⟩) hza _).setCell (p := ⟨wr.heap.size, 1, none⟩) hza _).setCell (p := ⟨wr.heap.size, 2, none⟩) hza _).setCell (p := ⟨wr.heap.size, 3, none⟩) hza _
          rw [← hW3]
          refine hK.out _ _ hB3 (fun hHeld2 => ?_)
          clear hK K hHeld
          have hHeld := hHeld2
          clear hHeld2
          try simp only [Act.put, List.setIfInBounds_toArray, List.set_cons_zero, List.set_cons_succ]
          refine wpAnyH_done (by kernel_rfl) ?_ _
          refine NoPanic.normal ?_
          clear hHeld hW3 t0 y0 t1 y1 t2 y2 t3 y3
          go_wp2_with fail
          go_meet
          exact ⟨_, rfl, b3, hB3⟩
      case rest =>
        clear HMD HM
        obtain ⟨pm, rfl, bm, hbx9⟩ := hcut
        rename World => wx
        have HIN9 := Lib.hid (HIN.out.keep hbx9)
        have HB9 := Lib.hid (Below.next HB.out hbx9)
        have hsz9 := hbx9.size
        have x0 := cell_later hbx9 x0
        have x1 := cell_later hbx9 x1
        have x2 := cell_later hbx9 x2
        have m0 : wx.cell? ⟨pm, 0, none⟩ = some (.int .i64 mk) := bm.cell 0
        have m1 : wx.cell? ⟨pm, 1, none⟩ = some (.int .i64 mn) := bm.cell 1
        have m2 : wx.cell? ⟨pm, 2, none⟩ = some (.int .i64 mo) := bm.cell 2
        have m3 : wx.cell? ⟨pm, 3, none⟩ = some (.int .i64 mi) := bm.cell 3
        have hpl9 : p6 < wx.heap.size := by omega
        have HBM := Lib.hid bm
        have hsml := HTG.out.sml HOK.out (by omega)
        have HOWN : Hid (∀ w', Below wx.heap.size wx w' → Calls Try.prog 14 #[X.v a c fa fc q] w' fun e w'' => ∃ u, e = .returned u ∧ RdF w'' w'.heap.size u X ∧ Below w'.heap.size w' w'') := Lib.hid (fun w' hb => lown_any w' (X.v a c fa fc q) X hsml (HIN9.out.keep hb).rdw)
        have HST : Hid (∀ w' (ao : Option Addr) (co : Nat) (fao : Option Addr) (fco : Nat) (qo : List Cq), PtW w' (.slice ao qo.length co) (.slice fao X.fr.length fco) qo X → Calls Try.prog 21 #[X.v ao co fao fco qo, .agg #[.int .i64 mk, .int .i64 mn, .int .i64 mo, .int .i64 mi]] w' (MvR w' XE er)) := Lib.hid (fun w' ao co fao fco qo hp => by
          have e := step_any w' (X.v ao co fao fco qo) X ⟨mk, mn, mo, mi⟩ hsml ⟨_, _, _, rfl, hp⟩
          rw [HER.out, HXE.out] at e
          exact e)
        clear hbx9 bm hcx hsml HIN HB
        go_upto_region 9 with fail
        go_cut [10, 11] (fun s9 s10 wy => ∃ (p9 : Nat) (a' : Option Addr) (c' : Nat) (fa' : Option Addr) (fc' : Nat) (q' : List Cq), s9 = ptr p9 ∧ s10 = .int .i64 er ∧ BoxN wy p9 25 #[.int .i64 XE.ds, .slice a' q'.length c', .slice fa' XE.fr.length fc'] ∧ PtF wy wx.heap.size (.slice a' q'.length c') (.slice fa' XE.fr.length fc') q' XE ∧ Below wx.heap.size wx wy)
        case first =>
          as_aux_lemma =>
          refine wp_region_noPanic ?_
          refine wp_region_held_drew (S := (fun w' => Below wx.heap.size wx w')) (by kernel_rfl) ((Below.refl _ wx).drew) (fun hHeld => ?_)
          refine reg_tk (v := X.v a c fa fc q) 0 51 rfl rfl (by kernel_rfl) (by kernel_rfl) (by kernel_rfl) (fun _ _ _ h => h) (by rfl) (fun w3 hS => by (have j0 := cell_later hS x0; have j1 := cell_later hS x1; have j2 := cell_later hS x2); go_simp) (by assumption) ?_
          simp only [List.setIfInBounds_toArray, List.set_cons_zero, List.set_cons_succ]
          refine reg_tk (v := .agg #[.int .i64 mk, .int .i64 mn, .int .i64 mo, .int .i64 mi]) 2 53 rfl rfl (by kernel_rfl) (by kernel_rfl) (by kernel_rfl) (fun _ _ _ h => h) (by rfl) (fun w3 hS => by (have j0 := cell_later hS m0; have j1 := cell_later hS m1; have j2 := cell_later hS m2; have j3 := cell_later hS m3); go_simp) (by assumption) ?_
          simp only [List.setIfInBounds_toArray, List.set_cons_zero, List.set_cons_succ]
          have hB0 : Below wx.heap.size wx wx.drew := (Below.refl _ wx).drew
          refine wpAnyH_ready (rs := [1, 7]) (by kernel_rfl) (by simp) ?_
          refine AllReadyH.cons rfl (fun K hK => ?_) (AllReadyH.cons rfl (fun K hK => ?_) AllReadyH.nil)
          · go_simp
            refine (HOWN.out _ hB0).mono ?_
            rintro e v1 ⟨uo, rfl, huo, hb1⟩
            obtain ⟨cvo, fvo, qo, rfl, hpo0⟩ := huo
            have hpo := hpo0.pt
            clear hpo0
            obtain ⟨ao, co, rfl⟩ := hpo.rows.form
            obtain ⟨fao, fco, rfl⟩ := hpo.frs.form
            have hB1 : Below wx.heap.size wx v1 := Below.next hB0 hb1
            refine hK.out _ _ hB1 (fun hHeld2 => ?_)
            clear hK K hHeld
            have hHeld := hHeld2
            clear hHeld2
            try simp only [Act.put, List.setIfInBounds_toArray, List.set_cons_zero, List.set_cons_succ]
            refine wpAnyH_ready (rs := [3, 7]) (by kernel_rfl) (by simp) ?_
            refine AllReadyH.cons rfl (fun K hK => ?_) (AllReadyH.cons rfl (fun K hK => ?_) AllReadyH.nil)
            · have hle := (hB1).size
              go_simp
              refine (HST.out _ ao co fao fco qo hpo).mono ?_
              rintro e v2 ⟨u, rfl, hb2, hu⟩
              obtain ⟨cv2, fv2, q2, rfl, hpt⟩ := hu
              obtain ⟨a2, c2, rfl⟩ := hpt.pt.rows.form
              obtain ⟨fa2, fc2, rfl⟩ := hpt.pt.frs.form
              have hB2 : Below wx.heap.size wx v2 := Below.next hB1 hb2
              refine hK.out _ _ hB2 (fun hHeld2 => ?_)
              clear hK K hHeld
              have hHeld := hHeld2
              clear hHeld2
              try simp only [Act.put, List.setIfInBounds_toArray, List.set_cons_zero, List.set_cons_succ]
              refine reg_tk (v := ?_) 4 50 rfl rfl (by kernel_rfl) (by kernel_rfl) (by kernel_rfl) (fun _ _ _ h => h) (by rfl) ?_ (by assumption) ?_
              rotate_left
              · (intro w hSw; (try dsimp only at hSw); go_simp; (try with_reducible rfl))
              simp only [List.setIfInBounds_toArray, List.set_cons_zero, List.set_cons_succ]
              refine reg_tk (v := ?_) 5 55 rfl rfl (by kernel_rfl) (by kernel_rfl) (by kernel_rfl) (fun _ _ _ h => h) (by rfl) ?_ (by assumption) ?_
              rotate_left
              · (intro w hSw; (try dsimp only at hSw); go_simp; (try with_reducible rfl))
              simp only [List.setIfInBounds_toArray, List.set_cons_zero, List.set_cons_succ]
              refine reg_tk (v := ?_) 6 56 rfl rfl (by kernel_rfl) (by kernel_rfl) (by kernel_rfl) (fun _ _ _ h => h) (by rfl) ?_ (by assumption) ?_
              rotate_left
              · (intro w hSw; (try dsimp only at hSw); go_simp; (try with_reducible rfl))
              simp only [List.setIfInBounds_toArray, List.set_cons_zero, List.set_cons_succ]
              refine wpAnyH_ready (rs := [7]) (by kernel_rfl) (by simp) ?_
              refine AllReadyH.cons rfl (fun K hK => ?_) AllReadyH.nil
              go_simp
              refine hK.out _ _ (Below.al hB2 _) (fun hHeld2 => ?_)
              clear hK K hHeld
              have hHeld := hHeld2
              clear hHeld2
              try simp only [Act.put, List.setIfInBounds_toArray, List.set_cons_zero, List.set_cons_succ]
              refine wpAnyH_ready (rs := [8]) (by kernel_rfl) (by simp) ?_
              refine AllReadyH.cons rfl (fun K hK => ?_) AllReadyH.nil
              go_simp
              obtain ⟨W3, hW3⟩ : ∃ V : World, V = World.alloc v2 (.cells #[.int .i64 XE.ds, .slice a2 q2.length c2, .slice fa2 XE.fr.length fc2] 25) := ⟨_, rfl⟩
              have b3 : BoxN W3 (v2.heap.size) 25 #[.int .i64 XE.ds, .slice a2 q2.length c2, .slice fa2 XE.fr.length fc2] := by rw [hW3]; exact BoxN.new _ _ _
              have hb3 : Below (World.heap v2).size v2 W3 := by rw [hW3]; exact (by repeat (first | assumption | exact Below.refl _ _ | apply Below.al | apply below_drewN | apply Below.drew | refine Below.next ?_ (by assumption)))
              have hB3 := Below.next hB2 hb3
              have hz3 := (hB2).size
              have hp3 : PtF W3 wx.heap.size (.slice a2 q2.length c2) (.slice fa2 XE.fr.length fc2) q2 XE := (hpt.keep hb3).mono hle
              rw [← hW3]
              refine hK.out _ _ hB3 (fun hHeld2 => ?_)
              clear hK K hHeld
              have hHeld := hHeld2
              clear hHeld2
              try simp only [Act.put, List.setIfInBounds_toArray, List.set_cons_zero, List.set_cons_succ]
              refine reg_tk (v := ?_) 9 11 rfl rfl (by kernel_rfl) (by kernel_rfl) (by kernel_rfl) (fun _ _ _ h => h) (by rfl) ?_ (by assumption) ?_
              rotate_left
              · (intro w hSw; (try dsimp only at hSw); go_simp; (try with_reducible rfl))
              simp only [List.setIfInBounds_toArray, List.set_cons_zero, List.set_cons_succ]
              refine wpAnyH_done (by kernel_rfl) ?_ _
              refine NoPanic.normal ?_
              clear hHeld hW3 hb3
              go_wp2_with fail
              go_meet
              exact ⟨_, _, _, _, _, _, rfl, rfl, b3, hp3, hB3⟩
            · go_simp
              have hal := Below.al hB1 (.cells #[.int .i64 0, .slice none 0 0, .slice none 0 0] 25)
              replace hpo := hpo.keep (Below.al (Below.refl _ _) (.cells #[.int .i64 0, .slice none 0 0, .slice none 0 0] 25))
              refine hK.out _ _ hal (fun hHeld2 => ?_)
              clear hK K hHeld
              have hHeld := hHeld2
              clear hHeld2
              try simp only [Act.put, List.setIfInBounds_toArray, List.set_cons_zero, List.set_cons_succ]
              have bzA : BoxN (World.alloc v1 (.cells #[.int .i64 0, .slice none 0 0, .slice none 0 0] 25)) (v1.heap.size) 25 #[.int .i64 0, .slice none 0 0, .slice none 0 0] := BoxN.new _ _ _
              have hza : wx.heap.size ≤ v1.heap.size := (hB1).size
              refine wpAnyH_ready (rs := [3]) (by kernel_rfl) (by simp) ?_
              refine AllReadyH.cons rfl (fun K hK => ?_) AllReadyH.nil
              have hle := (hal).size
              have hzl := bzA.lt
              go_simp
              refine (HST.out _ ao co fao fco qo hpo).mono ?_
              rintro e v2 ⟨u, rfl, hb2, hu⟩
              obtain ⟨cv2, fv2, q2, rfl, hpt⟩ := hu
              obtain ⟨a2, c2, rfl⟩ := hpt.pt.rows.form
              obtain ⟨fa2, fc2, rfl⟩ := hpt.pt.frs.form
              have hB2 : Below wx.heap.size wx v2 := Below.next hal hb2
              have bz2 : BoxN v2 (v1.heap.size) 25 #[.int .i64 0, .slice none 0 0, .slice none 0 0] := bzA.below hb2
              refine hK.out _ _ hB2 (fun hHeld2 => ?_)
              clear hK K hHeld
              have hHeld := hHeld2
              clear hHeld2
              try simp only [Act.put, List.setIfInBounds_toArray, List.set_cons_zero, List.set_cons_succ]
              refine reg_tk (v := ?_) 4 50 rfl rfl (by kernel_rfl) (by kernel_rfl) (by kernel_rfl) (fun _ _ _ h => h) (by rfl) ?_ (by assumption) ?_
              rotate_left
              · (intro w hSw; (try dsimp only at hSw); go_simp; (try with_reducible rfl))
              simp only [List.setIfInBounds_toArray, List.set_cons_zero, List.set_cons_succ]
              refine reg_tk (v := ?_) 5 55 rfl rfl (by kernel_rfl) (by kernel_rfl) (by kernel_rfl) (fun _ _ _ h => h) (by rfl) ?_ (by assumption) ?_
              rotate_left
              · (intro w hSw; (try dsimp only at hSw); go_simp; (try with_reducible rfl))
              simp only [List.setIfInBounds_toArray, List.set_cons_zero, List.set_cons_succ]
              refine reg_tk (v := ?_) 6 56 rfl rfl (by kernel_rfl) (by kernel_rfl) (by kernel_rfl) (fun _ _ _ h => h) (by rfl) ?_ (by assumption) ?_
              rotate_left
              · (intro w hSw; (try dsimp only at hSw); go_simp; (try with_reducible rfl))
              simp only [List.setIfInBounds_toArray, List.set_cons_zero, List.set_cons_succ]
              have t0 : World.cell? v2 ⟨v1.heap.size, 0, none⟩ = some (.int .i64 0) := bz2.cell 0
              have y0 := bz2.frozen 0
              have t1 : World.cell? v2 ⟨v1.heap.size, 1, none⟩ = some (.slice none 0 0) := bz2.cell 1
              have y1 := bz2.frozen 1
              have t2 : World.cell? v2 ⟨v1.heap.size, 2, none⟩ = some (.slice none 0 0) := bz2.cell 2
              have y2 := bz2.frozen 2
              refine wpAnyH_ready (rs := [8]) (by kernel_rfl) (by simp) ?_
              refine AllReadyH.cons rfl (fun K hK => ?_) AllReadyH.nil
              go_simp
              obtain ⟨W3, hW3⟩ : ∃ V : World, V = ((World.setCell v2 ⟨v1.heap.size, 0, none⟩ (.int .i64 XE.ds)).setCell ⟨v1.heap.size, 1, none⟩ (.slice a2 q2.length c2)).setCell ⟨v1.heap.size, 2, none⟩ (.slice fa2 XE.fr.length fc2) := ⟨_, rfl⟩
              have b3 : BoxN W3 (v1.heap.size) 25 #[.int .i64 XE.ds, .slice a2 q2.length c2, .slice fa2 XE.fr.length fc2] := by rw [hW3]; exact (((bz2).setc 0 _).setc 1 _).setc 2 _
              have hB3 : Below wx.heap.size wx W3 := by rw [hW3]; exact ((hB2.setCell (p := ⟨v1.heap.size, 0, none⟩) hza _).setCell (p := ⟨v1.heap.size, 1, none⟩) hza _).setCell (p := ⟨v1.heap.size, 2, none⟩) hza _
              have hp3 : PtF W3 wx.heap.size (.slice a2 q2.length c2) (.slice fa2 XE.fr.length fc2) q2 XE := by rw [hW3]; exact (((hpt.set (p := ⟨v1.heap.size, 0, none⟩) _ hzl).set (p := ⟨v1.heap.size, 1, none⟩) _ hzl).set (p := ⟨v1.heap.size, 2, none⟩) _ hzl).mono hle
              rw [← hW3]
              refine hK.out _ _ hB3 (fun hHeld2 => ?_)
              clear hK K hHeld
              have hHeld := hHeld2
              clear hHeld2
              try simp only [Act.put, List.setIfInBounds_toArray, List.set_cons_zero, List.set_cons_succ]
              refine reg_tk (v := ?_) 9 11 rfl rfl (by kernel_rfl) (by kernel_rfl) (by kernel_rfl) (fun _ _ _ h => h) (by rfl) ?_ (by assumption) ?_
              rotate_left
              · (intro w hSw; (try dsimp only at hSw); go_simp; (try with_reducible rfl))
              simp only [List.setIfInBounds_toArray, List.set_cons_zero, List.set_cons_succ]
              refine wpAnyH_done (by kernel_rfl) ?_ _
              refine NoPanic.normal ?_
              clear hHeld hW3 t0 y0 t1 y1 t2 y2
              go_wp2_with fail
              go_meet
              exact ⟨_, _, _, _, _, _, rfl, rfl, b3, hp3, hB3⟩
          · go_simp
            have hal := Below.al hB0 (.cells #[.int .i64 0, .slice none 0 0, .slice none 0 0] 25)
            refine hK.out _ _ hal (fun hHeld2 => ?_)
            clear hK K hHeld
            have hHeld := hHeld2
            clear hHeld2
            try simp only [Act.put, List.setIfInBounds_toArray, List.set_cons_zero, List.set_cons_succ]
            have bzA : BoxN (World.alloc wx.drew (.cells #[.int .i64 0, .slice none 0 0, .slice none 0 0] 25)) (wx.heap.size) 25 #[.int .i64 0, .slice none 0 0, .slice none 0 0] := BoxN.new _ _ _
            have hza : wx.heap.size ≤ wx.heap.size := (hB0).size
            refine wpAnyH_ready (rs := [1]) (by kernel_rfl) (by simp) ?_
            refine AllReadyH.cons rfl (fun K hK => ?_) AllReadyH.nil
            go_simp
            refine (HOWN.out _ hal).mono ?_
            rintro e v1 ⟨uo, rfl, huo, hb1⟩
            obtain ⟨cvo, fvo, qo, rfl, hpo0⟩ := huo
            have hpo := hpo0.pt
            clear hpo0
            obtain ⟨ao, co, rfl⟩ := hpo.rows.form
            obtain ⟨fao, fco, rfl⟩ := hpo.frs.form
            have hB1 : Below wx.heap.size wx v1 := Below.next hal hb1
            have bz1 : BoxN v1 (wx.heap.size) 25 #[.int .i64 0, .slice none 0 0, .slice none 0 0] := bzA.below hb1
            refine hK.out _ _ hB1 (fun hHeld2 => ?_)
            clear hK K hHeld
            have hHeld := hHeld2
            clear hHeld2
            try simp only [Act.put, List.setIfInBounds_toArray, List.set_cons_zero, List.set_cons_succ]
            refine wpAnyH_ready (rs := [3]) (by kernel_rfl) (by simp) ?_
            refine AllReadyH.cons rfl (fun K hK => ?_) AllReadyH.nil
            have hle := (hB1).size
            have hzl := bz1.lt
            go_simp
            refine (HST.out _ ao co fao fco qo hpo).mono ?_
            rintro e v2 ⟨u, rfl, hb2, hu⟩
            obtain ⟨cv2, fv2, q2, rfl, hpt⟩ := hu
            obtain ⟨a2, c2, rfl⟩ := hpt.pt.rows.form
            obtain ⟨fa2, fc2, rfl⟩ := hpt.pt.frs.form
            have hB2 : Below wx.heap.size wx v2 := Below.next hB1 hb2
            have bz2 : BoxN v2 (wx.heap.size) 25 #[.int .i64 0, .slice none 0 0, .slice none 0 0] := bz1.below hb2
            refine hK.out _ _ hB2 (fun hHeld2 => ?_)
            clear hK K hHeld
            have hHeld := hHeld2
            clear hHeld2
            try simp only [Act.put, List.setIfInBounds_toArray, List.set_cons_zero, List.set_cons_succ]
            refine reg_tk (v := ?_) 4 50 rfl rfl (by kernel_rfl) (by kernel_rfl) (by kernel_rfl) (fun _ _ _ h => h) (by rfl) ?_ (by assumption) ?_
            rotate_left
            · (intro w hSw; (try dsimp only at hSw); go_simp; (try with_reducible rfl))
            simp only [List.setIfInBounds_toArray, List.set_cons_zero, List.set_cons_succ]
            refine reg_tk (v := ?_) 5 55 rfl rfl (by kernel_rfl) (by kernel_rfl) (by kernel_rfl) (fun _ _ _ h => h) (by rfl) ?_ (by assumption) ?_
            rotate_left
            · (intro w hSw; (try dsimp only at hSw); go_simp; (try with_reducible rfl))
            simp only [List.setIfInBounds_toArray, List.set_cons_zero, List.set_cons_succ]
            refine reg_tk (v := ?_) 6 56 rfl rfl (by kernel_rfl) (by kernel_rfl) (by kernel_rfl) (fun _ _ _ h => h) (by rfl) ?_ (by assumption) ?_
            rotate_left
            · (intro w hSw; (try dsimp only at hSw); go_simp; (try with_reducible rfl))
            simp only [List.setIfInBounds_toArray, List.set_cons_zero, List.set_cons_succ]
            have t0 : World.cell? v2 ⟨wx.heap.size, 0, none⟩ = some (.int .i64 0) := bz2.cell 0
            have y0 := bz2.frozen 0
            have t1 : World.cell? v2 ⟨wx.heap.size, 1, none⟩ = some (.slice none 0 0) := bz2.cell 1
            have y1 := bz2.frozen 1
            have t2 : World.cell? v2 ⟨wx.heap.size, 2, none⟩ = some (.slice none 0 0) := bz2.cell 2
            have y2 := bz2.frozen 2
            refine wpAnyH_ready (rs := [8]) (by kernel_rfl) (by simp) ?_
            refine AllReadyH.cons rfl (fun K hK => ?_) AllReadyH.nil
            go_simp
            obtain ⟨W3, hW3⟩ : ∃ V : World, V = ((World.setCell v2 ⟨wx.heap.size, 0, none⟩ (.int .i64 XE.ds)).setCell ⟨wx.heap.size, 1, none⟩ (.slice a2 q2.length c2)).setCell ⟨wx.heap.size, 2, none⟩ (.slice fa2 XE.fr.length fc2) := ⟨_, rfl⟩
            have b3 : BoxN W3 (wx.heap.size) 25 #[.int .i64 XE.ds, .slice a2 q2.length c2, .slice fa2 XE.fr.length fc2] := by rw [hW3]; exact (((bz2).setc 0 _).setc 1 _).setc 2 _
            have hB3 : Below wx.heap.size wx W3 := by rw [hW3]; exact ((hB2.setCell (p := ⟨wx.heap.size, 0, none⟩) hza _).setCell (p := ⟨wx.heap.size, 1, none⟩) hza _).setCell (p := ⟨wx.heap.size, 2, none⟩) hza _
            have hp3 : PtF W3 wx.heap.size (.slice a2 q2.length c2) (.slice fa2 XE.fr.length fc2) q2 XE := by rw [hW3]; exact (((hpt.set (p := ⟨wx.heap.size, 0, none⟩) _ hzl).set (p := ⟨wx.heap.size, 1, none⟩) _ hzl).set (p := ⟨wx.heap.size, 2, none⟩) _ hzl).mono hle
            rw [← hW3]
            refine hK.out _ _ hB3 (fun hHeld2 => ?_)
            clear hK K hHeld
            have hHeld := hHeld2
            clear hHeld2
            try simp only [Act.put, List.setIfInBounds_toArray, List.set_cons_zero, List.set_cons_succ]
            refine reg_tk (v := ?_) 9 11 rfl rfl (by kernel_rfl) (by kernel_rfl) (by kernel_rfl) (fun _ _ _ h => h) (by rfl) ?_ (by assumption) ?_
            rotate_left
            · (intro w hSw; (try dsimp only at hSw); go_simp; (try with_reducible rfl))
            simp only [List.setIfInBounds_toArray, List.set_cons_zero, List.set_cons_succ]
            refine wpAnyH_done (by kernel_rfl) ?_ _
            refine NoPanic.normal ?_
            clear hHeld hW3 t0 y0 t1 y1 t2 y2
            go_wp2_with fail
            go_meet
            exact ⟨_, _, _, _, _, _, rfl, rfl, b3, hp3, hB3⟩
        case rest =>
          clear HOWN HST x0 x1 x2 m0 m1 m2 m3
          obtain ⟨p9, a9, c9, fa9, fc9, q9, rfl, rfl, b9, r9, hb9⟩ := hcut
          rename World => wy
          replace HIN9 := Lib.hid (HIN9.out.keep hb9)
          replace HB9 := Lib.hid (Below.next HB9.out hb9)
          replace HBM := Lib.hid (HBM.out.below hb9)
          have hsy := hb9.size
          have HB99 := Lib.hid b9
          have HR9 := Lib.hid (r9.mono (show p6 + 1 ≤ wx.heap.size from hpl9))
          clear b9 r9 hb9
          by_cases he : er = 0
          · have e1 : (er != 0) = false := by simp [he]
            subst he
            have hxe : XE = mvW false X ⟨mk, mn, mo, mi⟩ := by rw [← HXE.out]; unfold stpW; rw [if_pos HER.out]
            have hokE : Okw XE := by rw [hxe]; exact okw_mv HER.out
            have hhdE : Had XE := by rw [hxe]; exact had_mv HER.out HSF.out
            have hlE : XE.cs.length = N := by rw [hxe, ← HLEN.out]; unfold mvW pasW rstW; repeat' split
                                              all_goals simp [setC, outF]
            have htE : TgB (k + 1) XE := by rw [hxe]; exact HTG.out.mv _ _
            have hq1 : q.length = N := by rw [HIN9.out.rd.len]; exact HLEN.out
            have hq2 : q9.length = N := by rw [HR9.out.pt.len]; exact hlE
            have x0 : wy.cell? ⟨p6, 0, none⟩ = some (.int .i64 X.ds) := HIN9.out.box.cell 0
            have x1 : wy.cell? ⟨p6, 1, none⟩ = some (.slice a N c) := by rw [← hq1]; exact HIN9.out.box.cell 1
            obtain ⟨F, hF⟩ : ∃ F, X.fr.length = F := ⟨_, rfl⟩
            have x2 : wy.cell? ⟨p6, 2, none⟩ = some (.slice fa F fc) := by rw [← hF]; exact HIN9.out.box.cell 2
            have y0 : wy.cell? ⟨p9, 0, none⟩ = some (.int .i64 XE.ds) := HB99.out.cell 0
            have y1 : wy.cell? ⟨p9, 1, none⟩ = some (.slice a9 N c9) := by rw [← hq2]; exact HB99.out.cell 1
            have y2 : wy.cell? ⟨p9, 2, none⟩ = some (.slice fa9 XE.fr.length fc9) := HB99.out.cell 2
            have m0 : wy.cell? ⟨pm, 0, none⟩ = some (.int .i64 mk) := HBM.out.cell 0
            have m3 : wy.cell? ⟨pm, 3, none⟩ = some (.int .i64 mi) := HBM.out.cell 3
            have hrx : RdL cpR wy (.slice a N c) q := by rw [← hq1]; exact HIN9.out.rd.rows
            have hrf : RdP wy (.slice fa F fc) X.fr := by rw [← hF]; exact HIN9.out.rd.frs
            have hry : RdL cpR wy (.slice a9 N c9) q9 := by rw [← hq2]; exact HR9.out.pt.rows
            have HRX := Lib.hid hrx
            have HRF := Lib.hid hrf
            have HRY := Lib.hid hry
            have HQ1 := Lib.hid hq1
            have HQ2 := Lib.hid hq2
            have HFF := Lib.hid hF
            have HXEE := Lib.hid hxe
            have HOKE := Lib.hid hokE
            have HHDE := Lib.hid hhdE
            have HLE := Lib.hid hlE
            have HTE := Lib.hid htE
            have hFs : F ≤ 64 := by rw [← hF]; exact okw_len HOK.out
            have hnn : ((N : Int) != (N : Int)) = false := by simp
            clear hxe hokE hhdE hlE htE hq1 hq2 hF hrx hrf hry
            go_wp2_with fail
            go_loopw [12] (fun i wr => ∃ j : Nat, j ≤ N ∧ i = .int .i64 j ∧ Below wy.heap.size wy wr) (fun i _ => N - (intOf i).toNat)
            case atStart => exact ⟨0, Nat.zero_le _, rfl, Below.refl _ _⟩
            case round =>
              obtain ⟨j, hj, rfl, hbj⟩ := hrel
              by_cases hjl : j < N
              · have d3 : decide ((j : Int) < (N : Int)) = true := yb (by omega)
                have n1 : (0 : Int) ≤ (j : Int) := by omega
                have n2 : (j : Int) < (N : Int) := by omega
                have hwj : IntKind.i64.wrap ((j : Int) + 1) = (j : Int) + 1 := IntWalk.i64_in _ (by omega)
                have hwj0 : IntKind.i64.wrap (j : Int) = (j : Int) := IntWalk.i64_in _ (by omega)
                obtain ⟨e1, e2, rfl, _, g0, _⟩ := RdC.at (HRX.out.keep hbj) HQ1.out j hjl
                obtain ⟨e3, e4, rfl, _, h0, _⟩ := RdC.at (HRY.out.keep hbj) HQ2.out j hjl
                have hsx := (HIN9.out.rd.cop j).st
                have hsy2 := (HR9.out.pt.cop j).st
                obtain ⟨s, HS⟩ : ∃ s, Hid ((gq q j).st = s) := ⟨_, Lib.hid rfl⟩
                obtain ⟨s', HS'⟩ : ∃ s, Hid ((gq q9 j).st = s) := ⟨_, Lib.hid rfl⟩
                rw [HS.out] at g0 hsx
                rw [HS'.out] at h0 hsy2
                have X1 := cell_later hbj x1
                have Y1 := cell_later hbj y1
                have HSX := Lib.hid hsx
                have HSY := Lib.hid hsy2
                clear hsx hsy2
                by_cases c1 : s = s'
                · have d4 : (s == s') = true := by simp [c1]
                  have HC := Lib.hid c1
                  clear c1
                  go_wp2_with fail
                  go_quiet (fail)
                  go_wp2_with fail
                  go_roundw
                  case rel => exact ⟨j + 1, by omega, by go_num, Below.next hbj (below_drewN (Below.refl _ _) _)⟩
                  case measure => simp [intOf]; omega
                by_cases c2 : s' = 3
                · have hisn : isN X ((j : Int) + 1) := ⟨by omega, by rw [HLEN.out]; omega⟩
                  have ha1 : atC X ((j : Int) + 1) = gc X.cs j := by unfold atC; rw [show ((j : Int) + 1 - 1).toNat = j by omega]
                  have ha2 : atC XE ((j : Int) + 1) = gc XE.cs j := by unfold atC; rw [show ((j : Int) + 1 - 1).toNat = j by omega]
                  have hgl := gone_law (m := ⟨mk, mn, mo, mi⟩) HER.out HSF.out hisn (by rw [← HXEE.out, ha1, ha2, ← HSX.out, ← HSY.out]; exact c1) (by rw [← HXEE.out, ha2, ← HSY.out]; exact c2)
                  obtain ⟨l1, l2, l3, l4, l5, l6, l7, l8⟩ := hgl
                  have l1 : mk = 2 := l1
                  have l2 : 0 ≤ mi := l2
                  rw [HFF.out] at l3
                  have l3 : mi < (F : Int) := l3
                  rw [ha1, ← HSX.out] at l4
                  obtain ⟨i, hi⟩ : ∃ i : Nat, mi = (i : Int) := ⟨mi.toNat, by omega⟩
                  have hit : mi.toNat = i := by omega
                  have l5 : (gp X.fr mi.toNat).kd = 5 := l5
                  have l6 : (gp X.fr mi.toNat).tt = (j : Int) + 1 := l6
                  have l7 : isN X (gp X.fr mi.toNat).fr := l7
                  have l8 : (atC X (gp X.fr mi.toNat).fr).st ≠ 0 := l8
                  rw [hit] at l5 l6 l7 l8
                  obtain ⟨f, HFP⟩ : ∃ f, Hid (gp X.fr i = f) := ⟨_, Lib.hid rfl⟩
                  rw [HFP.out] at l5 l6 l7 l8
                  obtain ⟨r, hrl, hr1, hr2⟩ := atC_get l7
                  rw [hr2] at l8
                  rw [HLEN.out] at hrl
                  obtain ⟨e5, e6, rfl, _, f0, f1, f2, f3⟩ := RdP.at (HRF.out.keep hbj) HFF.out i (by omega)
                  rw [HFP.out] at f0 f1 f2 f3
                  obtain ⟨e7, e8, he7, _, r0, _⟩ := RdC.at (HRX.out.keep hbj) HQ1.out r hrl
                  simp only [Option.some.injEq, Addr.mk.injEq, and_true] at he7
                  obtain ⟨rfl, rfl⟩ := he7
                  have hsr := (HIN9.out.rd.cop r).st
                  rw [hsr] at r0
                  obtain ⟨sr, hsr2⟩ : ∃ sr, (gc X.cs r).st = sr := ⟨_, rfl⟩
                  rw [hsr2] at r0 l8
                  rw [l5] at f0
                  rw [l6] at f2
                  rw [hr1] at f1
                  have X2 := cell_later hbj x2
                  have M0 := cell_later hbj m0
                  have M3 := cell_later hbj m3
                  rw [l1] at M0
                  rw [hi] at M3
                  have o1 : (0 : Int) ≤ (i : Int) := by omega
                  have o2 : (i : Int) < (F : Int) := by omega
                  have o3 : decide ((F : Int) ≤ (i : Int)) = false := nb (by omega)
                  have o4 : (0 : Int) ≤ (r : Int) := by omega
                  have o5 : (r : Int) < (N : Int) := by omega
                  have o6 : IntKind.i64.wrap ((r : Int) + 1 - 1) = (r : Int) := by rw [show (r : Int) + 1 - 1 = (r : Int) by omega]; exact IntWalk.i64_in _ (by omega)
                  have o7 : decide ((r : Int) + 1 < 1) = false := nb (by omega)
                  have o8 : decide ((N : Int) < (r : Int) + 1) = false := nb (by omega)
                  have o9 : (sr == 0) = false := by simp [l8]
                  have o10 : (((j : Int) + 1) != ((j : Int) + 1)) = false := by simp
                  have o11 : IntKind.i64.wrap (r : Int) = (r : Int) := IntWalk.i64_in _ (by omega)
                  have o12 : IntKind.i64.wrap (i : Int) = (i : Int) := IntWalk.i64_in _ (by omega)
                  subst c2
                  have hs2 : s = 2 := l4
                  subst hs2
                  clear c1 ha1 ha2 l1 l2 l3 l4 l5 l6 l7 l8 hi hit hr1 hr2 hsr hsr2 hisn
                  go_wp2_with fail
                  go_quiet (fail)
                  have hdr := below_drewN (Below.refl wr.heap.size wr) nq
                  have X1 := cell_later hdr X1
                  have X2 := cell_later hdr X2
                  have M0 := cell_later hdr M0
                  have M3 := cell_later hdr M3
                  have f0 := cell_later hdr f0
                  have f1 := cell_later hdr f1
                  have f2 := cell_later hdr f2
                  have f3 := cell_later hdr f3
                  have r0 := cell_later hdr r0
                  have hbq := Below.next hbj hdr
                  obtain ⟨wq, hwq⟩ : ∃ V : World, V = wr.drewN nq := ⟨_, rfl⟩
                  rw [← hwq] at X1 X2 M0 M3 f0 f1 f2 f3 r0 hbq ⊢
                  clear hwq hdr g0 h0 hbj
                  obtain ⟨wb, HWB⟩ : ∃ V : World, Hid (V = wq.alloc (.cells #[.int .i64 5, .int .i64 ((r : Int) + 1), .int .i64 ((j : Int) + 1), .int .i64 f.of] 47)) := ⟨_, Lib.hid rfl⟩
                  have hbw : Below wq.heap.size wq wb := by rw [HWB.out]; exact (by repeat (first | assumption | exact Below.refl _ _ | apply Below.al | apply below_drewN | apply Below.drew | refine Below.next ?_ (by assumption)))
                  have hbb : BoxN wb wq.heap.size 47 #[.int .i64 5, .int .i64 ((r : Int) + 1), .int .i64 ((j : Int) + 1), .int .i64 f.of] := by rw [HWB.out]; exact BoxN.new _ _ _
                  go_upto_region 21 with fail
                  rw [← HWB.out]
                  clear HWB
                  have X1 := cell_later hbw X1
                  have r0 := cell_later hbw r0
                  have s0 : wb.cell? ⟨wq.heap.size, 0, none⟩ = some (.int .i64 5) := hbb.cell 0
                  have s1 : wb.cell? ⟨wq.heap.size, 1, none⟩ = some (.int .i64 ((r : Int) + 1)) := hbb.cell 1
                  have s2 : wb.cell? ⟨wq.heap.size, 2, none⟩ = some (.int .i64 ((j : Int) + 1)) := hbb.cell 2
                  have hbz := Below.next hbq hbw
                  clear hbb hbw hbq X2 M0 M3 f0 f1 f2 f3
                  go_wp2_with fail
                  go_roundw
                  case rel => exact ⟨j + 1, by omega, by go_num, hbz⟩
                  case measure => simp [intOf]; omega
                · have d4 : (s == s') = false := by simp [c1]
                  have d5 : (s' != 3) = true := by simp [c2]
                  clear c1 c2
                  go_wp2_with fail
                  go_quiet (fail)
                  go_wp2_with fail
                  go_roundw
                  case rel => exact ⟨j + 1, by omega, by go_num, Below.next hbj (below_drewN (Below.refl _ _) _)⟩
                  case measure => simp [intOf]; omega
              · obtain rfl : j = N := by omega
                have d3 : decide ((j : Int) < (j : Int)) = false := nb (by omega)
                have hin := (HIN9.out.keep hbj).put (HR9.out.keep hbj)
                have Y0 := cell_later hbj y0
                have Y1 := cell_later hbj y1
                have Y2 := cell_later hbj y2
                have X0 := cell_later hbj x0
                have X1 := cell_later hbj x1
                have X2 := cell_later hbj x2
                have z3 := (HIN9.out.keep hbj).box.frozen 0
                have z4 := (HIN9.out.keep hbj).box.frozen 1
                have z5 := (HIN9.out.keep hbj).box.frozen 2
                obtain ⟨W7, HW7⟩ : ∃ W7 : World, Hid (W7 = ((wr.setCell ⟨p6, 0, none⟩ (.int .i64 XE.ds)).setCell ⟨p6, 1, none⟩ (.slice a9 j c9)).setCell ⟨p6, 2, none⟩ (.slice fa9 XE.fr.length fc9)) := ⟨_, Lib.hid rfl⟩
                have hin7 : InB W7 p6 XE a9 c9 fa9 fc9 q9 := by
                  rw [HW7.out]
                  have e := hin
                  rw [HQ2.out] at e
                  exact e
                have HB7 : Hid (Below w.heap.size w W7) := Lib.hid (by
                  rw [HW7.out]
                  exact (((Below.next HB9.out hbj).setCell (p := ⟨p6, 0, none⟩) hwp _).setCell (p := ⟨p6, 1, none⟩) hwp _).setCell (p := ⟨p6, 2, none⟩) hwp _)
                have hp7 := hin7.box.lt
                have HIN7 := Lib.hid hin7
                clear hin hin7
                go_wp2_with fail
                rw [← HW7.out]
                go_roundw
                case rel => exact ⟨k + 1, XE, a9, c9, fa9, fc9, q9, by omega, by omega, by go_num, HIN7.out, HOKE.out, HHDE.out, HLE.out, HTE.out, HB7.out, hp7⟩
                case measure => simp [intOf]; omega
          · have e1 : (er != 0) = true := by simp [he]
            go_wp2_with fail
            go_roundw
            case rel => exact ⟨k + 1, X, a, c, fa, fc, q, by omega, by omega, by go_num, HIN9.out, HOK.out, HSF.out, HLEN.out, fun d hd => ⟨Nat.le_succ_of_le (HTG.out d hd).1, Nat.le_succ_of_le (HTG.out d hd).2⟩, HB9.out, by omega⟩
            case measure => simp [intOf]; omega
    · have HAW := Lib.hid (awake_any wr)
      by_cases hkl : k < L
      · have d1 : decide ((k : Int) < (L : Int)) = true := yb (by omega)
        have d2 : decide ((k : Int) < 60) = false := nb (by omega)
        have d3 : ¬ (k : Int) < 60 := by omega
        clear hlt
        go_wp2_with fail
        refine HAW.out.mono ?_
        rintro e w4 ⟨rfl, hb4⟩
        have hb4 := Below.next HB.out hb4
        go_wp2_with fail
        go_ret
        exact ⟨rfl, hb4⟩
      · have d1 : decide ((k : Int) < (L : Int)) = false := nb (by omega)
        clear hlt
        go_wp2_with fail
        refine HAW.out.mono ?_
        rintro e w4 ⟨rfl, hb4⟩
        have hb4 := Below.next HB.out hb4
        go_wp2_with fail
        go_ret
        exact ⟨rfl, hb4⟩
end Go.Proofs.Ytnkpjfogjkjcfaa
