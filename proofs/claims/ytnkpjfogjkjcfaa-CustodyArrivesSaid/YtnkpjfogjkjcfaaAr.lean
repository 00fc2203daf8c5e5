


/- CustodyArrives: the law's walk. -/
import Derived.Test.YtnkpjfogjkjcfaaLo
import Derived.Test.YtnkpjfogjkjcfaaNe
namespace Go.Proofs.Ytnkpjfogjkjcfaa
open Go.RowKit
set_option linter.unusedSimpArgs false
set_option linter.unusedVariables false
set_option maxRecDepth 100000

theorem mv_ds {r : Bool} {X : Wd} {m : Mv} : (mvW r X m).ds = X.ds := by
  unfold mvW pasW rstW
  repeat' split
  all_goals rfl
set_option maxHeartbeats 2000000 in
theorem larrives_any (w : World) (nn : Int) (v : Value) (xs : List Int) (hn : Ib nn) (hbx : ∀ x ∈ xs, Ib x) (h : RdI .i64 w v xs) :
    Calls Try.prog 8 #[.int .i64 nn, v] w fun e w' => e = .returned (.bool true) ∧ Below w.heap.size w w' := by
  obtain ⟨va, vc, rfl⟩ := h.form
  obtain ⟨L, hL⟩ : ∃ L, xs.length = L := ⟨_, rfl⟩
  rw [hL] at h ⊢
  have hmx : L ≤ 9223372036854775807 := by have := h.2.1; rw [hL] at this; unfold maxLen at this; omega
  have HL := Lib.hid hL
  have HR := Lib.hid h
  have HBX := Lib.hid hbx
  clear hL h hbx
  obtain ⟨z, HZ, z0, z1⟩ : ∃ y, Hid (nn % 5 = y) ∧ 0 ≤ y ∧ y < 5 := ⟨_, rfl, Int.emod_nonneg _ (by omega), Int.emod_lt_of_pos _ (by omega)⟩
  obtain ⟨N, hN, hN1, hN2⟩ : ∃ N : Nat, 2 + z = (N : Int) ∧ 2 ≤ N ∧ N ≤ 6 := ⟨(2 + z).toNat, by omega, by omega, by omega⟩
  obtain ⟨X0, HX0⟩ : ∃ X, Hid (begW (N : Int) (N : Int) 1 = X) := ⟨_, Lib.hid rfl⟩
  have hbe : begE (N : Int) (N : Int) 1 = 0 := by unfold begE; rw [if_neg (by omega)]
  have hbg := begs N hN1 (by omega) N 1 (by omega) (Nat.le_refl _) (Nat.le_refl _) (by omega) (by omega)
  have hsf : ∃ n, Safe (begW (N : Int) (N : Int) 1) n := ⟨_, beg_safe (n := N) (d := N) (o := 1) (Nat.le_refl 1) (by omega)⟩
  have hbd : Bnd 0 (begW (N : Int) (N : Int) 1) := beg_bnd (n := N) (d := N) (o := 1) (Nat.le_refl 1) (by omega)
  have htg := beg_tgb (N : Int) (N : Int) 1
  have e1 : ((1 : Nat) : Int) = 1 := rfl
  rw [e1] at hbg
  rw [HX0.out] at hbg hsf htg hbd
  have hbegin := begin_ok w N (N : Int) 1 hbe
  rw [HX0.out] at hbegin
  have HBEGIN := Lib.hid hbegin
  have HBG := Lib.hid hbg
  have HSF := Lib.hid hsf
  have HTG := Lib.hid htg
  have HBD := Lib.hid hbd
  have hwn : IntKind.i64.wrap (2 + z) = (N : Int) := by rw [hN]; exact IntWalk.i64_in _ (by omega)
  clear hbegin hbg hsf htg hbd e1 hbe hN
  go_enter Try.func8, Try.ntmps8
  go_wp2_with fail
  refine (mod_any nn 5 (by omega) (by omega) hn _).mono ?_
  rw [HZ.out]
  rintro e w9 ⟨rfl, rfl⟩
  go_wp2_with fail
  refine HBEGIN.out.mono ?_
  rintro e w1 ⟨u, rfl, hb1, hu⟩
  obtain ⟨cv1, fv1, q1, rfl, hp1⟩ := hu
  obtain ⟨a1, c1, rfl⟩ := hp1.pt.rows.form
  obtain ⟨fa1, fc1, rfl⟩ := hp1.pt.frs.form
  obtain ⟨W1, hW1⟩ : ∃ W1 : World, W1 = w1.alloc (.cells #[.int .i64 X0.ds, .slice a1 q1.length c1, .slice fa1 X0.fr.length fc1] 25) := ⟨_, rfl⟩
  have hbn : Below w1.heap.size w1 W1 := by rw [hW1]; exact (by repeat (first | assumption | exact Below.refl _ _ | apply Below.al | apply below_drewN | apply Below.drew | refine Below.next ?_ (by assumption)))
  have hsz1 := hb1.size
  have HB := Lib.hid (Below.next hb1 hbn)
  obtain ⟨p6, hp6⟩ : ∃ p, w1.heap.size = p := ⟨_, rfl⟩
  have hbx : BoxN W1 p6 25 #[.int .i64 X0.ds, .slice a1 q1.length c1, .slice fa1 X0.fr.length fc1] := by rw [hW1, ← hp6]; exact BoxN.new _ _ _
  have hwp : w.heap.size ≤ p6 := by omega
  have HIN := Lib.hid (⟨hbx, hp1.pt.keep hbn⟩ : InB W1 p6 X0 a1 c1 fa1 fc1 q1)
  clear hb1 hp1 hbn hbx
  go_upto_region 3 with fail
  rw [← hW1]
  clear hW1 hp6 hsz1
  go_upto_region 5 with fail
  go_cut [8] (fun s wx => s = .int .i64 0 ∧ wx = W1)
  case first =>
    go_wp2_with fail
    go_meet
    exact ⟨rfl, rfl⟩
  case rest =>
  obtain ⟨rfl, hwx⟩ := hcut
  subst hwx
  apply_assumption
  go_cut [8] (fun s wx => ∃ (X : Wd) (a : Option Addr) (c : Nat) (fa : Option Addr) (fc : Nat) (q : List Cq), InB wx p6 X a c fa fc q ∧ Okw X ∧ (∃ n, Safe X n) ∧ X.cs.length = N ∧ X.ds = (N : Int) ∧ TgB 40 X ∧ Bnd 40 X ∧ Below w.heap.size w wx ∧ p6 < wx.heap.size)
  case first =>
    as_aux_lemma =>
    go_wp2_with fail
    go_loopw [8] (fun i wr => ∃ (k : Nat) (X : Wd) (a : Option Addr) (c : Nat) (fa : Option Addr) (fc : Nat) (q : List Cq), k ≤ L ∧ k ≤ 40 ∧ i = .int .i64 k ∧ InB wr p6 X a c fa fc q ∧ Okw X ∧ (∃ n, Safe X n) ∧ X.cs.length = N ∧ X.ds = (N : Int) ∧ TgB k X ∧ Bnd k X ∧ Below w.heap.size w wr ∧ p6 < wr.heap.size) (fun i _ => 81 - (intOf i).toNat)
    case atStart => exact ⟨0, X0, a1, c1, fa1, fc1, q1, Nat.zero_le _, Nat.zero_le _, rfl, HIN.out, HBG.out.1, HSF.out, HBG.out.2.1, HBG.out.2.2, HTG.out, HBD.out, HB.out, HIN.out.box.lt⟩
    case round =>
      clear HIN HBG HSF HTG HB HBD
      obtain ⟨k, X, a, c, fa, fc, q, hkL, hk8, rfl, hin, hok, hsafe, hlen, hds, htg, hbd, hbr, hpl⟩ := hrel
      have HIN := Lib.hid hin
      have HOK := Lib.hid hok
      have HSF := Lib.hid hsafe
      have HLEN := Lib.hid hlen
      have HDS := Lib.hid hds
      have HTG := Lib.hid htg
      have HBD := Lib.hid hbd
      have HB := Lib.hid hbr
      have x0 : wr.cell? ⟨p6, 0, none⟩ = some (.int .i64 X.ds) := hin.box.cell 0
      have x1 : wr.cell? ⟨p6, 1, none⟩ = some (.slice a q.length c) := hin.box.cell 1
      have x2 : wr.cell? ⟨p6, 2, none⟩ = some (.slice fa X.fr.length fc) := hin.box.cell 2
      clear hin hok hsafe hlen hds htg hbd hbr
      by_cases hlt : k < L ∧ k < 40
      · have d1 : decide ((k : Int) < (L : Int)) = true := yb (by omega)
        have d2 : decide ((k : Int) < 40) = true := yb (by omega)
        obtain ⟨b, off, rfl, hcap, hcx⟩ := RdI.at (HR.out.keep HB.out) HL.out k hlt.1
        obtain ⟨z, hz⟩ : ∃ z, xs.getD k 0 = z := ⟨_, rfl⟩
        have hzb : Ib z := by rw [← hz]; exact mkN_bd HBX.out (by rw [HL.out]; exact hlt.1)
        rw [hz] at hcx
        have i1 : (0 : Int) ≤ (k : Int) := by omega
        have i2 : (k : Int) < (L : Int) := by omega
        have hwk : IntKind.i64.wrap ((k : Int) + 1) = (k : Int) + 1 := IntWalk.i64_in _ (by omega)
        have hwk0 : IntKind.i64.wrap (k : Int) = (k : Int) := IntWalk.i64_in _ (by omega)
        obtain ⟨m, HM⟩ : ∃ m, Hid (mkN X z = m) := ⟨_, Lib.hid rfl⟩
        obtain ⟨er, HER⟩ : ∃ er, Hid (stpE X m = er) := ⟨_, Lib.hid rfl⟩
        obtain ⟨XE, HXE⟩ : ∃ XE, Hid (stpW false X m = XE) := ⟨_, Lib.hid rfl⟩
        have hmd := fun w' (hb : Below wr.heap.size wr w') => lmade_any w' (X.v a c fa fc q) X z hzb (by rw [HLEN.out]; omega) (by have := okw_len HOK.out; omega) ((HIN.out.keep hb).rdw)
        simp only [HM.out] at hmd
        obtain ⟨mk, mn, mo, mi⟩ := m
        have HMD : Hid (∀ w', Below wr.heap.size wr w' → Calls Try.prog 20 #[X.v a c fa fc q, .int .i64 z] w' fun e w'' => e = .returned (.agg #[.int .i64 mk, .int .i64 mn, .int .i64 mo, .int .i64 mi]) ∧ Below w'.heap.size w' w'') := Lib.hid hmd
        have hsml := HTG.out.sml HOK.out (by omega)
        have HOWN : Hid (∀ w', Below wr.heap.size wr w' → Calls Try.prog 14 #[X.v a c fa fc q] w' fun e w'' => ∃ u, e = .returned u ∧ RdF w'' w'.heap.size u X ∧ Below w'.heap.size w' w'') := Lib.hid (fun w' hb => lown_any w' (X.v a c fa fc q) X hsml (HIN.out.keep hb).rdw)
        have HST : Hid (∀ w' (ao : Option Addr) (co : Nat) (fao : Option Addr) (fco : Nat) (qo : List Cq), PtW w' (.slice ao qo.length co) (.slice fao X.fr.length fco) qo X → Calls Try.prog 21 #[X.v ao co fao fco qo, .agg #[.int .i64 mk, .int .i64 mn, .int .i64 mo, .int .i64 mi]] w' (MvR w' XE er)) := Lib.hid (fun w' ao co fao fco qo hp => by
          have e := step_any w' (X.v ao co fao fco qo) X ⟨mk, mn, mo, mi⟩ hsml ⟨_, _, _, rfl, hp⟩
          rw [HER.out, HXE.out] at e
          exact e)
        clear hmd hz hsml
        go_upto_region 8 with fail
        go_cut [9, 10] (fun s9 s10 wy => ∃ (p9 : Nat) (a' : Option Addr) (c' : Nat) (fa' : Option Addr) (fc' : Nat) (q' : List Cq), s9 = ptr p9 ∧ s10 = .int .i64 er ∧ BoxN wy p9 25 #[.int .i64 XE.ds, .slice a' q'.length c', .slice fa' XE.fr.length fc'] ∧ PtF wy wr.heap.size (.slice a' q'.length c') (.slice fa' XE.fr.length fc') q' XE ∧ Below wr.heap.size wr wy)
        case first =>
          as_aux_lemma =>
          refine wp_region_noPanic ?_
          refine wp_region_held_drew (S := (fun w' => Below wr.heap.size wr w')) (by kernel_rfl) ((Below.refl _ wr).drew) (fun hHeld => ?_)
          refine reg_tk (v := X.v a c fa fc q) 0 42 rfl rfl (by kernel_rfl) (by kernel_rfl) (by kernel_rfl) (fun _ _ _ h => h) (by rfl) (fun w3 hS => by (have j0 := cell_later hS x0; have j1 := cell_later hS x1; have j2 := cell_later hS x2); go_simp) (by assumption) ?_
          simp only [List.setIfInBounds_toArray, List.set_cons_zero, List.set_cons_succ]
          refine reg_tk (v := X.v a c fa fc q) 2 44 rfl rfl (by kernel_rfl) (by kernel_rfl) (by kernel_rfl) (fun _ _ _ h => h) (by rfl) (fun w3 hS => by (have j0 := cell_later hS x0; have j1 := cell_later hS x1; have j2 := cell_later hS x2); go_simp) (by assumption) ?_
          simp only [List.setIfInBounds_toArray, List.set_cons_zero, List.set_cons_succ]
          refine reg_tk (v := ?_) 3 45 rfl rfl (by kernel_rfl) (by kernel_rfl) (by kernel_rfl) (fun _ _ _ h => h) (by rfl) ?_ (by assumption) ?_
          rotate_left
          · (intro w hSw; (try dsimp only at hSw); go_simp; (try with_reducible rfl))
          simp only [List.setIfInBounds_toArray, List.set_cons_zero, List.set_cons_succ]
          refine reg_tk (v := ?_) 4 46 rfl rfl (by kernel_rfl) (by kernel_rfl) (by kernel_rfl) (fun _ _ _ h => h) (by rfl) ?_ (by assumption) ?_
          rotate_left
          · (intro w hSw; (try dsimp only at hSw); go_simp; (try with_reducible rfl))
          simp only [List.setIfInBounds_toArray, List.set_cons_zero, List.set_cons_succ]
          refine reg_tk (v := .pointer (some ⟨b, off + k, none⟩)) 5 47 rfl rfl (by kernel_rfl) (by kernel_rfl) (by kernel_rfl) (fun _ _ _ h => h) (by rfl) (fun w3 hS => by skip; go_simp) (by assumption) ?_
          simp only [List.setIfInBounds_toArray, List.set_cons_zero, List.set_cons_succ]
          refine reg_tk (v := .int .i64 z) 6 48 rfl rfl (by kernel_rfl) (by kernel_rfl) (by kernel_rfl) (fun _ _ _ h => h) (by rfl) (fun w3 hS => by have j0 := cell_later hS hcx; go_simp) (by assumption) ?_
          simp only [List.setIfInBounds_toArray, List.set_cons_zero, List.set_cons_succ]
          have hB0 : Below wr.heap.size wr wr.drew := (Below.refl _ wr).drew
          refine wpAnyH_ready (rs := [1, 12]) (by kernel_rfl) (by simp) ?_
          refine AllReadyH.cons rfl (fun K hK => ?_) (AllReadyH.cons rfl (fun K hK => ?_) AllReadyH.nil)
          · go_simp
            refine (HOWN.out _ hB0).mono ?_
            rintro e v1 ⟨uo, rfl, huo, hb1⟩
            obtain ⟨cvo, fvo, qo, rfl, hpo0⟩ := huo
            have hpo := hpo0.pt
            clear hpo0
            obtain ⟨ao, co, rfl⟩ := hpo.rows.form
            obtain ⟨fao, fco, rfl⟩ := hpo.frs.form
            have hB1 : Below wr.heap.size wr v1 := Below.next hB0 hb1
            refine hK.out _ _ hB1 (fun hHeld2 => ?_)
            clear hK K hHeld
            have hHeld := hHeld2
            clear hHeld2
            try simp only [Act.put, List.setIfInBounds_toArray, List.set_cons_zero, List.set_cons_succ]
            refine wpAnyH_ready (rs := [7, 12]) (by kernel_rfl) (by simp) ?_
            refine AllReadyH.cons rfl (fun K hK => ?_) (AllReadyH.cons rfl (fun K hK => ?_) AllReadyH.nil)
            · go_simp
              refine (HMD.out _ hB1).mono ?_
              rintro e v2 ⟨rfl, hb2⟩
              replace hpo := hpo.keep hb2
              have hB2 : Below wr.heap.size wr v2 := Below.next hB1 hb2
              refine hK.out _ _ hB2 (fun hHeld2 => ?_)
              clear hK K hHeld
              have hHeld := hHeld2
              clear hHeld2
              try simp only [Act.put, List.setIfInBounds_toArray, List.set_cons_zero, List.set_cons_succ]
              refine wpAnyH_ready (rs := [8, 12]) (by kernel_rfl) (by simp) ?_
              refine AllReadyH.cons rfl (fun K hK => ?_) (AllReadyH.cons rfl (fun K hK => ?_) AllReadyH.nil)
              · have hle := (hB2).size
                go_simp
                refine (HST.out _ ao co fao fco qo hpo).mono ?_
                rintro e v3 ⟨u, rfl, hb3, hu⟩
                obtain ⟨cv2, fv2, q2, rfl, hpt⟩ := hu
                obtain ⟨a2, c2, rfl⟩ := hpt.pt.rows.form
                obtain ⟨fa2, fc2, rfl⟩ := hpt.pt.frs.form
                have hB3 : Below wr.heap.size wr v3 := Below.next hB2 hb3
                refine hK.out _ _ hB3 (fun hHeld2 => ?_)
                clear hK K hHeld
                have hHeld := hHeld2
                clear hHeld2
                try simp only [Act.put, List.setIfInBounds_toArray, List.set_cons_zero, List.set_cons_succ]
                refine reg_tk (v := ?_) 9 41 rfl rfl (by kernel_rfl) (by kernel_rfl) (by kernel_rfl) (fun _ _ _ h => h) (by rfl) ?_ (by assumption) ?_
                rotate_left
                · (intro w hSw; (try dsimp only at hSw); go_simp; (try with_reducible rfl))
                simp only [List.setIfInBounds_toArray, List.set_cons_zero, List.set_cons_succ]
                refine reg_tk (v := ?_) 10 51 rfl rfl (by kernel_rfl) (by kernel_rfl) (by kernel_rfl) (fun _ _ _ h => h) (by rfl) ?_ (by assumption) ?_
                rotate_left
                · (intro w hSw; (try dsimp only at hSw); go_simp; (try with_reducible rfl))
                simp only [List.setIfInBounds_toArray, List.set_cons_zero, List.set_cons_succ]
                refine reg_tk (v := ?_) 11 52 rfl rfl (by kernel_rfl) (by kernel_rfl) (by kernel_rfl) (fun _ _ _ h => h) (by rfl) ?_ (by assumption) ?_
                rotate_left
                · (intro w hSw; (try dsimp only at hSw); go_simp; (try with_reducible rfl))
                simp only [List.setIfInBounds_toArray, List.set_cons_zero, List.set_cons_succ]
                refine wpAnyH_ready (rs := [12]) (by kernel_rfl) (by simp) ?_
                refine AllReadyH.cons rfl (fun K hK => ?_) AllReadyH.nil
                go_simp
                refine hK.out _ _ (Below.al hB3 _) (fun hHeld2 => ?_)
                clear hK K hHeld
                have hHeld := hHeld2
                clear hHeld2
                try simp only [Act.put, List.setIfInBounds_toArray, List.set_cons_zero, List.set_cons_succ]
                refine wpAnyH_ready (rs := [13]) (by kernel_rfl) (by simp) ?_
                refine AllReadyH.cons rfl (fun K hK => ?_) AllReadyH.nil
                go_simp
                obtain ⟨W3, hW3⟩ : ∃ V : World, V = World.alloc v3 (.cells #[.int .i64 XE.ds, .slice a2 q2.length c2, .slice fa2 XE.fr.length fc2] 25) := ⟨_, rfl⟩
                have b3 : BoxN W3 (v3.heap.size) 25 #[.int .i64 XE.ds, .slice a2 q2.length c2, .slice fa2 XE.fr.length fc2] := by rw [hW3]; exact BoxN.new _ _ _
                have hb3 : Below (World.heap v3).size v3 W3 := by rw [hW3]; exact (by repeat (first | assumption | exact Below.refl _ _ | apply Below.al | apply below_drewN | apply Below.drew | refine Below.next ?_ (by assumption)))
                have hB3 := Below.next hB3 hb3
                have hz3 := (hB3).size
                have hp3 : PtF W3 wr.heap.size (.slice a2 q2.length c2) (.slice fa2 XE.fr.length fc2) q2 XE := (hpt.keep hb3).mono hle
                rw [← hW3]
                refine hK.out _ _ hB3 (fun hHeld2 => ?_)
                clear hK K hHeld
                have hHeld := hHeld2
                clear hHeld2
                try simp only [Act.put, List.setIfInBounds_toArray, List.set_cons_zero, List.set_cons_succ]
                refine reg_tk (v := ?_) 14 10 rfl rfl (by kernel_rfl) (by kernel_rfl) (by kernel_rfl) (fun _ _ _ h => h) (by rfl) ?_ (by assumption) ?_
                rotate_left
                · (intro w hSw; (try dsimp only at hSw); go_simp; (try with_reducible rfl))
                simp only [List.setIfInBounds_toArray, List.set_cons_zero, List.set_cons_succ]
                refine wpAnyH_done (by kernel_rfl) ?_ _
                refine NoPanic.normal ?_
                clear hHeld hW3 hb3
                go_wp2_with fail
                go_meet
                exact ⟨_, _, _, _, _, _, rfl, rfl, b3, hp3, hB3⟩
              · go_simp
                have hal := Below.al hB2 (.cells #[.int .i64 0, .slice none 0 0, .slice none 0 0] 25)
                replace hpo := hpo.keep (Below.al (Below.refl _ _) (.cells #[.int .i64 0, .slice none 0 0, .slice none 0 0] 25))
                refine hK.out _ _ hal (fun hHeld2 => ?_)
                clear hK K hHeld
                have hHeld := hHeld2
                clear hHeld2
                try simp only [Act.put, List.setIfInBounds_toArray, List.set_cons_zero, List.set_cons_succ]
                have bzA : BoxN (World.alloc v2 (.cells #[.int .i64 0, .slice none 0 0, .slice none 0 0] 25)) (v2.heap.size) 25 #[.int .i64 0, .slice none 0 0, .slice none 0 0] := BoxN.new _ _ _
                have hza : wr.heap.size ≤ v2.heap.size := (hB2).size
                refine wpAnyH_ready (rs := [8]) (by kernel_rfl) (by simp) ?_
                refine AllReadyH.cons rfl (fun K hK => ?_) AllReadyH.nil
                have hle := (hal).size
                have hzl := bzA.lt
                go_simp
                refine (HST.out _ ao co fao fco qo hpo).mono ?_
                rintro e v3 ⟨u, rfl, hb3, hu⟩
                obtain ⟨cv2, fv2, q2, rfl, hpt⟩ := hu
                obtain ⟨a2, c2, rfl⟩ := hpt.pt.rows.form
                obtain ⟨fa2, fc2, rfl⟩ := hpt.pt.frs.form
                have hB3 : Below wr.heap.size wr v3 := Below.next hal hb3
                have bz3 : BoxN v3 (v2.heap.size) 25 #[.int .i64 0, .slice none 0 0, .slice none 0 0] := bzA.below hb3
                refine hK.out _ _ hB3 (fun hHeld2 => ?_)
                clear hK K hHeld
                have hHeld := hHeld2
                clear hHeld2
                try simp only [Act.put, List.setIfInBounds_toArray, List.set_cons_zero, List.set_cons_succ]
                refine reg_tk (v := ?_) 9 41 rfl rfl (by kernel_rfl) (by kernel_rfl) (by kernel_rfl) (fun _ _ _ h => h) (by rfl) ?_ (by assumption) ?_
                rotate_left
                · (intro w hSw; (try dsimp only at hSw); go_simp; (try with_reducible rfl))
                simp only [List.setIfInBounds_toArray, List.set_cons_zero, List.set_cons_succ]
                refine reg_tk (v := ?_) 10 51 rfl rfl (by kernel_rfl) (by kernel_rfl) (by kernel_rfl) (fun _ _ _ h => h) (by rfl) ?_ (by assumption) ?_
                rotate_left
                · (intro w hSw; (try dsimp only at hSw); go_simp; (try with_reducible rfl))
                simp only [List.setIfInBounds_toArray, List.set_cons_zero, List.set_cons_succ]
                refine reg_tk (v := ?_) 11 52 rfl rfl (by kernel_rfl) (by kernel_rfl) (by kernel_rfl) (fun _ _ _ h => h) (by rfl) ?_ (by assumption) ?_
                rotate_left
                · (intro w hSw; (try dsimp only at hSw); go_simp; (try with_reducible rfl))
                simp only [List.setIfInBounds_toArray, List.set_cons_zero, List.set_cons_succ]
                have t0 : World.cell? v3 ⟨v2.heap.size, 0, none⟩ = some (.int .i64 0) := bz3.cell 0
                have y0 := bz3.frozen 0
                have t1 : World.cell? v3 ⟨v2.heap.size, 1, none⟩ = some (.slice none 0 0) := bz3.cell 1
                have y1 := bz3.frozen 1
                have t2 : World.cell? v3 ⟨v2.heap.size, 2, none⟩ = some (.slice none 0 0) := bz3.cell 2
                have y2 := bz3.frozen 2
                refine wpAnyH_ready (rs := [13]) (by kernel_rfl) (by simp) ?_
                refine AllReadyH.cons rfl (fun K hK => ?_) AllReadyH.nil
                go_simp
                obtain ⟨W3, hW3⟩ : ∃ V : World, V = ((World.setCell v3 ⟨v2.heap.size, 0, none⟩ (.int .i64 XE.ds)).setCell ⟨v2.heap.size, 1, none⟩ (.slice a2 q2.length c2)).setCell ⟨v2.heap.size, 2, none⟩ (.slice fa2 XE.fr.length fc2) := ⟨_, rfl⟩
                have b3 : BoxN W3 (v2.heap.size) 25 #[.int .i64 XE.ds, .slice a2 q2.length c2, .slice fa2 XE.fr.length fc2] := by rw [hW3]; exact (((bz3).setc 0 _).setc 1 _).setc 2 _
                have hB3 : Below wr.heap.size wr W3 := by rw [hW3]; exact ((hB3.setCell (p := ⟨v2.heap.size, 0, none⟩) hza _).setCell (p := ⟨v2.heap.size, 1, none⟩) hza _).setCell (p := ⟨v2.heap.size, 2, none⟩) hza _
                have hp3 : PtF W3 wr.heap.size (.slice a2 q2.length c2) (.slice fa2 XE.fr.length fc2) q2 XE := by rw [hW3]; exact (((hpt.set (p := ⟨v2.heap.size, 0, none⟩) _ hzl).set (p := ⟨v2.heap.size, 1, none⟩) _ hzl).set (p := ⟨v2.heap.size, 2, none⟩) _ hzl).mono hle
                rw [← hW3]
                refine hK.out _ _ hB3 (fun hHeld2 => ?_)
                clear hK K hHeld
                have hHeld := hHeld2
                clear hHeld2
                try simp only [Act.put, List.setIfInBounds_toArray, List.set_cons_zero, List.set_cons_succ]
                refine reg_tk (v := ?_) 14 10 rfl rfl (by kernel_rfl) (by kernel_rfl) (by kernel_rfl) (fun _ _ _ h => h) (by rfl) ?_ (by assumption) ?_
                rotate_left
                · (intro w hSw; (try dsimp only at hSw); go_simp; (try with_reducible rfl))
                simp only [List.setIfInBounds_toArray, List.set_cons_zero, List.set_cons_succ]
                refine wpAnyH_done (by kernel_rfl) ?_ _
                refine NoPanic.normal ?_
                clear hHeld hW3 t0 y0 t1 y1 t2 y2
                go_wp2_with fail
                go_meet
                exact ⟨_, _, _, _, _, _, rfl, rfl, b3, hp3, hB3⟩
            · go_simp
              have hal := Below.al hB1 (.cells #[.int .i64 0, .slice none 0 0, .slice none 0 0] 25)
              replace hpo := hpo.keep (Below.al (Below.refl _ _) (.cells #[.int .i64 0, .slice none 0 0, .slice none 0 0] 25))
              refine hK.out _ _ hal (fun hHeld2 => ?_)
              clear hK K hHeld
              have hHeld := hHeld2
              clear hHeld2
              try simp only [Act.put, List.setIfInBounds_toArray, List.set_cons_zero, List.set_cons_succ]
              have bzA : BoxN (World.alloc v1 (.cells #[.int .i64 0, .slice none 0 0, .slice none 0 0] 25)) (v1.heap.size) 25 #[.int .i64 0, .slice none 0 0, .slice none 0 0] := BoxN.new _ _ _
              have hza : wr.heap.size ≤ v1.heap.size := (hB1).size
              refine wpAnyH_ready (rs := [7]) (by kernel_rfl) (by simp) ?_
              refine AllReadyH.cons rfl (fun K hK => ?_) AllReadyH.nil
              go_simp
              refine (HMD.out _ hal).mono ?_
              rintro e v2 ⟨rfl, hb2⟩
              replace hpo := hpo.keep hb2
              have hB2 : Below wr.heap.size wr v2 := Below.next hal hb2
              have bz2 : BoxN v2 (v1.heap.size) 25 #[.int .i64 0, .slice none 0 0, .slice none 0 0] := bzA.below hb2
              refine hK.out _ _ hB2 (fun hHeld2 => ?_)
              clear hK K hHeld
              have hHeld := hHeld2
              clear hHeld2
              try simp only [Act.put, List.setIfInBounds_toArray, List.set_cons_zero, List.set_cons_succ]
              refine wpAnyH_ready (rs := [8]) (by kernel_rfl) (by simp) ?_
              refine AllReadyH.cons rfl (fun K hK => ?_) AllReadyH.nil
              have hle := (hB2).size
              have hzl := bz2.lt
              go_simp
              refine (HST.out _ ao co fao fco qo hpo).mono ?_
              rintro e v3 ⟨u, rfl, hb3, hu⟩
              obtain ⟨cv2, fv2, q2, rfl, hpt⟩ := hu
              obtain ⟨a2, c2, rfl⟩ := hpt.pt.rows.form
              obtain ⟨fa2, fc2, rfl⟩ := hpt.pt.frs.form
              have hB3 : Below wr.heap.size wr v3 := Below.next hB2 hb3
              have bz3 : BoxN v3 (v1.heap.size) 25 #[.int .i64 0, .slice none 0 0, .slice none 0 0] := bz2.below hb3
              refine hK.out _ _ hB3 (fun hHeld2 => ?_)
              clear hK K hHeld
              have hHeld := hHeld2
              clear hHeld2
              try simp only [Act.put, List.setIfInBounds_toArray, List.set_cons_zero, List.set_cons_succ]
              refine reg_tk (v := ?_) 9 41 rfl rfl (by kernel_rfl) (by kernel_rfl) (by kernel_rfl) (fun _ _ _ h => h) (by rfl) ?_ (by assumption) ?_
              rotate_left
              · (intro w hSw; (try dsimp only at hSw); go_simp; (try with_reducible rfl))
              simp only [List.setIfInBounds_toArray, List.set_cons_zero, List.set_cons_succ]
              refine reg_tk (v := ?_) 10 51 rfl rfl (by kernel_rfl) (by kernel_rfl) (by kernel_rfl) (fun _ _ _ h => h) (by rfl) ?_ (by assumption) ?_
              rotate_left
              · (intro w hSw; (try dsimp only at hSw); go_simp; (try with_reducible rfl))
              simp only [List.setIfInBounds_toArray, List.set_cons_zero, List.set_cons_succ]
              refine reg_tk (v := ?_) 11 52 rfl rfl (by kernel_rfl) (by kernel_rfl) (by kernel_rfl) (fun _ _ _ h => h) (by rfl) ?_ (by assumption) ?_
              rotate_left
              · (intro w hSw; (try dsimp only at hSw); go_simp; (try with_reducible rfl))
              simp only [List.setIfInBounds_toArray, List.set_cons_zero, List.set_cons_succ]
              have t0 : World.cell? v3 ⟨v1.heap.size, 0, none⟩ = some (.int .i64 0) := bz3.cell 0
              have y0 := bz3.frozen 0
              have t1 : World.cell? v3 ⟨v1.heap.size, 1, none⟩ = some (.slice none 0 0) := bz3.cell 1
              have y1 := bz3.frozen 1
              have t2 : World.cell? v3 ⟨v1.heap.size, 2, none⟩ = some (.slice none 0 0) := bz3.cell 2
              have y2 := bz3.frozen 2
              refine wpAnyH_ready (rs := [13]) (by kernel_rfl) (by simp) ?_
              refine AllReadyH.cons rfl (fun K hK => ?_) AllReadyH.nil
              go_simp
              obtain ⟨W3, hW3⟩ : ∃ V : World, V = ((World.setCell v3 ⟨v1.heap.size, 0, none⟩ (.int .i64 XE.ds)).setCell ⟨v1.heap.size, 1, none⟩ (.slice a2 q2.length c2)).setCell ⟨v1.heap.size, 2, none⟩ (.slice fa2 XE.fr.length fc2) := ⟨_, rfl⟩
              have b3 : BoxN W3 (v1.heap.size) 25 #[.int .i64 XE.ds, .slice a2 q2.length c2, .slice fa2 XE.fr.length fc2] := by rw [hW3]; exact (((bz3).setc 0 _).setc 1 _).setc 2 _
              have hB3 : Below wr.heap.size wr W3 := by rw [hW3]; exact ((hB3.setCell (p := ⟨v1.heap.size, 0, none⟩) hza _).setCell (p := ⟨v1.heap.size, 1, none⟩) hza _).setCell (p := ⟨v1.heap.size, 2, none⟩) hza _
              have hp3 : PtF W3 wr.heap.size (.slice a2 q2.length c2) (.slice fa2 XE.fr.length fc2) q2 XE := by rw [hW3]; exact (((hpt.set (p := ⟨v1.heap.size, 0, none⟩) _ hzl).set (p := ⟨v1.heap.size, 1, none⟩) _ hzl).set (p := ⟨v1.heap.size, 2, none⟩) _ hzl).mono hle
              rw [← hW3]
              refine hK.out _ _ hB3 (fun hHeld2 => ?_)
              clear hK K hHeld
              have hHeld := hHeld2
              clear hHeld2
              try simp only [Act.put, List.setIfInBounds_toArray, List.set_cons_zero, List.set_cons_succ]
              refine reg_tk (v := ?_) 14 10 rfl rfl (by kernel_rfl) (by kernel_rfl) (by kernel_rfl) (fun _ _ _ h => h) (by rfl) ?_ (by assumption) ?_
              rotate_left
              · (intro w hSw; (try dsimp only at hSw); go_simp; (try with_reducible rfl))
              simp only [List.setIfInBounds_toArray, List.set_cons_zero, List.set_cons_succ]
              refine wpAnyH_done (by kernel_rfl) ?_ _
              refine NoPanic.normal ?_
              clear hHeld hW3 t0 y0 t1 y1 t2 y2
              go_wp2_with fail
              go_meet
              exact ⟨_, _, _, _, _, _, rfl, rfl, b3, hp3, hB3⟩
          · go_simp
            have hal := Below.al hB0 (.cells #[.int .i64 0, .slice none 0 0, .slice none 0 0] 25)
            refine hK.out _ _ hal (fun hHeld2 => ?_)
            clear hK K hHeld
            have hHeld := hHeld2
            clear hHeld2
            try simp only [Act.put, List.setIfInBounds_toArray, List.set_cons_zero, List.set_cons_succ]
            have bzA : BoxN (World.alloc wr.drew (.cells #[.int .i64 0, .slice none 0 0, .slice none 0 0] 25)) (wr.heap.size) 25 #[.int .i64 0, .slice none 0 0, .slice none 0 0] := BoxN.new _ _ _
            have hza : wr.heap.size ≤ wr.heap.size := (hB0).size
            refine wpAnyH_ready (rs := [1]) (by kernel_rfl) (by simp) ?_
            refine AllReadyH.cons rfl (fun K hK => ?_) AllReadyH.nil
            go_simp
            refine (HOWN.out _ hal).mono ?_
            rintro e v1 ⟨uo, rfl, huo, hb1⟩
            obtain ⟨cvo, fvo, qo, rfl, hpo0⟩ := huo
            have hpo := hpo0.pt
            clear hpo0
            obtain ⟨ao, co, rfl⟩ := hpo.rows.form
            obtain ⟨fao, fco, rfl⟩ := hpo.frs.form
            have hB1 : Below wr.heap.size wr v1 := Below.next hal hb1
            have bz1 : BoxN v1 (wr.heap.size) 25 #[.int .i64 0, .slice none 0 0, .slice none 0 0] := bzA.below hb1
            refine hK.out _ _ hB1 (fun hHeld2 => ?_)
            clear hK K hHeld
            have hHeld := hHeld2
            clear hHeld2
            try simp only [Act.put, List.setIfInBounds_toArray, List.set_cons_zero, List.set_cons_succ]
            refine wpAnyH_ready (rs := [7]) (by kernel_rfl) (by simp) ?_
            refine AllReadyH.cons rfl (fun K hK => ?_) AllReadyH.nil
            go_simp
            refine (HMD.out _ hB1).mono ?_
            rintro e v2 ⟨rfl, hb2⟩
            replace hpo := hpo.keep hb2
            have hB2 : Below wr.heap.size wr v2 := Below.next hB1 hb2
            have bz2 : BoxN v2 (wr.heap.size) 25 #[.int .i64 0, .slice none 0 0, .slice none 0 0] := bz1.below hb2
            refine hK.out _ _ hB2 (fun hHeld2 => ?_)
            clear hK K hHeld
            have hHeld := hHeld2
            clear hHeld2
            try simp only [Act.put, List.setIfInBounds_toArray, List.set_cons_zero, List.set_cons_succ]
            refine wpAnyH_ready (rs := [8]) (by kernel_rfl) (by simp) ?_
            refine AllReadyH.cons rfl (fun K hK => ?_) AllReadyH.nil
            have hle := (hB2).size
            have hzl := bz2.lt
            go_simp
            refine (HST.out _ ao co fao fco qo hpo).mono ?_
            rintro e v3 ⟨u, rfl, hb3, hu⟩
            obtain ⟨cv2, fv2, q2, rfl, hpt⟩ := hu
            obtain ⟨a2, c2, rfl⟩ := hpt.pt.rows.form
            obtain ⟨fa2, fc2, rfl⟩ := hpt.pt.frs.form
            have hB3 : Below wr.heap.size wr v3 := Below.next hB2 hb3
            have bz3 : BoxN v3 (wr.heap.size) 25 #[.int .i64 0, .slice none 0 0, .slice none 0 0] := bz2.below hb3
            refine hK.out _ _ hB3 (fun hHeld2 => ?_)
            clear hK K hHeld
            have hHeld := hHeld2
            clear hHeld2
            try simp only [Act.put, List.setIfInBounds_toArray, List.set_cons_zero, List.set_cons_succ]
            refine reg_tk (v := ?_) 9 41 rfl rfl (by kernel_rfl) (by kernel_rfl) (by kernel_rfl) (fun _ _ _ h => h) (by rfl) ?_ (by assumption) ?_
            rotate_left
            · (intro w hSw; (try dsimp only at hSw); go_simp; (try with_reducible rfl))
            simp only [List.setIfInBounds_toArray, List.set_cons_zero, List.set_cons_succ]
            refine reg_tk (v := ?_) 10 51 rfl rfl (by kernel_rfl) (by kernel_rfl) (by kernel_rfl) (fun _ _ _ h => h) (by rfl) ?_ (by assumption) ?_
            rotate_left
            · (intro w hSw; (try dsimp only at hSw); go_simp; (try with_reducible rfl))
            simp only [List.setIfInBounds_toArray, List.set_cons_zero, List.set_cons_succ]
            refine reg_tk (v := ?_) 11 52 rfl rfl (by kernel_rfl) (by kernel_rfl) (by kernel_rfl) (fun _ _ _ h => h) (by rfl) ?_ (by assumption) ?_
            rotate_left
            · (intro w hSw; (try dsimp only at hSw); go_simp; (try with_reducible rfl))
            simp only [List.setIfInBounds_toArray, List.set_cons_zero, List.set_cons_succ]
            have t0 : World.cell? v3 ⟨wr.heap.size, 0, none⟩ = some (.int .i64 0) := bz3.cell 0
            have y0 := bz3.frozen 0
            have t1 : World.cell? v3 ⟨wr.heap.size, 1, none⟩ = some (.slice none 0 0) := bz3.cell 1
            have y1 := bz3.frozen 1
            have t2 : World.cell? v3 ⟨wr.heap.size, 2, none⟩ = some (.slice none 0 0) := bz3.cell 2
            have y2 := bz3.frozen 2
            refine wpAnyH_ready (rs := [13]) (by kernel_rfl) (by simp) ?_
            refine AllReadyH.cons rfl (fun K hK => ?_) AllReadyH.nil
            go_simp
            obtain ⟨W3, hW3⟩ : ∃ V : World, V = ((World.setCell v3 ⟨wr.heap.size, 0, none⟩ (.int .i64 XE.ds)).setCell ⟨wr.heap.size, 1, none⟩ (.slice a2 q2.length c2)).setCell ⟨wr.heap.size, 2, none⟩ (.slice fa2 XE.fr.length fc2) := ⟨_, rfl⟩
            have b3 : BoxN W3 (wr.heap.size) 25 #[.int .i64 XE.ds, .slice a2 q2.length c2, .slice fa2 XE.fr.length fc2] := by rw [hW3]; exact (((bz3).setc 0 _).setc 1 _).setc 2 _
            have hB3 : Below wr.heap.size wr W3 := by rw [hW3]; exact ((hB3.setCell (p := ⟨wr.heap.size, 0, none⟩) hza _).setCell (p := ⟨wr.heap.size, 1, none⟩) hza _).setCell (p := ⟨wr.heap.size, 2, none⟩) hza _
            have hp3 : PtF W3 wr.heap.size (.slice a2 q2.length c2) (.slice fa2 XE.fr.length fc2) q2 XE := by rw [hW3]; exact (((hpt.set (p := ⟨wr.heap.size, 0, none⟩) _ hzl).set (p := ⟨wr.heap.size, 1, none⟩) _ hzl).set (p := ⟨wr.heap.size, 2, none⟩) _ hzl).mono hle
            rw [← hW3]
            refine hK.out _ _ hB3 (fun hHeld2 => ?_)
            clear hK K hHeld
            have hHeld := hHeld2
            clear hHeld2
            try simp only [Act.put, List.setIfInBounds_toArray, List.set_cons_zero, List.set_cons_succ]
            refine reg_tk (v := ?_) 14 10 rfl rfl (by kernel_rfl) (by kernel_rfl) (by kernel_rfl) (fun _ _ _ h => h) (by rfl) ?_ (by assumption) ?_
            rotate_left
            · (intro w hSw; (try dsimp only at hSw); go_simp; (try with_reducible rfl))
            simp only [List.setIfInBounds_toArray, List.set_cons_zero, List.set_cons_succ]
            refine wpAnyH_done (by kernel_rfl) ?_ _
            refine NoPanic.normal ?_
            clear hHeld hW3 t0 y0 t1 y1 t2 y2
            go_wp2_with fail
            go_meet
            exact ⟨_, _, _, _, _, _, rfl, rfl, b3, hp3, hB3⟩
        case rest =>
          clear HMD HM HOWN HST x0 x1 x2 hcx
          obtain ⟨p9, a9, c9, fa9, fc9, q9, rfl, rfl, b9, r9, hb9⟩ := hcut
          rename World => wy
          have HIN9 := Lib.hid (HIN.out.keep hb9)
          have HB9 := Lib.hid (Below.next HB.out hb9)
          have hsy := hb9.size
          have HB99 := Lib.hid b9
          have HR9 := Lib.hid (r9.mono (show p6 + 1 ≤ wr.heap.size from hpl))
          clear b9 r9 hb9 HIN HB
          by_cases he : er = 0
          · have e1 : (er == 0) = true := by simp [he]
            subst he
            have hxe : XE = mvW false X ⟨mk, mn, mo, mi⟩ := by rw [← HXE.out]; unfold stpW; rw [if_pos HER.out]
            have HOKE : Hid (Okw XE) := Lib.hid (by rw [hxe]; exact okw_mv HER.out)
            have HSFE : Hid (∃ n, Safe XE n) := Lib.hid (by rw [hxe]; exact safe_mv HER.out HSF.out)
            have HLE : Hid (XE.cs.length = N) := Lib.hid (by
              rw [hxe, ← HLEN.out]; unfold mvW pasW rstW; repeat' split
              all_goals simp [setC, outF])
            have HDE : Hid (XE.ds = (N : Int)) := Lib.hid (by rw [hxe, mv_ds]; exact HDS.out)
            have HTE : Hid (TgB (k + 1) XE) := Lib.hid (by rw [hxe]; exact HTG.out.mv _ _)
            have HBE : Hid (Bnd (k + 1) XE) := Lib.hid (by rw [hxe]; exact HBD.out.mv HER.out)
            have hin := HIN9.out.put HR9.out
            have y0 : wy.cell? ⟨p9, 0, none⟩ = some (.int .i64 XE.ds) := HB99.out.cell 0
            have y1 : wy.cell? ⟨p9, 1, none⟩ = some (.slice a9 q9.length c9) := HB99.out.cell 1
            have y2 : wy.cell? ⟨p9, 2, none⟩ = some (.slice fa9 XE.fr.length fc9) := HB99.out.cell 2
            have x0 : wy.cell? ⟨p6, 0, none⟩ = some (.int .i64 X.ds) := HIN9.out.box.cell 0
            have x1 : wy.cell? ⟨p6, 1, none⟩ = some (.slice a q.length c) := HIN9.out.box.cell 1
            have x2 : wy.cell? ⟨p6, 2, none⟩ = some (.slice fa X.fr.length fc) := HIN9.out.box.cell 2
            have z3 := HIN9.out.box.frozen 0
            have z4 := HIN9.out.box.frozen 1
            have z5 := HIN9.out.box.frozen 2
            obtain ⟨W7, HW7⟩ : ∃ W7 : World, Hid (W7 = ((wy.setCell ⟨p6, 0, none⟩ (.int .i64 XE.ds)).setCell ⟨p6, 1, none⟩ (.slice a9 q9.length c9)).setCell ⟨p6, 2, none⟩ (.slice fa9 XE.fr.length fc9)) := ⟨_, Lib.hid rfl⟩
            rw [← HW7.out] at hin
            have HB7 : Hid (Below w.heap.size w W7) := Lib.hid (by
              rw [HW7.out]
              exact ((HB9.out.setCell (p := ⟨p6, 0, none⟩) hwp _).setCell (p := ⟨p6, 1, none⟩) hwp _).setCell (p := ⟨p6, 2, none⟩) hwp _)
            have hp7 := hin.box.lt
            have HIN7 := Lib.hid hin
            clear hin hxe
            go_wp2_with fail
            rw [← HW7.out]
            go_roundw
            case rel => exact ⟨k + 1, XE, a9, c9, fa9, fc9, q9, by omega, by omega, by go_num, HIN7.out, HOKE.out, HSFE.out, HLE.out, HDE.out, HTE.out, HBE.out, HB7.out, hp7⟩
            case measure => simp [intOf]; omega
          · have e1 : (er == 0) = false := by simp [he]
            go_wp2_with fail
            go_roundw
            case rel => exact ⟨k + 1, X, a, c, fa, fc, q, by omega, by omega, by go_num, HIN9.out, HOK.out, HSF.out, HLEN.out, HDS.out, fun d hd => ⟨Nat.le_succ_of_le (HTG.out d hd).1, Nat.le_succ_of_le (HTG.out d hd).2⟩, ⟨Nat.le_succ_of_le HBD.out.fr, fun n hn => by have := HBD.out.nx n hn; omega⟩, HB9.out, by omega⟩
            case measure => simp [intOf]; omega
      · have HT4 : Hid (TgB 40 X) := Lib.hid (fun d hd => ⟨Nat.le_trans (HTG.out d hd).1 hk8, Nat.le_trans (HTG.out d hd).2 hk8⟩)
        have HB4 : Hid (Bnd 40 X) := Lib.hid ⟨Nat.le_trans HBD.out.fr hk8, fun n hn => by have := HBD.out.nx n hn; omega⟩
        by_cases hkl : k < L
        · have d1 : decide ((k : Int) < (L : Int)) = true := yb (by omega)
          have d2 : decide ((k : Int) < 40) = false := nb (by omega)
          have d3 : ¬ (k : Int) < 40 := by omega
          clear hlt
          go_wp2_with fail
          go_meet
          exact ⟨X, a, c, fa, fc, q, HIN.out, HOK.out, HSF.out, HLEN.out, HDS.out, HT4.out, HB4.out, HB.out, hpl⟩
        · have d1 : decide ((k : Int) < (L : Int)) = false := nb (by omega)
          clear hlt
          go_wp2_with fail
          go_meet
          exact ⟨X, a, c, fa, fc, q, HIN.out, HOK.out, HSF.out, HLEN.out, HDS.out, HT4.out, HB4.out, HB.out, hpl⟩
  case rest =>
  clear HIN HBG HSF HTG HB HBD HR HBX HL
  obtain ⟨X, a, c, fa, fc, q, hin, hok, hsf, hlen, hds, htg, hbd, hbr, hpl⟩ := hcut
  rename World => wr
  have x0 : wr.cell? ⟨p6, 0, none⟩ = some (.int .i64 X.ds) := hin.box.cell 0
  have x1 : wr.cell? ⟨p6, 1, none⟩ = some (.slice a q.length c) := hin.box.cell 1
  have x2 : wr.cell? ⟨p6, 2, none⟩ = some (.slice fa X.fr.length fc) := hin.box.cell 2
  have hhd := holders_any wr (X.v a c fa fc q) X hin.rdw
  rw [if_pos hok, show chkE X = 0 by unfold chkE; exact if_pos hok] at hhd
  have HHD : Hid (Calls Try.prog 25 #[X.v a c fa fc q] wr (HdR wr (hdsW X) 0)) := Lib.hid hhd
  have HIN := Lib.hid hin
  have HOK := Lib.hid hok
  have HSF := Lib.hid hsf
  have HLEN := Lib.hid hlen
  have HDS := Lib.hid hds
  have HTG := Lib.hid htg
  have HBD := Lib.hid hbd
  have HB := Lib.hid hbr
  have hwr := hbr.size
  clear hin hok hsf hlen hds htg hbd hbr hhd
  go_wp2_with fail
  refine HHD.out.mono ?_
  rintro e w1 ⟨s, rfl, hs, hfs, hb1⟩
  obtain ⟨sa, sc, rfl⟩ := hs.form
  obtain ⟨K, HK⟩ : ∃ K, Hid ((hdsW X).length = K) := ⟨_, Lib.hid rfl⟩
  rw [HK.out] at hs hfs ⊢
  have x0 := cell_later hb1 x0
  have x1 := cell_later hb1 x1
  have x2 := cell_later hb1 x2
  have HS := Lib.hid hs
  have HFS := Lib.hid hfs
  have hsz1 := hb1.size
  replace HIN := Lib.hid (HIN.out.keep hb1)
  replace HB := Lib.hid (Below.next HB.out hb1)
  have HB1 := Lib.hid hb1
  clear hs hfs hb1 HHD
  by_cases hK : K = 0
  · subst hK
    obtain ⟨s, hs⟩ := HSF.out
    have hlo := lost_any w1 (X.v a c fa fc q) X HIN.out.rdw
    rw [safe_lost HOK.out hs, yb HOK.out, show chkE X = 0 by unfold chkE; exact if_pos HOK.out] at hlo
    have HLO : Hid (Calls Try.prog 27 #[X.v a c fa fc q] w1 fun e w' => e = .returned (.tuple #[.bool false, .int .i64 0]) ∧ Below w1.heap.size w1 w') := Lib.hid hlo
    clear hlo hs
    go_wp2_with fail
    refine HLO.out.mono ?_
    rintro e w2 ⟨rfl, hb2⟩
    go_wp2_with fail
    refine (awake_any w2).mono ?_
    rintro e w3 ⟨rfl, hb3⟩
    have hB := Below.next (Below.next HB.out hb2) hb3
    clear hb2 hb3
    go_wp2_with fail
    go_ret
    exact ⟨rfl, hB⟩
  have dK : ((K : Int) == 0) = false := by simp [hK]
  obtain ⟨h, rest, hxs⟩ : ∃ h rest, hdsW X = h :: rest := by
    cases hh : hdsW X with
    | nil => exact absurd (by rw [← HK.out, hh]; rfl) hK
    | cons h rest => exact ⟨h, rest, rfl⟩
  have hm : h ∈ hdsW X := by rw [hxs]; simp
  obtain ⟨X1, X2, X3, X4, s1, m1, s2, m2, s3, m3, s4, m4, l4, t4, t3⟩ := arrives HOK.out HBD.out hm
  rw [HDS.out] at s2 m2 t4
  obtain ⟨r, hrl, hr1, _⟩ := atC_get ((hdsW_mem X h).1 hm).1
  rw [HLEN.out] at hrl l4
  obtain ⟨sb, so, he, _, hc⟩ := RdI.at HS.out HK.out 0 (by omega)
  subst he
  have hc : w1.cell? ⟨sb, so, none⟩ = some (.int .i64 h) := by
    have e := hc
    rw [hxs] at e
    simpa using e
  have hsb : p6 ≠ sb := by
    have e : wr.heap.size ≤ sb := HFS.out _ _ _ rfl
    omega
  have k1 : (0 : Int) < (K : Int) := by omega
  have k1n : 0 < K := by omega
  have o1 := okw_mv (r := false) s1
  rw [m1] at o1
  have o2 := okw_mv (r := false) s2
  rw [m2] at o2
  have o3 := okw_mv (r := false) s3
  rw [m3] at o3
  have tg1 : TgB 41 X1 := by rw [← m1]; exact HTG.out.mv _ _
  have tg2 : TgB 42 X2 := by rw [← m2]; exact tg1.mv _ _
  have tg3 : TgB 43 X3 := by rw [← m3]; exact tg2.mv _ _
  have hst1 := fun w' (hb : Below w1.heap.size w1 w') => step_any w' (X.v a c fa fc q) X ⟨6, h, 0, 0⟩ (HTG.out.sml HOK.out (by omega)) (HIN.out.keep hb).rdw
  have hw1 : stpW false X ⟨6, h, 0, 0⟩ = X1 := by unfold stpW; rw [if_pos s1]; exact m1
  rw [hw1, s1] at hst1
  have HST1 : Hid (∀ w', Below w1.heap.size w1 w' → Calls Try.prog 21 #[X.v a c fa fc q, .agg #[.int .i64 6, .int .i64 h, .int .i64 0, .int .i64 0]] w' (MvR w' X1 0)) := Lib.hid hst1
  have hw2 : stpW false X1 (ofr h N) = X2 := by unfold stpW; rw [if_pos s2]; exact m2
  have HST2 : Hid (∀ w' (a : Option Addr) (c : Nat) (fa : Option Addr) (fc : Nat) (q : List Cq), PtW w' (.slice a q.length c) (.slice fa X1.fr.length fc) q X1 → Calls Try.prog 21 #[X1.v a c fa fc q, .agg #[.int .i64 1, .int .i64 h, .int .i64 (N : Int), .int .i64 0]] w' (MvR w' X2 0)) := Lib.hid (fun w' a c fa fc q hp => by
    have e := step_any w' (X1.v a c fa fc q) X1 (ofr h N) (tg1.sml o1 (by omega)) ⟨_, _, _, rfl, hp⟩
    rw [hw2, s2] at e
    exact e)
  have hw3 : stpW false X2 ⟨2, 0, 0, (X2.fr.length : Int) - 1⟩ = X3 := by unfold stpW; rw [if_pos s3]; exact m3
  have HST3 : Hid (∀ w' (a : Option Addr) (c : Nat) (fa : Option Addr) (fc : Nat) (q : List Cq), PtW w' (.slice a q.length c) (.slice fa X2.fr.length fc) q X2 → Calls Try.prog 21 #[X2.v a c fa fc q, .agg #[.int .i64 2, .int .i64 0, .int .i64 0, .int .i64 ((X2.fr.length : Int) - 1)]] w' (MvR w' X3 0)) := Lib.hid (fun w' a c fa fc q hp => by
    have e := step_any w' (X2.v a c fa fc q) X2 ⟨2, 0, 0, (X2.fr.length : Int) - 1⟩ (tg2.sml o2 (by omega)) ⟨_, _, _, rfl, hp⟩
    rw [hw3, s3] at e
    exact e)
  have hw4 : stpW false X3 ⟨2, 0, 0, (X3.fr.length : Int) - 1⟩ = X4 := by unfold stpW; rw [if_pos s4]; exact m4
  have HST4 : Hid (∀ w' (a : Option Addr) (c : Nat) (fa : Option Addr) (fc : Nat) (q : List Cq), PtW w' (.slice a q.length c) (.slice fa X3.fr.length fc) q X3 → Calls Try.prog 21 #[X3.v a c fa fc q, .agg #[.int .i64 2, .int .i64 0, .int .i64 0, .int .i64 ((X3.fr.length : Int) - 1)]] w' (MvR w' X4 0)) := Lib.hid (fun w' a c fa fc q hp => by
    have e := step_any w' (X3.v a c fa fc q) X3 ⟨2, 0, 0, (X3.fr.length : Int) - 1⟩ (tg3.sml o3 (by omega)) ⟨_, _, _, rfl, hp⟩
    rw [hw4, s4] at e
    exact e)
  have hfl2 := okw_len o2
  have hfl3 := okw_len o3
  have ww2 : IntKind.i64.wrap ((X2.fr.length : Int) - 1) = (X2.fr.length : Int) - 1 := IntWalk.i64_in _ (by omega)
  have ww3 : IntKind.i64.wrap ((X3.fr.length : Int) - 1) = (X3.fr.length : Int) - 1 := IntWalk.i64_in _ (by omega)
  have HL4 := Lib.hid l4
  have HT4 := Lib.hid t4
  have HT3 := Lib.hid t3
  have HR1 := Lib.hid hr1
  have z3 := HIN.out.box.frozen 0
  have z4 := HIN.out.box.frozen 1
  have z5 := HIN.out.box.frozen 2
  have hp1w := HIN.out.box.lt
  clear s1 m1 s2 m2 s3 m3 s4 m4 l4 t4 t3 hm hxs hr1 o1 o2 o3 tg1 tg2 tg3 hst1 hw1 hw2 hw3 hw4 hfl2 hfl3 hK
  go_upto_region 17 with fail
  refine wp_region_noPanic ?_
  refine wp_region_late (fun _ => True) (fun w' => Below w1.heap.size w1 w') [9] (by kernel_rfl) trivial ((Below.refl _ w1).drew) (fun hHeld0 hHeld => ?_)
  refine regG_tk (v := ?_) 0 81 rfl rfl (by kernel_rfl) (by kernel_rfl) (by kernel_rfl) (by kernel_rfl) (by kernel_rfl) (fun _ _ _ h => h) (by rfl) ?_ (by assumption) (by assumption) ?_
  rotate_left
  · (intro w3 hS; (try dsimp only at hS); (have j0 := cell_later hS x0; have j1 := cell_later hS x1; have j2 := cell_later hS x2); go_simp; (try with_reducible rfl))
  simp only [List.setIfInBounds_toArray, List.set_cons_zero, List.set_cons_succ]
  refine reg0_tk (v := ?_) 1 82 rfl rfl (by kernel_rfl) (by kernel_rfl) (by kernel_rfl) (by kernel_rfl) (by kernel_rfl) (fun _ _ _ h => h) (by rfl) ?_ (by assumption) (by assumption) ?_
  rotate_left
  · (intro w3 hS; (try dsimp only at hS); skip; go_simp; (try with_reducible rfl))
  simp only [List.setIfInBounds_toArray, List.set_cons_zero, List.set_cons_succ]
  refine reg0_tk (v := ?_) 2 83 rfl rfl (by kernel_rfl) (by kernel_rfl) (by kernel_rfl) (by kernel_rfl) (by kernel_rfl) (fun _ _ _ h => h) (by rfl) ?_ (by assumption) (by assumption) ?_
  rotate_left
  · (intro w3 hS; (try dsimp only at hS); skip; go_simp; (try with_reducible rfl))
  simp only [List.setIfInBounds_toArray, List.set_cons_zero, List.set_cons_succ]
  refine regG_tk (v := ?_) 3 84 rfl rfl (by kernel_rfl) (by kernel_rfl) (by kernel_rfl) (by kernel_rfl) (by kernel_rfl) (fun _ _ _ h => h) (by rfl) ?_ (by assumption) (by assumption) ?_
  rotate_left
  · (intro w3 hS; (try dsimp only at hS); have j0 := cell_later hS hc; go_simp; (try with_reducible rfl))
  simp only [List.setIfInBounds_toArray, List.set_cons_zero, List.set_cons_succ]
  refine reg0_tk (v := ?_) 4 85 rfl rfl (by kernel_rfl) (by kernel_rfl) (by kernel_rfl) (by kernel_rfl) (by kernel_rfl) (fun _ _ _ h => h) (by rfl) ?_ (by assumption) (by assumption) ?_
  rotate_left
  · (intro w3 hS; (try dsimp only at hS); skip; go_simp; (try with_reducible rfl))
  simp only [List.setIfInBounds_toArray, List.set_cons_zero, List.set_cons_succ]
  refine wpAnyG_oneS (i := 5) (by kernel_rfl) rfl (by rfl) (fun K hK => ?_)
  go_simp
  refine (HST1.out _ (Below.refl _ w1).drew).mono ?_
  rintro e w6 ⟨u, rfl, hb6, hu⟩
  obtain ⟨cv1', fv1', q2, rfl, hp2⟩ := hu
  obtain ⟨a2, c2, rfl⟩ := hp2.pt.rows.form
  obtain ⟨fa2, fc2, rfl⟩ := hp2.pt.frs.form
  have hB6 : Below w1.heap.size w1 w6 := Below.next (Below.refl _ w1).drew hb6
  refine hK _ _ trivial hB6 ?_
  clear hK K
  try simp only [Act.put, List.setIfInBounds_toArray, List.set_cons_zero, List.set_cons_succ]
  refine reg0_tk (v := ?_) 6 80 rfl rfl (by kernel_rfl) (by kernel_rfl) (by kernel_rfl) (by kernel_rfl) (by kernel_rfl) (fun _ _ _ h => h) (by rfl) ?_ (by assumption) (by assumption) ?_
  rotate_left
  · (intro w3 hS; (try dsimp only at hS); skip; go_simp; (try with_reducible rfl))
  simp only [List.setIfInBounds_toArray, List.set_cons_zero, List.set_cons_succ]
  refine reg0_tk (v := ?_) 7 87 rfl rfl (by kernel_rfl) (by kernel_rfl) (by kernel_rfl) (by kernel_rfl) (by kernel_rfl) (fun _ _ _ h => h) (by rfl) ?_ (by assumption) (by assumption) ?_
  rotate_left
  · (intro w3 hS; (try dsimp only at hS); skip; go_simp; (try with_reducible rfl))
  simp only [List.setIfInBounds_toArray, List.set_cons_zero, List.set_cons_succ]
  refine reg0_tk (v := ?_) 8 88 rfl rfl (by kernel_rfl) (by kernel_rfl) (by kernel_rfl) (by kernel_rfl) (by kernel_rfl) (fun _ _ _ h => h) (by rfl) ?_ (by assumption) (by assumption) ?_
  rotate_left
  · (intro w3 hS; (try dsimp only at hS); skip; go_simp; (try with_reducible rfl))
  simp only [List.setIfInBounds_toArray, List.set_cons_zero, List.set_cons_succ]
  have hin1 := (HIN.out.keep hB6).put (hp2.mono (by exact hp1w))
  have k0 := cell_later hB6 x0
  have k1' := cell_later hB6 x1
  have k2 := cell_later hB6 x2
  have r0 := (HIN.out.keep hB6).box.frozen 0
  have r1 := (HIN.out.keep hB6).box.frozen 1
  have r2 := (HIN.out.keep hB6).box.frozen 2
  refine wpAnyG_one (i := 9) (by kernel_rfl) rfl (by rfl) (by kernel_rfl) (fun K hK => ?_)
  go_simp
  refine hK _ _ trivial ?_
  clear hK K
  try simp only [Act.put, List.setIfInBounds_toArray, List.set_cons_zero, List.set_cons_succ]
  refine wpAnyG_one (i := 10) (by kernel_rfl) rfl (by rfl) (by kernel_rfl) (fun K hK => ?_)
  go_simp
  refine hK _ _ trivial ?_
  clear hK K
  try simp only [Act.put, List.setIfInBounds_toArray, List.set_cons_zero, List.set_cons_succ]
  refine wpAnyG_done (by kernel_rfl) ?_ _
  refine NoPanic.normal ?_
  obtain ⟨W7, hW7⟩ : ∃ W7 : World, W7 = ((w6.setCell ⟨p6, 0, none⟩ (.int .i64 X1.ds)).setCell ⟨p6, 1, none⟩ (.slice a2 q2.length c2)).setCell ⟨p6, 2, none⟩ (.slice fa2 X1.fr.length fc2) := ⟨_, rfl⟩
  have hk7 : Kx (fun b => b = p6) w6 W7 := by rw [hW7]; exact ((kx_cell _ _ _ _).setCell (.inl rfl) _).setCell (.inl rfl) _
  rw [← hW7] at hin1 ⊢
  have hc := hk7.cell (p := ⟨sb, so, none⟩) (fun e => hsb e.symm) (cell_later hB6 hc)
  have HB7 : Hid (Below w.heap.size w W7) := Lib.hid ((Below.next HB.out hB6).trans (hk7.below (by have := hB6.size; omega) (fun b e => by rw [e]; exact hwp)))
  have HIN7 := Lib.hid hin1
  clear hW7 hk7 hin1 k0 k1' k2 r0 r1 r2 hp2 hb6 hB6 x0 x1 x2 z3 z4 z5 HIN HB
  have x0 : W7.cell? ⟨p6, 0, none⟩ = some (.int .i64 X1.ds) := HIN7.out.box.cell 0
  have x1 : W7.cell? ⟨p6, 1, none⟩ = some (.slice a2 q2.length c2) := HIN7.out.box.cell 1
  have x2 : W7.cell? ⟨p6, 2, none⟩ = some (.slice fa2 X1.fr.length fc2) := HIN7.out.box.cell 2
  have HPK := Lib.hid (fun w' (hb : Below W7.heap.size W7 w') => (HIN7.out.keep hb).rd)
  go_upto_region 18 with fail
  go_cut [14, 15] (fun s9 s10 wy => ∃ (p9 : Nat) (a' : Option Addr) (c' : Nat) (fa' : Option Addr) (fc' : Nat) (q' : List Cq), s9 = ptr p9 ∧ s10 = .int .i64 0 ∧ BoxN wy p9 25 #[.int .i64 X2.ds, .slice a' q'.length c', .slice fa' X2.fr.length fc'] ∧ PtF wy W7.heap.size (.slice a' q'.length c') (.slice fa' X2.fr.length fc') q' X2 ∧ Below W7.heap.size W7 wy)
  case first =>
    as_aux_lemma =>
    refine wp_region_noPanic ?_
    refine wp_region_held_drew (S := (fun w' => Below W7.heap.size W7 w')) (by kernel_rfl) ((Below.refl _ W7).drew) (fun hHeld => ?_)
    refine reg_tk (v := X1.v a2 c2 fa2 fc2 q2) 0 90 rfl rfl (by kernel_rfl) (by kernel_rfl) (by kernel_rfl) (fun _ _ _ h => h) (by rfl) (fun w3 hS => by (have j0 := cell_later hS x0; have j1 := cell_later hS x1; have j2 := cell_later hS x2); go_simp) (by assumption) ?_
    simp only [List.setIfInBounds_toArray, List.set_cons_zero, List.set_cons_succ]
    refine reg_tk (v := ?_) 1 91 rfl rfl (by kernel_rfl) (by kernel_rfl) (by kernel_rfl) (fun _ _ _ h => h) (by rfl) ?_ (by assumption) ?_
    rotate_left
    · (intro w hSw; (try dsimp only at hSw); go_simp; (try with_reducible rfl))
    simp only [List.setIfInBounds_toArray, List.set_cons_zero, List.set_cons_succ]
    refine reg_tk (v := .pointer (some ⟨sb, so, none⟩)) 2 92 rfl rfl (by kernel_rfl) (by kernel_rfl) (by kernel_rfl) (fun _ _ _ h => h) (by rfl) (fun w3 hS => by skip; go_simp) (by assumption) ?_
    simp only [List.setIfInBounds_toArray, List.set_cons_zero, List.set_cons_succ]
    refine reg_tk (v := .int .i64 h) 3 93 rfl rfl (by kernel_rfl) (by kernel_rfl) (by kernel_rfl) (fun _ _ _ h => h) (by rfl) (fun w3 hS => by have j0 := cell_later hS hc; go_simp) (by assumption) ?_
    simp only [List.setIfInBounds_toArray, List.set_cons_zero, List.set_cons_succ]
    refine reg_tk (v := ?_) 4 94 rfl rfl (by kernel_rfl) (by kernel_rfl) (by kernel_rfl) (fun _ _ _ h => h) (by rfl) ?_ (by assumption) ?_
    rotate_left
    · (intro w hSw; (try dsimp only at hSw); go_simp; (try with_reducible rfl))
    simp only [List.setIfInBounds_toArray, List.set_cons_zero, List.set_cons_succ]
    have hB0 : Below W7.heap.size W7 W7.drew := (Below.refl _ W7).drew
    refine wpAnyH_ready (rs := [5, 10]) (by kernel_rfl) (by simp) ?_
    refine AllReadyH.cons rfl (fun K hK => ?_) (AllReadyH.cons rfl (fun K hK => ?_) AllReadyH.nil)
    · go_simp
      refine (offer_any h (N : Int) _).mono ?_
      rintro e v1 ⟨rfl, hb1⟩
      have hB1 : Below W7.heap.size W7 v1 := Below.next hB0 hb1
      refine hK.out _ _ hB1 (fun hHeld2 => ?_)
      clear hK K hHeld
      have hHeld := hHeld2
      clear hHeld2
      try simp only [Act.put, List.setIfInBounds_toArray, List.set_cons_zero, List.set_cons_succ]
      refine wpAnyH_ready (rs := [6, 10]) (by kernel_rfl) (by simp) ?_
      refine AllReadyH.cons rfl (fun K hK => ?_) (AllReadyH.cons rfl (fun K hK => ?_) AllReadyH.nil)
      · have hle := (hB1).size
        go_simp
        refine (HST2.out _ a2 c2 fa2 fc2 q2 (HPK.out _ hB1)).mono ?_
        rintro e v2 ⟨u, rfl, hb2, hu⟩
        obtain ⟨cv3, fv3, q3, rfl, hpt⟩ := hu
        obtain ⟨a3, c3, rfl⟩ := hpt.pt.rows.form
        obtain ⟨fa3, fc3, rfl⟩ := hpt.pt.frs.form
        have hB2 : Below W7.heap.size W7 v2 := Below.next hB1 hb2
        refine hK.out _ _ hB2 (fun hHeld2 => ?_)
        clear hK K hHeld
        have hHeld := hHeld2
        clear hHeld2
        try simp only [Act.put, List.setIfInBounds_toArray, List.set_cons_zero, List.set_cons_succ]
        refine reg_tk (v := ?_) 7 89 rfl rfl (by kernel_rfl) (by kernel_rfl) (by kernel_rfl) (fun _ _ _ h => h) (by rfl) ?_ (by assumption) ?_
        rotate_left
        · (intro w hSw; (try dsimp only at hSw); go_simp; (try with_reducible rfl))
        simp only [List.setIfInBounds_toArray, List.set_cons_zero, List.set_cons_succ]
        refine reg_tk (v := ?_) 8 97 rfl rfl (by kernel_rfl) (by kernel_rfl) (by kernel_rfl) (fun _ _ _ h => h) (by rfl) ?_ (by assumption) ?_
        rotate_left
        · (intro w hSw; (try dsimp only at hSw); go_simp; (try with_reducible rfl))
        simp only [List.setIfInBounds_toArray, List.set_cons_zero, List.set_cons_succ]
        refine reg_tk (v := ?_) 9 98 rfl rfl (by kernel_rfl) (by kernel_rfl) (by kernel_rfl) (fun _ _ _ h => h) (by rfl) ?_ (by assumption) ?_
        rotate_left
        · (intro w hSw; (try dsimp only at hSw); go_simp; (try with_reducible rfl))
        simp only [List.setIfInBounds_toArray, List.set_cons_zero, List.set_cons_succ]
        refine wpAnyH_ready (rs := [10]) (by kernel_rfl) (by simp) ?_
        refine AllReadyH.cons rfl (fun K hK => ?_) AllReadyH.nil
        go_simp
        refine hK.out _ _ (Below.al hB2 _) (fun hHeld2 => ?_)
        clear hK K hHeld
        have hHeld := hHeld2
        clear hHeld2
        try simp only [Act.put, List.setIfInBounds_toArray, List.set_cons_zero, List.set_cons_succ]
        refine wpAnyH_ready (rs := [11]) (by kernel_rfl) (by simp) ?_
        refine AllReadyH.cons rfl (fun K hK => ?_) AllReadyH.nil
        go_simp
        obtain ⟨W3, hW3⟩ : ∃ V : World, V = World.alloc v2 (.cells #[.int .i64 X2.ds, .slice a3 q3.length c3, .slice fa3 X2.fr.length fc3] 25) := ⟨_, rfl⟩
        have b3 : BoxN W3 (v2.heap.size) 25 #[.int .i64 X2.ds, .slice a3 q3.length c3, .slice fa3 X2.fr.length fc3] := by rw [hW3]; exact BoxN.new _ _ _
        have hb3 : Below (World.heap v2).size v2 W3 := by rw [hW3]; exact (by repeat (first | assumption | exact Below.refl _ _ | apply Below.al | apply below_drewN | apply Below.drew | refine Below.next ?_ (by assumption)))
        have hB3 := Below.next hB2 hb3
        have hz3 := (hB2).size
        have hp3 : PtF W3 W7.heap.size (.slice a3 q3.length c3) (.slice fa3 X2.fr.length fc3) q3 X2 := (hpt.keep hb3).mono hle
        rw [← hW3]
        refine hK.out _ _ hB3 (fun hHeld2 => ?_)
        clear hK K hHeld
        have hHeld := hHeld2
        clear hHeld2
        try simp only [Act.put, List.setIfInBounds_toArray, List.set_cons_zero, List.set_cons_succ]
        refine reg_tk (v := ?_) 12 15 rfl rfl (by kernel_rfl) (by kernel_rfl) (by kernel_rfl) (fun _ _ _ h => h) (by rfl) ?_ (by assumption) ?_
        rotate_left
        · (intro w hSw; (try dsimp only at hSw); go_simp; (try with_reducible rfl))
        simp only [List.setIfInBounds_toArray, List.set_cons_zero, List.set_cons_succ]
        refine wpAnyH_done (by kernel_rfl) ?_ _
        refine NoPanic.normal ?_
        clear hHeld hW3 hb3
        go_wp2_with fail
        go_meet
        exact ⟨_, _, _, _, _, _, rfl, rfl, b3, hp3, hB3⟩
      · go_simp
        have hal := Below.al hB1 (.cells #[.int .i64 0, .slice none 0 0, .slice none 0 0] 25)
        refine hK.out _ _ hal (fun hHeld2 => ?_)
        clear hK K hHeld
        have hHeld := hHeld2
        clear hHeld2
        try simp only [Act.put, List.setIfInBounds_toArray, List.set_cons_zero, List.set_cons_succ]
        have bzA : BoxN (World.alloc v1 (.cells #[.int .i64 0, .slice none 0 0, .slice none 0 0] 25)) (v1.heap.size) 25 #[.int .i64 0, .slice none 0 0, .slice none 0 0] := BoxN.new _ _ _
        have hza : W7.heap.size ≤ v1.heap.size := (hB1).size
        refine wpAnyH_ready (rs := [6]) (by kernel_rfl) (by simp) ?_
        refine AllReadyH.cons rfl (fun K hK => ?_) AllReadyH.nil
        have hle := (hal).size
        have hzl := bzA.lt
        go_simp
        refine (HST2.out _ a2 c2 fa2 fc2 q2 (HPK.out _ hal)).mono ?_
        rintro e v2 ⟨u, rfl, hb2, hu⟩
        obtain ⟨cv3, fv3, q3, rfl, hpt⟩ := hu
        obtain ⟨a3, c3, rfl⟩ := hpt.pt.rows.form
        obtain ⟨fa3, fc3, rfl⟩ := hpt.pt.frs.form
        have hB2 : Below W7.heap.size W7 v2 := Below.next hal hb2
        have bz2 : BoxN v2 (v1.heap.size) 25 #[.int .i64 0, .slice none 0 0, .slice none 0 0] := bzA.below hb2
        refine hK.out _ _ hB2 (fun hHeld2 => ?_)
        clear hK K hHeld
        have hHeld := hHeld2
        clear hHeld2
        try simp only [Act.put, List.setIfInBounds_toArray, List.set_cons_zero, List.set_cons_succ]
        refine reg_tk (v := ?_) 7 89 rfl rfl (by kernel_rfl) (by kernel_rfl) (by kernel_rfl) (fun _ _ _ h => h) (by rfl) ?_ (by assumption) ?_
        rotate_left
        · (intro w hSw; (try dsimp only at hSw); go_simp; (try with_reducible rfl))
        simp only [List.setIfInBounds_toArray, List.set_cons_zero, List.set_cons_succ]
        refine reg_tk (v := ?_) 8 97 rfl rfl (by kernel_rfl) (by kernel_rfl) (by kernel_rfl) (fun _ _ _ h => h) (by rfl) ?_ (by assumption) ?_
        rotate_left
        · (intro w hSw; (try dsimp only at hSw); go_simp; (try with_reducible rfl))
        simp only [List.setIfInBounds_toArray, List.set_cons_zero, List.set_cons_succ]
        refine reg_tk (v := ?_) 9 98 rfl rfl (by kernel_rfl) (by kernel_rfl) (by kernel_rfl) (fun _ _ _ h => h) (by rfl) ?_ (by assumption) ?_
        rotate_left
        · (intro w hSw; (try dsimp only at hSw); go_simp; (try with_reducible rfl))
        simp only [List.setIfInBounds_toArray, List.set_cons_zero, List.set_cons_succ]
        have t0 : World.cell? v2 ⟨v1.heap.size, 0, none⟩ = some (.int .i64 0) := bz2.cell 0
        have y0 := bz2.frozen 0
        have t1 : World.cell? v2 ⟨v1.heap.size, 1, none⟩ = some (.slice none 0 0) := bz2.cell 1
        have y1 := bz2.frozen 1
        have t2 : World.cell? v2 ⟨v1.heap.size, 2, none⟩ = some (.slice none 0 0) := bz2.cell 2
        have y2 := bz2.frozen 2
        refine wpAnyH_ready (rs := [11]) (by kernel_rfl) (by simp) ?_
        refine AllReadyH.cons rfl (fun K hK => ?_) AllReadyH.nil
        go_simp
        obtain ⟨W3, hW3⟩ : ∃ V : World, V = ((World.setCell v2 ⟨v1.heap.size, 0, none⟩ (.int .i64 X2.ds)).setCell ⟨v1.heap.size, 1, none⟩ (.slice a3 q3.length c3)).setCell ⟨v1.heap.size, 2, none⟩ (.slice fa3 X2.fr.length fc3) := ⟨_, rfl⟩
        have b3 : BoxN W3 (v1.heap.size) 25 #[.int .i64 X2.ds, .slice a3 q3.length c3, .slice fa3 X2.fr.length fc3] := by rw [hW3]; exact (((bz2).setc 0 _).setc 1 _).setc 2 _
        have hB3 : Below W7.heap.size W7 W3 := by rw [hW3]; exact ((hB2.setCell (p := ⟨v1.heap.size, 0, none⟩) hza _).setCell (p := ⟨v1.heap.size, 1, none⟩) hza _).setCell (p := ⟨v1.heap.size, 2, none⟩) hza _
        have hp3 : PtF W3 W7.heap.size (.slice a3 q3.length c3) (.slice fa3 X2.fr.length fc3) q3 X2 := by rw [hW3]; exact (((hpt.set (p := ⟨v1.heap.size, 0, none⟩) _ hzl).set (p := ⟨v1.heap.size, 1, none⟩) _ hzl).set (p := ⟨v1.heap.size, 2, none⟩) _ hzl).mono hle
        rw [← hW3]
        refine hK.out _ _ hB3 (fun hHeld2 => ?_)
        clear hK K hHeld
        have hHeld := hHeld2
        clear hHeld2
        try simp only [Act.put, List.setIfInBounds_toArray, List.set_cons_zero, List.set_cons_succ]
        refine reg_tk (v := ?_) 12 15 rfl rfl (by kernel_rfl) (by kernel_rfl) (by kernel_rfl) (fun _ _ _ h => h) (by rfl) ?_ (by assumption) ?_
        rotate_left
        · (intro w hSw; (try dsimp only at hSw); go_simp; (try with_reducible rfl))
        simp only [List.setIfInBounds_toArray, List.set_cons_zero, List.set_cons_succ]
        refine wpAnyH_done (by kernel_rfl) ?_ _
        refine NoPanic.normal ?_
        clear hHeld hW3 t0 y0 t1 y1 t2 y2
        go_wp2_with fail
        go_meet
        exact ⟨_, _, _, _, _, _, rfl, rfl, b3, hp3, hB3⟩
    · go_simp
      have hal := Below.al hB0 (.cells #[.int .i64 0, .slice none 0 0, .slice none 0 0] 25)
      refine hK.out _ _ hal (fun hHeld2 => ?_)
      clear hK K hHeld
      have hHeld := hHeld2
      clear hHeld2
      try simp only [Act.put, List.setIfInBounds_toArray, List.set_cons_zero, List.set_cons_succ]
      have bzA : BoxN (World.alloc W7.drew (.cells #[.int .i64 0, .slice none 0 0, .slice none 0 0] 25)) (W7.heap.size) 25 #[.int .i64 0, .slice none 0 0, .slice none 0 0] := BoxN.new _ _ _
      have hza : W7.heap.size ≤ W7.heap.size := (hB0).size
      refine wpAnyH_ready (rs := [5]) (by kernel_rfl) (by simp) ?_
      refine AllReadyH.cons rfl (fun K hK => ?_) AllReadyH.nil
      go_simp
      refine (offer_any h (N : Int) _).mono ?_
      rintro e v1 ⟨rfl, hb1⟩
      have hB1 : Below W7.heap.size W7 v1 := Below.next hal hb1
      have bz1 : BoxN v1 (W7.heap.size) 25 #[.int .i64 0, .slice none 0 0, .slice none 0 0] := bzA.below hb1
      refine hK.out _ _ hB1 (fun hHeld2 => ?_)
      clear hK K hHeld
      have hHeld := hHeld2
      clear hHeld2
      try simp only [Act.put, List.setIfInBounds_toArray, List.set_cons_zero, List.set_cons_succ]
      refine wpAnyH_ready (rs := [6]) (by kernel_rfl) (by simp) ?_
      refine AllReadyH.cons rfl (fun K hK => ?_) AllReadyH.nil
      have hle := (hB1).size
      have hzl := bz1.lt
      go_simp
      refine (HST2.out _ a2 c2 fa2 fc2 q2 (HPK.out _ hB1)).mono ?_
      rintro e v2 ⟨u, rfl, hb2, hu⟩
      obtain ⟨cv3, fv3, q3, rfl, hpt⟩ := hu
      obtain ⟨a3, c3, rfl⟩ := hpt.pt.rows.form
      obtain ⟨fa3, fc3, rfl⟩ := hpt.pt.frs.form
      have hB2 : Below W7.heap.size W7 v2 := Below.next hB1 hb2
      have bz2 : BoxN v2 (W7.heap.size) 25 #[.int .i64 0, .slice none 0 0, .slice none 0 0] := bz1.below hb2
      refine hK.out _ _ hB2 (fun hHeld2 => ?_)
      clear hK K hHeld
      have hHeld := hHeld2
      clear hHeld2
      try simp only [Act.put, List.setIfInBounds_toArray, List.set_cons_zero, List.set_cons_succ]
      refine reg_tk (v := ?_) 7 89 rfl rfl (by kernel_rfl) (by kernel_rfl) (by kernel_rfl) (fun _ _ _ h => h) (by rfl) ?_ (by assumption) ?_
      rotate_left
      · (intro w hSw; (try dsimp only at hSw); go_simp; (try with_reducible rfl))
      simp only [List.setIfInBounds_toArray, List.set_cons_zero, List.set_cons_succ]
      refine reg_tk (v := ?_) 8 97 rfl rfl (by kernel_rfl) (by kernel_rfl) (by kernel_rfl) (fun _ _ _ h => h) (by rfl) ?_ (by assumption) ?_
      rotate_left
      · (intro w hSw; (try dsimp only at hSw); go_simp; (try with_reducible rfl))
      simp only [List.setIfInBounds_toArray, List.set_cons_zero, List.set_cons_succ]
      refine reg_tk (v := ?_) 9 98 rfl rfl (by kernel_rfl) (by kernel_rfl) (by kernel_rfl) (fun _ _ _ h => h) (by rfl) ?_ (by assumption) ?_
      rotate_left
      · (intro w hSw; (try dsimp only at hSw); go_simp; (try with_reducible rfl))
      simp only [List.setIfInBounds_toArray, List.set_cons_zero, List.set_cons_succ]
      have t0 : World.cell? v2 ⟨W7.heap.size, 0, none⟩ = some (.int .i64 0) := bz2.cell 0
      have y0 := bz2.frozen 0
      have t1 : World.cell? v2 ⟨W7.heap.size, 1, none⟩ = some (.slice none 0 0) := bz2.cell 1
      have y1 := bz2.frozen 1
      have t2 : World.cell? v2 ⟨W7.heap.size, 2, none⟩ = some (.slice none 0 0) := bz2.cell 2
      have y2 := bz2.frozen 2
      refine wpAnyH_ready (rs := [11]) (by kernel_rfl) (by simp) ?_
      refine AllReadyH.cons rfl (fun K hK => ?_) AllReadyH.nil
      go_simp
      obtain ⟨W3, hW3⟩ : ∃ V : World, V = ((World.setCell v2 ⟨W7.heap.size, 0, none⟩ (.int .i64 X2.ds)).setCell ⟨W7.heap.size, 1, none⟩ (.slice a3 q3.length c3)).setCell ⟨W7.heap.size, 2, none⟩ (.slice fa3 X2.fr.length fc3) := ⟨_, rfl⟩
      have b3 : BoxN W3 (W7.heap.size) 25 #[.int .i64 X2.ds, .slice a3 q3.length c3, .slice fa3 X2.fr.length fc3] := by rw [hW3]; exact (((bz2).setc 0 _).setc 1 _).setc 2 _
      have hB3 : Below W7.heap.size W7 W3 := by rw [hW3]; exact ((hB2.setCell (p := ⟨W7.heap.size, 0, none⟩) hza _).setCell (p := ⟨W7.heap.size, 1, none⟩) hza _).setCell (p := ⟨W7.heap.size, 2, none⟩) hza _
      have hp3 : PtF W3 W7.heap.size (.slice a3 q3.length c3) (.slice fa3 X2.fr.length fc3) q3 X2 := by rw [hW3]; exact (((hpt.set (p := ⟨W7.heap.size, 0, none⟩) _ hzl).set (p := ⟨W7.heap.size, 1, none⟩) _ hzl).set (p := ⟨W7.heap.size, 2, none⟩) _ hzl).mono hle
      rw [← hW3]
      refine hK.out _ _ hB3 (fun hHeld2 => ?_)
      clear hK K hHeld
      have hHeld := hHeld2
      clear hHeld2
      try simp only [Act.put, List.setIfInBounds_toArray, List.set_cons_zero, List.set_cons_succ]
      refine reg_tk (v := ?_) 12 15 rfl rfl (by kernel_rfl) (by kernel_rfl) (by kernel_rfl) (fun _ _ _ h => h) (by rfl) ?_ (by assumption) ?_
      rotate_left
      · (intro w hSw; (try dsimp only at hSw); go_simp; (try with_reducible rfl))
      simp only [List.setIfInBounds_toArray, List.set_cons_zero, List.set_cons_succ]
      refine wpAnyH_done (by kernel_rfl) ?_ _
      refine NoPanic.normal ?_
      clear hHeld hW3 t0 y0 t1 y1 t2 y2
      go_wp2_with fail
      go_meet
      exact ⟨_, _, _, _, _, _, rfl, rfl, b3, hp3, hB3⟩
  case rest =>
  clear HST1 HST2 HPK x0 x1 x2
  obtain ⟨p14, a3, c3, fa3, fc3, q3, rfl, rfl, b3, r3, hb3⟩ := hcut
  rename World => wy
  have y0 : wy.cell? ⟨p14, 0, none⟩ = some (.int .i64 X2.ds) := b3.cell 0
  have y1 : wy.cell? ⟨p14, 1, none⟩ = some (.slice a3 q3.length c3) := b3.cell 1
  have y2 : wy.cell? ⟨p14, 2, none⟩ = some (.slice fa3 X2.fr.length fc3) := b3.cell 2
  have hc := cell_later hb3 hc
  have HB8 := Lib.hid (Below.next HB7.out hb3)
  have HC3 := Lib.hid (HST3.out wy a3 c3 fa3 fc3 q3 r3.pt)
  clear b3 r3 hb3 HB7 HIN7
  go_wp2_with fail
  refine HC3.out.mono ?_
  rintro e w8 ⟨u, rfl, hb8, hu⟩
  obtain ⟨cv4, fv4, q4, rfl, hp4⟩ := hu
  obtain ⟨a4, c4, rfl⟩ := hp4.pt.rows.form
  obtain ⟨fa4, fc4, rfl⟩ := hp4.pt.frs.form
  obtain ⟨W8, HN9⟩ : ∃ V : World, Hid (V = (w8).alloc (.cells #[.int .i64 (X3).ds, .slice a4 (q4).length c4, .slice fa4 (X3).fr.length fc4] 25)) := ⟨_, Lib.hid rfl⟩
  obtain ⟨p16, HPN9⟩ : ∃ p, Hid ((w8).heap.size = p) := ⟨_, Lib.hid rfl⟩
  go_upto_region 20 with fail
  rw [← HN9.out]
  have hbn : Below (w8).heap.size w8 W8 := by rw [HN9.out]; exact (by repeat (first | assumption | exact Below.refl _ _ | apply Below.al | apply below_drewN | apply Below.drew | refine Below.next ?_ (by assumption)))
  have hbox : BoxN W8 p16 25 #[.int .i64 (X3).ds, .slice a4 (q4).length c4, .slice fa4 (X3).fr.length fc4] := by rw [HN9.out, ← HPN9.out]; exact BoxN.new _ _ _
  rw [HPN9.out]
  clear HN9
  have y0 : W8.cell? ⟨p16, 0, none⟩ = some (.int .i64 X3.ds) := hbox.cell 0
  have y1 : W8.cell? ⟨p16, 1, none⟩ = some (.slice a4 q4.length c4) := hbox.cell 1
  have y2 : W8.cell? ⟨p16, 2, none⟩ = some (.slice fa4 X3.fr.length fc4) := hbox.cell 2
  have hb88 := Below.next hb8 hbn
  have hc := cell_later hb88 hc
  have HB9 := Lib.hid (Below.next HB8.out hb88)
  have HC4 := Lib.hid (HST4.out W8 a4 c4 fa4 fc4 q4 (hp4.pt.keep hbn))
  clear hp4 hb8 hbn hb88 hbox HB8 HPN9 HC3 HST3 HST4
  go_wp2_with fail
  refine HC4.out.mono ?_
  rintro e w10 ⟨u, rfl, hb10, hu⟩
  obtain ⟨cv5, fv5, q5, rfl, hp5⟩ := hu
  obtain ⟨a5, c4', rfl⟩ := hp5.pt.rows.form
  obtain ⟨fa5, fc5, rfl⟩ := hp5.pt.frs.form
  obtain ⟨W10, HN9⟩ : ∃ V : World, Hid (V = (w10).alloc (.cells #[.int .i64 (X4).ds, .slice a5 (q5).length c4', .slice fa5 (X4).fr.length fc5] 25)) := ⟨_, Lib.hid rfl⟩
  obtain ⟨p18, HPN9⟩ : ∃ p, Hid ((w10).heap.size = p) := ⟨_, Lib.hid rfl⟩
  go_upto_region 21 with fail
  rw [← HN9.out]
  have hbn : Below (w10).heap.size w10 W10 := by rw [HN9.out]; exact (by repeat (first | assumption | exact Below.refl _ _ | apply Below.al | apply below_drewN | apply Below.drew | refine Below.next ?_ (by assumption)))
  have hbox : BoxN W10 p18 25 #[.int .i64 (X4).ds, .slice a5 (q5).length c4', .slice fa5 (X4).fr.length fc5] := by rw [HN9.out, ← HPN9.out]; exact BoxN.new _ _ _
  rw [HPN9.out]
  clear HN9
  have hq5 : q5.length = N := by rw [hp5.pt.len]; exact HL4.out
  have hp5' := hp5.pt.keep hbn
  have u1 : W10.cell? ⟨p18, 1, none⟩ = some (.slice a5 N c4') := by rw [← hq5]; exact hbox.cell 1
  have hrw : RdL cpR W10 (.slice a5 N c4') q5 := by rw [← hq5]; exact hp5'.rows
  obtain ⟨M, hM⟩ : ∃ M, N = M + 1 := ⟨N - 1, by omega⟩
  obtain ⟨b4, o4, he4, _, g4, _⟩ := RdC.at hrw hq5 M (by omega)
  subst he4
  obtain ⟨b4', o4', he5, _, g3, _⟩ := RdC.at hrw hq5 r hrl
  simp only [Option.some.injEq, Addr.mk.injEq, and_true] at he5
  obtain ⟨rfl, rfl⟩ := he5
  have e4 : (gq q5 M).st = 4 := by
    rw [(hp5'.cop M).st]
    have e := HT4.out
    unfold atC at e
    rw [show ((N : Int) - 1).toNat = M by omega] at e
    exact e
  have e3 : (gq q5 r).st = 3 := by
    rw [(hp5'.cop r).st]
    have e := HT3.out
    unfold atC at e
    rw [show (h - 1).toNat = r by have := HR1.out; omega] at e
    exact e
  rw [e4] at g4
  rw [e3] at g3
  have hb99 := Below.next hb10 hbn
  have hc := cell_later hb99 hc
  have HB11 := Lib.hid (Below.next HB9.out hb99)
  obtain ⟨c4, hc4⟩ : ∃ c, c4' = c := ⟨_, rfl⟩
  rw [hc4] at u1
  have vM : IntKind.i64.wrap ((N : Int) - 1) = (M : Int) := by rw [show (N : Int) - 1 = (M : Int) by omega]; exact IntWalk.i64_in _ (by omega)
  have vR : IntKind.i64.wrap (h - 1) = (r : Int) := by rw [show h - 1 = (r : Int) by have := HR1.out; omega]; exact IntWalk.i64_in _ (by omega)
  have i1 : (0 : Int) ≤ (M : Int) := by omega
  have i2 : (M : Int) < (N : Int) := by omega
  have i3 : (0 : Int) ≤ (r : Int) := by omega
  have i4 : (r : Int) < (N : Int) := by omega
  have vM2 : IntKind.i64.wrap (M : Int) = (M : Int) := IntWalk.i64_in _ (by omega)
  have vR2 : IntKind.i64.wrap (r : Int) = (r : Int) := IntWalk.i64_in _ (by omega)
  have dN : ((N : Int) == (N : Int)) = true := by simp
  clear hp5 hp5' hb10 hbn hb99 hbox HB9 HPN9 HC4 hrw hq5 e3 e4 hM y0 y1 y2 hc4
  refine wp_region_noPanic ?_
  refine wp_region_held_drew (S := (fun w' => Below W10.heap.size W10 w')) (by kernel_rfl) ((Below.refl _ W10).drew) (fun hHeld => ?_)
  refine reg_tk (v := ?_) 0 119 rfl rfl (by kernel_rfl) (by kernel_rfl) (by kernel_rfl) (fun _ _ _ h => h) (by rfl) ?_ (by assumption) ?_
  rotate_left
  · (intro w hSw; (try dsimp only at hSw); go_simp; (try with_reducible rfl))
  simp only [List.setIfInBounds_toArray, List.set_cons_zero, List.set_cons_succ]
  refine reg_tk (v := ?_) 1 120 rfl rfl (by kernel_rfl) (by kernel_rfl) (by kernel_rfl) (fun _ _ _ h => h) (by rfl) ?_ (by assumption) ?_
  rotate_left
  · (intro w hSw; (try dsimp only at hSw); go_simp; (try with_reducible rfl))
  simp only [List.setIfInBounds_toArray, List.set_cons_zero, List.set_cons_succ]
  refine reg_tk (v := ?_) 2 121 rfl rfl (by kernel_rfl) (by kernel_rfl) (by kernel_rfl) (fun _ _ _ h => h) (by rfl) ?_ (by assumption) ?_
  rotate_left
  · (intro w hSw; (try dsimp only at hSw); go_simp; (try with_reducible rfl))
  simp only [List.setIfInBounds_toArray, List.set_cons_zero, List.set_cons_succ]
  refine reg_tk (v := ?_) 3 122 rfl rfl (by kernel_rfl) (by kernel_rfl) (by kernel_rfl) (fun _ _ _ h => h) (by rfl) ?_ (by assumption) ?_
  rotate_left
  · (intro w hSw; (try dsimp only at hSw); go_simp; (try with_reducible rfl))
  simp only [List.setIfInBounds_toArray, List.set_cons_zero, List.set_cons_succ]
  refine reg_tk (v := ?_) 4 123 rfl rfl (by kernel_rfl) (by kernel_rfl) (by kernel_rfl) (fun _ _ _ h => h) (by rfl) ?_ (by assumption) ?_
  rotate_left
  · (intro w hSw; (try dsimp only at hSw); go_simp; (try with_reducible rfl))
  simp only [List.setIfInBounds_toArray, List.set_cons_zero, List.set_cons_succ]
  refine reg_tk (v := ?_) 5 124 rfl rfl (by kernel_rfl) (by kernel_rfl) (by kernel_rfl) (fun _ _ _ h => h) (by rfl) ?_ (by assumption) ?_
  rotate_left
  · (intro w hSw; (try dsimp only at hSw); go_simp; (try with_reducible rfl))
  simp only [List.setIfInBounds_toArray, List.set_cons_zero, List.set_cons_succ]
  refine reg_tk (v := ?_) 6 125 rfl rfl (by kernel_rfl) (by kernel_rfl) (by kernel_rfl) (fun _ _ _ h => h) (by rfl) ?_ (by assumption) ?_
  rotate_left
  · (intro w hSw; (try dsimp only at hSw); go_simp; (try with_reducible rfl))
  simp only [List.setIfInBounds_toArray, List.set_cons_zero, List.set_cons_succ]
  refine reg_tk (v := ?_) 7 126 rfl rfl (by kernel_rfl) (by kernel_rfl) (by kernel_rfl) (fun _ _ _ h => h) (by rfl) ?_ (by assumption) ?_
  rotate_left
  · (intro w hSw; (try dsimp only at hSw); go_simp; (try with_reducible rfl))
  simp only [List.setIfInBounds_toArray, List.set_cons_zero, List.set_cons_succ]
  refine reg_tk (v := ?_) 8 127 rfl rfl (by kernel_rfl) (by kernel_rfl) (by kernel_rfl) (fun _ _ _ h => h) (by rfl) ?_ (by assumption) ?_
  rotate_left
  · (intro w hSw; (try dsimp only at hSw); go_simp; (try with_reducible rfl))
  simp only [List.setIfInBounds_toArray, List.set_cons_zero, List.set_cons_succ]
  refine reg_tk (v := ?_) 9 128 rfl rfl (by kernel_rfl) (by kernel_rfl) (by kernel_rfl) (fun _ _ _ h => h) (by rfl) ?_ (by assumption) ?_
  rotate_left
  · (intro w hSw; (try dsimp only at hSw); go_simp; (try with_reducible rfl))
  simp only [List.setIfInBounds_toArray, List.set_cons_zero, List.set_cons_succ]
  refine reg_tk (v := ?_) 10 129 rfl rfl (by kernel_rfl) (by kernel_rfl) (by kernel_rfl) (fun _ _ _ h => h) (by rfl) ?_ (by assumption) ?_
  rotate_left
  · (intro w hSw; (try dsimp only at hSw); go_simp; (try with_reducible rfl))
  simp only [List.setIfInBounds_toArray, List.set_cons_zero, List.set_cons_succ]
  refine reg_tk (v := ?_) 11 130 rfl rfl (by kernel_rfl) (by kernel_rfl) (by kernel_rfl) (fun _ _ _ h => h) (by rfl) ?_ (by assumption) ?_
  rotate_left
  · (intro w hSw; (try dsimp only at hSw); go_simp; (try with_reducible rfl))
  simp only [List.setIfInBounds_toArray, List.set_cons_zero, List.set_cons_succ]
  refine reg_tk (v := ?_) 12 131 rfl rfl (by kernel_rfl) (by kernel_rfl) (by kernel_rfl) (fun _ _ _ h => h) (by rfl) ?_ (by assumption) ?_
  rotate_left
  · (intro w hSw; (try dsimp only at hSw); go_simp; (try with_reducible rfl))
  simp only [List.setIfInBounds_toArray, List.set_cons_zero, List.set_cons_succ]
  refine reg_tk (v := ?_) 13 132 rfl rfl (by kernel_rfl) (by kernel_rfl) (by kernel_rfl) (fun _ _ _ h => h) (by rfl) ?_ (by assumption) ?_
  rotate_left
  · (intro w hSw; (try dsimp only at hSw); go_simp; (try with_reducible rfl))
  simp only [List.setIfInBounds_toArray, List.set_cons_zero, List.set_cons_succ]
  refine reg_tk (v := ?_) 14 133 rfl rfl (by kernel_rfl) (by kernel_rfl) (by kernel_rfl) (fun _ _ _ h => h) (by rfl) ?_ (by assumption) ?_
  rotate_left
  · (intro w hSw; (try dsimp only at hSw); go_simp; (try with_reducible rfl))
  simp only [List.setIfInBounds_toArray, List.set_cons_zero, List.set_cons_succ]
  refine reg_tk (v := ?_) 15 134 rfl rfl (by kernel_rfl) (by kernel_rfl) (by kernel_rfl) (fun _ _ _ h => h) (by rfl) ?_ (by assumption) ?_
  rotate_left
  · (intro w hSw; (try dsimp only at hSw); go_simp; (try with_reducible rfl))
  simp only [List.setIfInBounds_toArray, List.set_cons_zero, List.set_cons_succ]
  refine reg_tk (v := .slice (some ⟨b4, o4, none⟩) N c4) 16 135 rfl rfl (by kernel_rfl) (by kernel_rfl) (by kernel_rfl) (fun _ _ _ h => h) (by rfl) (fun w3 hS => by have j1 := cell_later hS u1; go_simp) (by assumption) ?_
  simp only [List.setIfInBounds_toArray, List.set_cons_zero, List.set_cons_succ]
  refine reg_tk (v := ?_) 17 136 rfl rfl (by kernel_rfl) (by kernel_rfl) (by kernel_rfl) (fun _ _ _ h => h) (by rfl) ?_ (by assumption) ?_
  rotate_left
  · (intro w hSw; (try dsimp only at hSw); go_simp; (try with_reducible rfl))
  simp only [List.setIfInBounds_toArray, List.set_cons_zero, List.set_cons_succ]
  refine reg_tk (v := ?_) 18 137 rfl rfl (by kernel_rfl) (by kernel_rfl) (by kernel_rfl) (fun _ _ _ h => h) (by rfl) ?_ (by assumption) ?_
  rotate_left
  · (intro w hSw; (try dsimp only at hSw); go_simp; (try with_reducible rfl))
  simp only [List.setIfInBounds_toArray, List.set_cons_zero, List.set_cons_succ]
  refine reg_tk (v := .bool true) 19 138 rfl rfl (by kernel_rfl) (by kernel_rfl) (by kernel_rfl) (fun _ _ _ h => h) (by rfl) (fun w3 hS => by skip; go_simp) (by assumption) ?_
  simp only [List.setIfInBounds_toArray, List.set_cons_zero, List.set_cons_succ]
  refine reg_tk (v := ?_) 20 139 rfl rfl (by kernel_rfl) (by kernel_rfl) (by kernel_rfl) (fun _ _ _ h => h) (by rfl) ?_ (by assumption) ?_
  rotate_left
  · (intro w hSw; (try dsimp only at hSw); go_simp; (try with_reducible rfl))
  simp only [List.setIfInBounds_toArray, List.set_cons_zero, List.set_cons_succ]
  refine reg_tk (v := ?_) 21 140 rfl rfl (by kernel_rfl) (by kernel_rfl) (by kernel_rfl) (fun _ _ _ h => h) (by rfl) ?_ (by assumption) ?_
  rotate_left
  · (intro w hSw; (try dsimp only at hSw); go_simp; (try with_reducible rfl))
  simp only [List.setIfInBounds_toArray, List.set_cons_zero, List.set_cons_succ]
  refine reg_tk (v := ?_) 22 141 rfl rfl (by kernel_rfl) (by kernel_rfl) (by kernel_rfl) (fun _ _ _ h => h) (by rfl) ?_ (by assumption) ?_
  rotate_left
  · (intro w hSw; (try dsimp only at hSw); go_simp; (try with_reducible rfl))
  simp only [List.setIfInBounds_toArray, List.set_cons_zero, List.set_cons_succ]
  refine reg_tk (v := .slice (some ⟨b4, o4, none⟩) N c4) 23 142 rfl rfl (by kernel_rfl) (by kernel_rfl) (by kernel_rfl) (fun _ _ _ h => h) (by rfl) (fun w3 hS => by have j1 := cell_later hS u1; go_simp) (by assumption) ?_
  simp only [List.setIfInBounds_toArray, List.set_cons_zero, List.set_cons_succ]
  refine reg_tk (v := ?_) 24 143 rfl rfl (by kernel_rfl) (by kernel_rfl) (by kernel_rfl) (fun _ _ _ h => h) (by rfl) ?_ (by assumption) ?_
  rotate_left
  · (intro w hSw; (try dsimp only at hSw); go_simp; (try with_reducible rfl))
  simp only [List.setIfInBounds_toArray, List.set_cons_zero, List.set_cons_succ]
  refine reg_tk (v := .int .i64 (M : Int)) 25 144 rfl rfl (by kernel_rfl) (by kernel_rfl) (by kernel_rfl) (fun _ _ _ h => h) (by rfl) (fun w3 hS => by skip; go_simp) (by assumption) ?_
  simp only [List.setIfInBounds_toArray, List.set_cons_zero, List.set_cons_succ]
  refine reg_tk (v := .pointer (some ⟨b4, o4 + M * 6, none⟩)) 26 145 rfl rfl (by kernel_rfl) (by kernel_rfl) (by kernel_rfl) (fun _ _ _ h => h) (by rfl) (fun w3 hS => by skip; go_simp) (by assumption) ?_
  simp only [List.setIfInBounds_toArray, List.set_cons_zero, List.set_cons_succ]
  refine reg_tk (v := ?_) 27 146 rfl rfl (by kernel_rfl) (by kernel_rfl) (by kernel_rfl) (fun _ _ _ h => h) (by rfl) ?_ (by assumption) ?_
  rotate_left
  · (intro w hSw; (try dsimp only at hSw); go_simp; (try with_reducible rfl))
  simp only [List.setIfInBounds_toArray, List.set_cons_zero, List.set_cons_succ]
  refine reg_tk (v := .int .i64 4) 28 147 rfl rfl (by kernel_rfl) (by kernel_rfl) (by kernel_rfl) (fun _ _ _ h => h) (by rfl) (fun w3 hS => by have j1 := cell_later hS g4; go_simp) (by assumption) ?_
  simp only [List.setIfInBounds_toArray, List.set_cons_zero, List.set_cons_succ]
  refine reg_tk (v := .bool true) 29 148 rfl rfl (by kernel_rfl) (by kernel_rfl) (by kernel_rfl) (fun _ _ _ h => h) (by rfl) (fun w3 hS => by skip; go_simp) (by assumption) ?_
  simp only [List.setIfInBounds_toArray, List.set_cons_zero, List.set_cons_succ]
  refine reg_tk (v := ?_) 30 149 rfl rfl (by kernel_rfl) (by kernel_rfl) (by kernel_rfl) (fun _ _ _ h => h) (by rfl) ?_ (by assumption) ?_
  rotate_left
  · (intro w hSw; (try dsimp only at hSw); go_simp; (try with_reducible rfl))
  simp only [List.setIfInBounds_toArray, List.set_cons_zero, List.set_cons_succ]
  refine reg_tk (v := ?_) 31 150 rfl rfl (by kernel_rfl) (by kernel_rfl) (by kernel_rfl) (fun _ _ _ h => h) (by rfl) ?_ (by assumption) ?_
  rotate_left
  · (intro w hSw; (try dsimp only at hSw); go_simp; (try with_reducible rfl))
  simp only [List.setIfInBounds_toArray, List.set_cons_zero, List.set_cons_succ]
  refine reg_tk (v := ?_) 32 151 rfl rfl (by kernel_rfl) (by kernel_rfl) (by kernel_rfl) (fun _ _ _ h => h) (by rfl) ?_ (by assumption) ?_
  rotate_left
  · (intro w hSw; (try dsimp only at hSw); go_simp; (try with_reducible rfl))
  simp only [List.setIfInBounds_toArray, List.set_cons_zero, List.set_cons_succ]
  refine reg_tk (v := .slice (some ⟨b4, o4, none⟩) N c4) 33 152 rfl rfl (by kernel_rfl) (by kernel_rfl) (by kernel_rfl) (fun _ _ _ h => h) (by rfl) (fun w3 hS => by have j1 := cell_later hS u1; go_simp) (by assumption) ?_
  simp only [List.setIfInBounds_toArray, List.set_cons_zero, List.set_cons_succ]
  refine reg_tk (v := ?_) 34 153 rfl rfl (by kernel_rfl) (by kernel_rfl) (by kernel_rfl) (fun _ _ _ h => h) (by rfl) ?_ (by assumption) ?_
  rotate_left
  · (intro w hSw; (try dsimp only at hSw); go_simp; (try with_reducible rfl))
  simp only [List.setIfInBounds_toArray, List.set_cons_zero, List.set_cons_succ]
  refine reg_tk (v := .pointer (some ⟨sb, so, none⟩)) 35 154 rfl rfl (by kernel_rfl) (by kernel_rfl) (by kernel_rfl) (fun _ _ _ h => h) (by rfl) (fun w3 hS => by skip; go_simp) (by assumption) ?_
  simp only [List.setIfInBounds_toArray, List.set_cons_zero, List.set_cons_succ]
  refine reg_tk (v := .int .i64 h) 36 155 rfl rfl (by kernel_rfl) (by kernel_rfl) (by kernel_rfl) (fun _ _ _ h => h) (by rfl) (fun w3 hS => by have j1 := cell_later hS hc; go_simp) (by assumption) ?_
  simp only [List.setIfInBounds_toArray, List.set_cons_zero, List.set_cons_succ]
  refine reg_tk (v := .int .i64 (r : Int)) 37 156 rfl rfl (by kernel_rfl) (by kernel_rfl) (by kernel_rfl) (fun _ _ _ h => h) (by rfl) (fun w3 hS => by skip; go_simp) (by assumption) ?_
  simp only [List.setIfInBounds_toArray, List.set_cons_zero, List.set_cons_succ]
  refine reg_tk (v := .pointer (some ⟨b4, o4 + r * 6, none⟩)) 38 157 rfl rfl (by kernel_rfl) (by kernel_rfl) (by kernel_rfl) (fun _ _ _ h => h) (by rfl) (fun w3 hS => by skip; go_simp) (by assumption) ?_
  simp only [List.setIfInBounds_toArray, List.set_cons_zero, List.set_cons_succ]
  refine reg_tk (v := ?_) 39 158 rfl rfl (by kernel_rfl) (by kernel_rfl) (by kernel_rfl) (fun _ _ _ h => h) (by rfl) ?_ (by assumption) ?_
  rotate_left
  · (intro w hSw; (try dsimp only at hSw); go_simp; (try with_reducible rfl))
  simp only [List.setIfInBounds_toArray, List.set_cons_zero, List.set_cons_succ]
  refine reg_tk (v := .int .i64 3) 40 159 rfl rfl (by kernel_rfl) (by kernel_rfl) (by kernel_rfl) (fun _ _ _ h => h) (by rfl) (fun w3 hS => by have j1 := cell_later hS g3; go_simp) (by assumption) ?_
  simp only [List.setIfInBounds_toArray, List.set_cons_zero, List.set_cons_succ]
  refine reg_tk (v := .bool true) 41 160 rfl rfl (by kernel_rfl) (by kernel_rfl) (by kernel_rfl) (fun _ _ _ h => h) (by rfl) (fun w3 hS => by skip; go_simp) (by assumption) ?_
  simp only [List.setIfInBounds_toArray, List.set_cons_zero, List.set_cons_succ]
  refine reg_tk (v := ?_) 42 161 rfl rfl (by kernel_rfl) (by kernel_rfl) (by kernel_rfl) (fun _ _ _ h => h) (by rfl) ?_ (by assumption) ?_
  rotate_left
  · (intro w hSw; (try dsimp only at hSw); go_simp; (try with_reducible rfl))
  simp only [List.setIfInBounds_toArray, List.set_cons_zero, List.set_cons_succ]
  refine reg_tk (v := ?_) 43 162 rfl rfl (by kernel_rfl) (by kernel_rfl) (by kernel_rfl) (fun _ _ _ h => h) (by rfl) ?_ (by assumption) ?_
  rotate_left
  · (intro w hSw; (try dsimp only at hSw); go_simp; (try with_reducible rfl))
  simp only [List.setIfInBounds_toArray, List.set_cons_zero, List.set_cons_succ]
  refine wpAnyH_ready (rs := [44]) (by kernel_rfl) (by simp) ?_
  refine AllReadyH.cons rfl (fun K hK => ?_) AllReadyH.nil
  go_simp
  refine (awake_any _).mono ?_
  rintro e w12 ⟨rfl, hb12⟩
  have hB12 : Below W10.heap.size W10 w12 := Below.next (Below.refl _ W10).drew hb12
  refine hK.out _ _ hB12 (fun hHeld2 => ?_)
  clear hK K hHeld
  have hHeld := hHeld2
  clear hHeld2
  try simp only [Act.put, List.setIfInBounds_toArray, List.set_cons_zero, List.set_cons_succ]
  refine reg_tk (v := ?_) 45 164 rfl rfl (by kernel_rfl) (by kernel_rfl) (by kernel_rfl) (fun _ _ _ h => h) (by rfl) ?_ (by assumption) ?_
  rotate_left
  · (intro w hSw; (try dsimp only at hSw); go_simp; (try with_reducible rfl))
  simp only [List.setIfInBounds_toArray, List.set_cons_zero, List.set_cons_succ]
  refine reg_tk (v := ?_) 46 4 rfl rfl (by kernel_rfl) (by kernel_rfl) (by kernel_rfl) (fun _ _ _ h => h) (by rfl) ?_ (by assumption) ?_
  rotate_left
  · (intro w hSw; (try dsimp only at hSw); go_simp; (try with_reducible rfl))
  simp only [List.setIfInBounds_toArray, List.set_cons_zero, List.set_cons_succ]
  refine wpAnyH_done (by kernel_rfl) ?_ _
  refine NoPanic.normal ?_
  have hBf := Below.next HB11.out hB12
  go_wp2_with fail
  go_ret
  exact ⟨rfl, hBf⟩
end Go.Proofs.Ytnkpjfogjkjcfaa
