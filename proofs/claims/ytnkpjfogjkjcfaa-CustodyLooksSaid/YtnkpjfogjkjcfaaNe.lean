


/- CustodyNever: the law's walk. -/
import Derived.Test.YtnkpjfogjkjcfaaMd
import Derived.Test.YtnkpjfogjkjcfaaCy
namespace Go.Proofs.Ytnkpjfogjkjcfaa
open Go.RowKit
set_option linter.unusedSimpArgs false
set_option linter.unusedVariables false
set_option maxRecDepth 100000

theorem mkN_bd {xs : List Int} (hb : ∀ x ∈ xs, Ib x) {k : Nat} (hk : k < xs.length) : Ib (xs.getD k 0) := by
  rw [List.getD_eq_getElem?_getD, List.getElem?_eq_getElem hk]
  exact hb _ (List.getElem_mem _)
/-- the world in a box, whole -/
structure InB (w : World) (p : Nat) (X : Wd) (a : Option Addr) (c : Nat) (fa : Option Addr) (fc : Nat) (q : List Cq) : Prop where
  box : BoxN w p 25 #[.int .i64 X.ds, .slice a q.length c, .slice fa X.fr.length fc]
  rd : PtW w (.slice a q.length c) (.slice fa X.fr.length fc) q X
theorem InB.keep {w w1 : World} {p : Nat} {X : Wd} {a : Option Addr} {c : Nat} {fa : Option Addr} {fc : Nat} {q : List Cq} (hb : Below w.heap.size w w1) (h : InB w p X a c fa fc q) : InB w1 p X a c fa fc q := ⟨h.box.below hb, h.rd.keep hb⟩
abbrev Wd.v (X : Wd) (a : Option Addr) (c : Nat) (fa : Option Addr) (fc : Nat) (q : List Cq) : Value := .agg #[.int .i64 X.ds, .slice a q.length c, .slice fa X.fr.length fc]
theorem InB.rdw {w : World} {p : Nat} {X : Wd} {a : Option Addr} {c : Nat} {fa : Option Addr} {fc : Nat} {q : List Cq} (h : InB w p X a c fa fc q) : RdW w (X.v a c fa fc q) X := ⟨_, _, _, rfl, h.rd⟩
/-- another world, of new memory, stored into the box -/
theorem InB.put {w : World} {p : Nat} {X Y : Wd} {a : Option Addr} {c : Nat} {fa : Option Addr} {fc : Nat} {q : List Cq} {a' : Option Addr} {c' : Nat} {fa' : Option Addr} {fc' : Nat} {q' : List Cq} (h : InB w p X a c fa fc q) (hp : PtF w (p + 1) (.slice a' q'.length c') (.slice fa' Y.fr.length fc') q' Y) :
    InB (((w.setCell ⟨p, 0, none⟩ (.int .i64 Y.ds)).setCell ⟨p, 1, none⟩ (.slice a' q'.length c')).setCell ⟨p, 2, none⟩ (.slice fa' Y.fr.length fc')) p Y a' c' fa' fc' q' :=
  ⟨by
    have := ((h.box.setc 0 (.int .i64 Y.ds)).setc 1 (.slice a' q'.length c')).setc 2 (.slice fa' Y.fr.length fc')
    exact this, ((hp.set (p := ⟨p, 0, none⟩) _ (Nat.lt_succ_self _)).set (p := ⟨p, 1, none⟩) _ (Nat.lt_succ_self _)).set (p := ⟨p, 2, none⟩) _ (Nat.lt_succ_self _) |>.pt⟩
set_option maxHeartbeats 2000000 in
theorem lnever_any (w : World) (nn : Int) (v : Value) (xs : List Int) (hn : Ib nn) (hbx : ∀ x ∈ xs, Ib x) (h : RdI .i64 w v xs) :
    Calls Try.prog 7 #[.int .i64 nn, v] w fun e w' => e = .returned (.bool true) ∧ Below w.heap.size w w' := by
  obtain ⟨va, vc, rfl⟩ := h.form
  obtain ⟨L, hL⟩ : ∃ L, xs.length = L := ⟨_, rfl⟩
  rw [hL] at h ⊢
  have hmx : L ≤ 9223372036854775807 := by have := h.2.1; rw [hL] at this; unfold maxLen at this; omega
  have HL := Lib.hid hL
  have HR := Lib.hid h
  have HBX := Lib.hid hbx
  clear hL h hbx
  obtain ⟨z, HZ, z0, z1⟩ : ∃ y, Hid (nn % 5 = y) ∧ 0 ≤ y ∧ y < 5 := ⟨_, rfl, Int.emod_nonneg _ (by omega), Int.emod_lt_of_pos _ (by omega)⟩
  obtain ⟨N, hN, hN1, hN2⟩ : ∃ N : Nat, 2 + z = (N : Int) ∧ 2 ≤ N ∧ N ≤ 6 := ⟨(2 + z).toNat, by omega, by omega, by omega⟩
  obtain ⟨X0, HX0⟩ : ∃ X, Hid (begW (N : Int) (N : Int) 1 = X) := ⟨_, Lib.hid rfl⟩
  have hbe : begE (N : Int) (N : Int) 1 = 0 := by unfold begE; rw [if_neg (by omega)]
  have hbg := begs N hN1 (by omega) N 1 (by omega) (Nat.le_refl _) (Nat.le_refl _) (by omega) (by omega)
  have hsf : ∃ n, Safe (begW (N : Int) (N : Int) 1) n := ⟨_, beg_safe (n := N) (d := N) (o := 1) (Nat.le_refl 1) (by omega)⟩
  have htg := beg_tgb (N : Int) (N : Int) 1
  have e1 : ((1 : Nat) : Int) = 1 := rfl
  rw [e1] at hbg
  rw [HX0.out] at hbg hsf htg
  have hbegin := begin_ok w N (N : Int) 1 hbe
  rw [HX0.out] at hbegin
  have HBEGIN := Lib.hid hbegin
  have HBG := Lib.hid hbg
  have HSF := Lib.hid hsf
  have HTG := Lib.hid htg
  have hwn : IntKind.i64.wrap (2 + z) = (N : Int) := by rw [hN]; exact IntWalk.i64_in _ (by omega)
  clear hbegin hbg hsf htg e1 hbe hN
  go_enter Try.func7, Try.ntmps7
  go_wp2_with fail
  refine (mod_any nn 5 (by omega) (by omega) hn _).mono ?_
  rw [HZ.out]
  rintro e w9 ⟨rfl, rfl⟩
  go_wp2_with fail
  refine HBEGIN.out.mono ?_
  rintro e w1 ⟨u, rfl, hb1, hu⟩
  obtain ⟨cv1, fv1, q1, rfl, hp1⟩ := hu
  obtain ⟨a1, c1, rfl⟩ := hp1.pt.rows.form
  obtain ⟨fa1, fc1, rfl⟩ := hp1.pt.frs.form
  obtain ⟨W1, hW1⟩ : ∃ W1 : World, W1 = w1.alloc (.cells #[.int .i64 X0.ds, .slice a1 q1.length c1, .slice fa1 X0.fr.length fc1] 25) := ⟨_, rfl⟩
  have hbn : Below w1.heap.size w1 W1 := by rw [hW1]; exact (by repeat (first | assumption | exact Below.refl _ _ | apply Below.al | apply below_drewN | apply Below.drew | refine Below.next ?_ (by assumption)))
  have hsz1 := hb1.size
  have HB := Lib.hid (Below.next hb1 hbn)
  obtain ⟨p6, hp6⟩ : ∃ p, w1.heap.size = p := ⟨_, rfl⟩
  have hbx : BoxN W1 p6 25 #[.int .i64 X0.ds, .slice a1 q1.length c1, .slice fa1 X0.fr.length fc1] := by rw [hW1, ← hp6]; exact BoxN.new _ _ _
  have hwp : w.heap.size ≤ p6 := by omega
  have HIN := Lib.hid (⟨hbx, hp1.pt.keep hbn⟩ : InB W1 p6 X0 a1 c1 fa1 fc1 q1)
  clear hb1 hp1 hbn hbx
  go_upto_region 3 with fail
  rw [← hW1]
  clear hW1 hp6 hsz1
  go_wp2_with fail
  go_loopw [8] (fun i wr => ∃ (k : Nat) (X : Wd) (a : Option Addr) (c : Nat) (fa : Option Addr) (fc : Nat) (q : List Cq), k ≤ L ∧ k ≤ 80 ∧ i = .int .i64 k ∧ InB wr p6 X a c fa fc q ∧ Okw X ∧ (∃ n, Safe X n) ∧ X.cs.length = N ∧ TgB k X ∧ Below w.heap.size w wr ∧ p6 < wr.heap.size) (fun i _ => 81 - (intOf i).toNat)
  case atStart => exact ⟨0, X0, a1, c1, fa1, fc1, q1, Nat.zero_le _, Nat.zero_le _, rfl, HIN.out, HBG.out.1, HSF.out, HBG.out.2.1, HTG.out, HB.out, HIN.out.box.lt⟩
  case round =>
    clear HIN HBG HSF HTG HB
    obtain ⟨k, X, a, c, fa, fc, q, hkL, hk8, rfl, hin, hok, hsafe, hlen, htg, hbr, hpl⟩ := hrel
    have HIN := Lib.hid hin
    have HOK := Lib.hid hok
    have HSF := Lib.hid hsafe
    have HLEN := Lib.hid hlen
    have HTG := Lib.hid htg
    have HB := Lib.hid hbr
    have x0 : wr.cell? ⟨p6, 0, none⟩ = some (.int .i64 X.ds) := hin.box.cell 0
    have x1 : wr.cell? ⟨p6, 1, none⟩ = some (.slice a q.length c) := hin.box.cell 1
    have x2 : wr.cell? ⟨p6, 2, none⟩ = some (.slice fa X.fr.length fc) := hin.box.cell 2
    clear hin hok hsafe hlen htg hbr
    by_cases hlt : k < L ∧ k < 80
    · have d1 : decide ((k : Int) < (L : Int)) = true := yb (by omega)
      have d2 : decide ((k : Int) < 80) = true := yb (by omega)
      obtain ⟨b, off, rfl, hcap, hcx⟩ := RdI.at (HR.out.keep HB.out) HL.out k hlt.1
      obtain ⟨z, hz⟩ : ∃ z, xs.getD k 0 = z := ⟨_, rfl⟩
      have hzb : Ib z := by rw [← hz]; exact mkN_bd HBX.out (by rw [HL.out]; exact hlt.1)
      rw [hz] at hcx
      have i1 : (0 : Int) ≤ (k : Int) := by omega
      have i2 : (k : Int) < (L : Int) := by omega
      have hwk : IntKind.i64.wrap ((k : Int) + 1) = (k : Int) + 1 := IntWalk.i64_in _ (by omega)
      have hwk0 : IntKind.i64.wrap (k : Int) = (k : Int) := IntWalk.i64_in _ (by omega)
      obtain ⟨m, HM⟩ : ∃ m, Hid (mkN X z = m) := ⟨_, Lib.hid rfl⟩
      obtain ⟨er, HER⟩ : ∃ er, Hid (stpE X m = er) := ⟨_, Lib.hid rfl⟩
      obtain ⟨XE, HXE⟩ : ∃ XE, Hid (stpW false X m = XE) := ⟨_, Lib.hid rfl⟩
      have hmd := fun w' (hb : Below wr.heap.size wr w') => lmade_any w' (X.v a c fa fc q) X z hzb (by rw [HLEN.out]; omega) (by have := okw_len HOK.out; omega) ((HIN.out.keep hb).rdw)
      have hst := fun w' (hb : Below wr.heap.size wr w') => step_any w' (X.v a c fa fc q) X m (HTG.out.sml HOK.out (by omega)) ((HIN.out.keep hb).rdw)
      simp only [HM.out] at hmd
      simp only [HER.out, HXE.out] at hst
      obtain ⟨mk, mn, mo, mi⟩ := m
      have HMD : Hid (∀ w', Below wr.heap.size wr w' → Calls Try.prog 20 #[X.v a c fa fc q, .int .i64 z] w' fun e w'' => e = .returned (.agg #[.int .i64 mk, .int .i64 mn, .int .i64 mo, .int .i64 mi]) ∧ Below w'.heap.size w' w'') := Lib.hid hmd
      have HST : Hid (∀ w', Below wr.heap.size wr w' → Calls Try.prog 21 #[X.v a c fa fc q, .agg #[.int .i64 mk, .int .i64 mn, .int .i64 mo, .int .i64 mi]] w' (MvR w' XE er)) := Lib.hid hst
      clear hmd hst hz
      go_upto_region 6 with fail
      go_cut [9, 10] (fun s9 s10 wx => ∃ (p9 : Nat) (a' : Option Addr) (c' : Nat) (fa' : Option Addr) (fc' : Nat) (q' : List Cq), s9 = ptr p9 ∧ s10 = .int .i64 er ∧ BoxN wx p9 25 #[.int .i64 XE.ds, .slice a' q'.length c', .slice fa' XE.fr.length fc'] ∧ PtF wx wr.heap.size (.slice a' q'.length c') (.slice fa' XE.fr.length fc') q' XE ∧ Below wr.heap.size wr wx)
      case first =>
        as_aux_lemma =>
        refine wp_region_noPanic ?_
        refine wp_region_held_drew (S := (fun w' => Below wr.heap.size wr w')) (by kernel_rfl) ((Below.refl _ wr).drew) (fun hHeld => ?_)
        refine reg_tk (v := X.v a c fa fc q) 0 36 rfl rfl (by kernel_rfl) (by kernel_rfl) (by kernel_rfl) (fun _ _ _ h => h) (by rfl) (fun w3 hS => by (have j0 := cell_later hS x0; have j1 := cell_later hS x1; have j2 := cell_later hS x2); go_simp) (by assumption) ?_
        simp only [List.setIfInBounds_toArray, List.set_cons_zero, List.set_cons_succ]
        refine reg_tk (v := X.v a c fa fc q) 1 37 rfl rfl (by kernel_rfl) (by kernel_rfl) (by kernel_rfl) (fun _ _ _ h => h) (by rfl) (fun w3 hS => by (have j0 := cell_later hS x0; have j1 := cell_later hS x1; have j2 := cell_later hS x2); go_simp) (by assumption) ?_
        simp only [List.setIfInBounds_toArray, List.set_cons_zero, List.set_cons_succ]
        refine reg_tk (v := ?_) 2 38 rfl rfl (by kernel_rfl) (by kernel_rfl) (by kernel_rfl) (fun _ _ _ h => h) (by rfl) ?_ (by assumption) ?_
        rotate_left
        · (intro w hSw; (try dsimp only at hSw); go_simp; (try with_reducible rfl))
        simp only [List.setIfInBounds_toArray, List.set_cons_zero, List.set_cons_succ]
        refine reg_tk (v := ?_) 3 39 rfl rfl (by kernel_rfl) (by kernel_rfl) (by kernel_rfl) (fun _ _ _ h => h) (by rfl) ?_ (by assumption) ?_
        rotate_left
        · (intro w hSw; (try dsimp only at hSw); go_simp; (try with_reducible rfl))
        simp only [List.setIfInBounds_toArray, List.set_cons_zero, List.set_cons_succ]
        refine reg_tk (v := .pointer (some ⟨b, off + k, none⟩)) 4 40 rfl rfl (by kernel_rfl) (by kernel_rfl) (by kernel_rfl) (fun _ _ _ h => h) (by rfl) (fun w3 hS => by skip; go_simp) (by assumption) ?_
        simp only [List.setIfInBounds_toArray, List.set_cons_zero, List.set_cons_succ]
        refine reg_tk (v := .int .i64 z) 5 41 rfl rfl (by kernel_rfl) (by kernel_rfl) (by kernel_rfl) (fun _ _ _ h => h) (by rfl) (fun w3 hS => by have j0 := cell_later hS hcx; go_simp) (by assumption) ?_
        simp only [List.setIfInBounds_toArray, List.set_cons_zero, List.set_cons_succ]
        refine wpAnyH_ready (rs := [6, 11]) (by kernel_rfl) (by simp) ?_
        refine AllReadyH.cons rfl (fun K hK => ?_) (AllReadyH.cons rfl (fun K hK => ?_) AllReadyH.nil)
        · go_simp
          refine (HMD.out _ (Below.refl _ wr).drew).mono ?_
          rintro e w1 ⟨rfl, hb1⟩
          have hB1 : Below wr.heap.size wr w1 := Below.next (Below.refl _ wr).drew hb1
          refine hK.out _ _ hB1 (fun hHeld2 => ?_)
          clear hK K hHeld
          have hHeld := hHeld2
          clear hHeld2
          try simp only [Act.put, List.setIfInBounds_toArray, List.set_cons_zero, List.set_cons_succ]
          refine wpAnyH_ready (rs := [7, 11]) (by kernel_rfl) (by simp) ?_
          refine AllReadyH.cons rfl (fun K hK => ?_) (AllReadyH.cons rfl (fun K hK => ?_) AllReadyH.nil)
          · go_simp
            refine (HST.out _ hB1).mono ?_
            rintro e w2 ⟨u, rfl, hb2, hu⟩
            obtain ⟨cv2, fv2, q2, rfl, hp2⟩ := hu
            obtain ⟨a2, c2, rfl⟩ := hp2.pt.rows.form
            obtain ⟨fa2, fc2, rfl⟩ := hp2.pt.frs.form
            have hB2 := Below.next hB1 hb2
            refine hK.out _ _ hB2 (fun hHeld2 => ?_)
            clear hK K hHeld
            have hHeld := hHeld2
            clear hHeld2
            try simp only [Act.put, List.setIfInBounds_toArray, List.set_cons_zero, List.set_cons_succ]
            refine reg_tk (v := ?_) 8 35 rfl rfl (by kernel_rfl) (by kernel_rfl) (by kernel_rfl) (fun _ _ _ h => h) (by rfl) ?_ (by assumption) ?_
            rotate_left
            · (intro w hSw; (try dsimp only at hSw); go_simp; (try with_reducible rfl))
            simp only [List.setIfInBounds_toArray, List.set_cons_zero, List.set_cons_succ]
            refine reg_tk (v := ?_) 9 44 rfl rfl (by kernel_rfl) (by kernel_rfl) (by kernel_rfl) (fun _ _ _ h => h) (by rfl) ?_ (by assumption) ?_
            rotate_left
            · (intro w hSw; (try dsimp only at hSw); go_simp; (try with_reducible rfl))
            simp only [List.setIfInBounds_toArray, List.set_cons_zero, List.set_cons_succ]
            refine reg_tk (v := ?_) 10 45 rfl rfl (by kernel_rfl) (by kernel_rfl) (by kernel_rfl) (fun _ _ _ h => h) (by rfl) ?_ (by assumption) ?_
            rotate_left
            · (intro w hSw; (try dsimp only at hSw); go_simp; (try with_reducible rfl))
            simp only [List.setIfInBounds_toArray, List.set_cons_zero, List.set_cons_succ]
            refine wpAnyH_ready (rs := [11]) (by kernel_rfl) (by simp) ?_
            refine AllReadyH.cons rfl (fun K hK => ?_) AllReadyH.nil
            go_simp
            refine hK.out _ _ (Below.al hB2 _) (fun hHeld2 => ?_)
            clear hK K hHeld
            have hHeld := hHeld2
            clear hHeld2
            try simp only [Act.put, List.setIfInBounds_toArray, List.set_cons_zero, List.set_cons_succ]
            refine wpAnyH_ready (rs := [12]) (by kernel_rfl) (by simp) ?_
            refine AllReadyH.cons rfl (fun K hK => ?_) AllReadyH.nil
            go_simp
            obtain ⟨W3, hW3⟩ : ∃ W3 : World, W3 = w2.alloc (.cells #[.int .i64 XE.ds, .slice a2 q2.length c2, .slice fa2 XE.fr.length fc2] 25) := ⟨_, rfl⟩
            have b3 : BoxN W3 w2.heap.size 25 #[.int .i64 XE.ds, .slice a2 q2.length c2, .slice fa2 XE.fr.length fc2] := by rw [hW3]; exact BoxN.new _ _ _
            have hb3 : Below w2.heap.size w2 W3 := by rw [hW3]; exact (by repeat (first | assumption | exact Below.refl _ _ | apply Below.al | apply below_drewN | apply Below.drew | refine Below.next ?_ (by assumption)))
            have hz1 := hB1.size
            have hp3 := (hp2.keep hb3).mono hz1
            have hB3 := Below.next hB2 hb3
            rw [← hW3]
            refine hK.out _ _ hB3 (fun hHeld2 => ?_)
            clear hK K hHeld
            have hHeld := hHeld2
            clear hHeld2
            try simp only [Act.put, List.setIfInBounds_toArray, List.set_cons_zero, List.set_cons_succ]
            refine reg_tk (v := ?_) 13 10 rfl rfl (by kernel_rfl) (by kernel_rfl) (by kernel_rfl) (fun _ _ _ h => h) (by rfl) ?_ (by assumption) ?_
            rotate_left
            · (intro w hSw; (try dsimp only at hSw); go_simp; (try with_reducible rfl))
            simp only [List.setIfInBounds_toArray, List.set_cons_zero, List.set_cons_succ]
            refine wpAnyH_done (by kernel_rfl) ?_ _
            refine NoPanic.normal ?_
            clear hHeld hW3
            go_wp2_with fail
            go_meet
            exact ⟨_, _, _, _, _, _, rfl, rfl, b3, hp3, hB3⟩
          · go_simp
            have hal := Below.al hB1 (.cells #[.int .i64 0, .slice none 0 0, .slice none 0 0] 25)
            refine hK.out _ _ hal (fun hHeld2 => ?_)
            clear hK K hHeld
            have hHeld := hHeld2
            clear hHeld2
            try simp only [Act.put, List.setIfInBounds_toArray, List.set_cons_zero, List.set_cons_succ]
            refine wpAnyH_ready (rs := [7]) (by kernel_rfl) (by simp) ?_
            refine AllReadyH.cons rfl (fun K hK => ?_) AllReadyH.nil
            go_simp
            refine (HST.out _ hal).mono ?_
            rintro e w2 ⟨u, rfl, hb2, hu⟩
            obtain ⟨cv2, fv2, q2, rfl, hp2⟩ := hu
            obtain ⟨a2, c2, rfl⟩ := hp2.pt.rows.form
            obtain ⟨fa2, fc2, rfl⟩ := hp2.pt.frs.form
            have hB2 := Below.next hal hb2
            refine hK.out _ _ hB2 (fun hHeld2 => ?_)
            clear hK K hHeld
            have hHeld := hHeld2
            clear hHeld2
            try simp only [Act.put, List.setIfInBounds_toArray, List.set_cons_zero, List.set_cons_succ]
            refine reg_tk (v := ?_) 8 35 rfl rfl (by kernel_rfl) (by kernel_rfl) (by kernel_rfl) (fun _ _ _ h => h) (by rfl) ?_ (by assumption) ?_
            rotate_left
            · (intro w hSw; (try dsimp only at hSw); go_simp; (try with_reducible rfl))
            simp only [List.setIfInBounds_toArray, List.set_cons_zero, List.set_cons_succ]
            refine reg_tk (v := ?_) 9 44 rfl rfl (by kernel_rfl) (by kernel_rfl) (by kernel_rfl) (fun _ _ _ h => h) (by rfl) ?_ (by assumption) ?_
            rotate_left
            · (intro w hSw; (try dsimp only at hSw); go_simp; (try with_reducible rfl))
            simp only [List.setIfInBounds_toArray, List.set_cons_zero, List.set_cons_succ]
            refine reg_tk (v := ?_) 10 45 rfl rfl (by kernel_rfl) (by kernel_rfl) (by kernel_rfl) (fun _ _ _ h => h) (by rfl) ?_ (by assumption) ?_
            rotate_left
            · (intro w hSw; (try dsimp only at hSw); go_simp; (try with_reducible rfl))
            simp only [List.setIfInBounds_toArray, List.set_cons_zero, List.set_cons_succ]
            have bz := (BoxN.new w1 25 #[.int .i64 0, .slice none 0 0, .slice none 0 0]).below hb2
            have hz1 := hB1.size
            have t0 : w2.cell? ⟨w1.heap.size, 0, none⟩ = some (.int .i64 0) := bz.cell 0
            have t1 : w2.cell? ⟨w1.heap.size, 1, none⟩ = some (.slice none 0 0) := bz.cell 1
            have t2 : w2.cell? ⟨w1.heap.size, 2, none⟩ = some (.slice none 0 0) := bz.cell 2
            have y0 := bz.frozen 0
            have y1 := bz.frozen 1
            have y2 := bz.frozen 2
            refine wpAnyH_ready (rs := [12]) (by kernel_rfl) (by simp) ?_
            refine AllReadyH.cons rfl (fun K hK => ?_) AllReadyH.nil
            go_simp
            obtain ⟨W3, hW3⟩ : ∃ W3 : World, W3 = ((w2.setCell ⟨w1.heap.size, 0, none⟩ (.int .i64 XE.ds)).setCell ⟨w1.heap.size, 1, none⟩ (.slice a2 q2.length c2)).setCell ⟨w1.heap.size, 2, none⟩ (.slice fa2 XE.fr.length fc2) := ⟨_, rfl⟩
            have b3 : BoxN W3 (w1.heap.size) 25 #[.int .i64 XE.ds, .slice a2 q2.length c2, .slice fa2 XE.fr.length fc2] := by rw [hW3]; exact ((bz.setc 0 _).setc 1 _).setc 2 _
            have hB3 : Below wr.heap.size wr W3 := by rw [hW3]; exact ((hB2.setCell (p := ⟨w1.heap.size, 0, none⟩) (by exact hz1) _).setCell (p := ⟨w1.heap.size, 1, none⟩) (by exact hz1) _).setCell (p := ⟨w1.heap.size, 2, none⟩) (by exact hz1) _
            have hp3 : PtF W3 wr.heap.size (.slice a2 q2.length c2) (.slice fa2 XE.fr.length fc2) q2 XE := by rw [hW3]; exact (((hp2.set (p := ⟨w1.heap.size, 0, none⟩) _ (by simp)).set (p := ⟨w1.heap.size, 1, none⟩) _ (by simp)).set (p := ⟨w1.heap.size, 2, none⟩) _ (by simp)).mono (by simp; omega)
            rw [← hW3]
            refine hK.out _ _ hB3 (fun hHeld2 => ?_)
            clear hK K hHeld
            have hHeld := hHeld2
            clear hHeld2
            try simp only [Act.put, List.setIfInBounds_toArray, List.set_cons_zero, List.set_cons_succ]
            refine reg_tk (v := ?_) 13 10 rfl rfl (by kernel_rfl) (by kernel_rfl) (by kernel_rfl) (fun _ _ _ h => h) (by rfl) ?_ (by assumption) ?_
            rotate_left
            · (intro w hSw; (try dsimp only at hSw); go_simp; (try with_reducible rfl))
            simp only [List.setIfInBounds_toArray, List.set_cons_zero, List.set_cons_succ]
            refine wpAnyH_done (by kernel_rfl) ?_ _
            refine NoPanic.normal ?_
            clear hHeld t0 t1 t2 y0 y1 y2 hW3
            go_wp2_with fail
            go_meet
            exact ⟨_, _, _, _, _, _, rfl, rfl, b3, hp3, hB3⟩
        · go_simp
          have hal := Below.al (Below.refl wr.heap.size wr).drew (.cells #[.int .i64 0, .slice none 0 0, .slice none 0 0] 25)
          refine hK.out _ _ hal (fun hHeld2 => ?_)
          clear hK K hHeld
          have hHeld := hHeld2
          clear hHeld2
          try simp only [Act.put, List.setIfInBounds_toArray, List.set_cons_zero, List.set_cons_succ]
          refine wpAnyH_ready (rs := [6]) (by kernel_rfl) (by simp) ?_
          refine AllReadyH.cons rfl (fun K hK => ?_) AllReadyH.nil
          go_simp
          refine (HMD.out _ hal).mono ?_
          rintro e w1 ⟨rfl, hb1⟩
          have hB1 := Below.next hal hb1
          have bz1 := (BoxN.new wr.drew 25 #[.int .i64 0, .slice none 0 0, .slice none 0 0]).below hb1
          refine hK.out _ _ hB1 (fun hHeld2 => ?_)
          clear hK K hHeld
          have hHeld := hHeld2
          clear hHeld2
          try simp only [Act.put, List.setIfInBounds_toArray, List.set_cons_zero, List.set_cons_succ]
          refine wpAnyH_ready (rs := [7]) (by kernel_rfl) (by simp) ?_
          refine AllReadyH.cons rfl (fun K hK => ?_) AllReadyH.nil
          go_simp
          refine (HST.out _ hB1).mono ?_
          rintro e w2 ⟨u, rfl, hb2, hu⟩
          obtain ⟨cv2, fv2, q2, rfl, hp2⟩ := hu
          obtain ⟨a2, c2, rfl⟩ := hp2.pt.rows.form
          obtain ⟨fa2, fc2, rfl⟩ := hp2.pt.frs.form
          have hB2 := Below.next hB1 hb2
          refine hK.out _ _ hB2 (fun hHeld2 => ?_)
          clear hK K hHeld
          have hHeld := hHeld2
          clear hHeld2
          try simp only [Act.put, List.setIfInBounds_toArray, List.set_cons_zero, List.set_cons_succ]
          refine reg_tk (v := ?_) 8 35 rfl rfl (by kernel_rfl) (by kernel_rfl) (by kernel_rfl) (fun _ _ _ h => h) (by rfl) ?_ (by assumption) ?_
          rotate_left
          · (intro w hSw; (try dsimp only at hSw); go_simp; (try with_reducible rfl))
          simp only [List.setIfInBounds_toArray, List.set_cons_zero, List.set_cons_succ]
          refine reg_tk (v := ?_) 9 44 rfl rfl (by kernel_rfl) (by kernel_rfl) (by kernel_rfl) (fun _ _ _ h => h) (by rfl) ?_ (by assumption) ?_
          rotate_left
          · (intro w hSw; (try dsimp only at hSw); go_simp; (try with_reducible rfl))
          simp only [List.setIfInBounds_toArray, List.set_cons_zero, List.set_cons_succ]
          refine reg_tk (v := ?_) 10 45 rfl rfl (by kernel_rfl) (by kernel_rfl) (by kernel_rfl) (fun _ _ _ h => h) (by rfl) ?_ (by assumption) ?_
          rotate_left
          · (intro w hSw; (try dsimp only at hSw); go_simp; (try with_reducible rfl))
          simp only [List.setIfInBounds_toArray, List.set_cons_zero, List.set_cons_succ]
          have bz : BoxN w2 wr.heap.size 25 #[.int .i64 0, .slice none 0 0, .slice none 0 0] := bz1.below hb2
          have hz1 : wr.heap.size < w1.heap.size := bz1.lt
          have t0 : w2.cell? ⟨wr.heap.size, 0, none⟩ = some (.int .i64 0) := bz.cell 0
          have t1 : w2.cell? ⟨wr.heap.size, 1, none⟩ = some (.slice none 0 0) := bz.cell 1
          have t2 : w2.cell? ⟨wr.heap.size, 2, none⟩ = some (.slice none 0 0) := bz.cell 2
          have y0 := bz.frozen 0
          have y1 := bz.frozen 1
          have y2 := bz.frozen 2
          refine wpAnyH_ready (rs := [12]) (by kernel_rfl) (by simp) ?_
          refine AllReadyH.cons rfl (fun K hK => ?_) AllReadyH.nil
          go_simp
          obtain ⟨W3, hW3⟩ : ∃ W3 : World, W3 = ((w2.setCell ⟨wr.heap.size, 0, none⟩ (.int .i64 XE.ds)).setCell ⟨wr.heap.size, 1, none⟩ (.slice a2 q2.length c2)).setCell ⟨wr.heap.size, 2, none⟩ (.slice fa2 XE.fr.length fc2) := ⟨_, rfl⟩
          have b3 : BoxN W3 (wr.heap.size) 25 #[.int .i64 XE.ds, .slice a2 q2.length c2, .slice fa2 XE.fr.length fc2] := by rw [hW3]; exact ((bz.setc 0 _).setc 1 _).setc 2 _
          have hB3 : Below wr.heap.size wr W3 := by rw [hW3]; exact ((hB2.setCell (p := ⟨wr.heap.size, 0, none⟩) (by exact Nat.le_refl _) _).setCell (p := ⟨wr.heap.size, 1, none⟩) (by exact Nat.le_refl _) _).setCell (p := ⟨wr.heap.size, 2, none⟩) (by exact Nat.le_refl _) _
          have hp3 : PtF W3 wr.heap.size (.slice a2 q2.length c2) (.slice fa2 XE.fr.length fc2) q2 XE := by rw [hW3]; exact (((hp2.set (p := ⟨wr.heap.size, 0, none⟩) _ (by exact hz1)).set (p := ⟨wr.heap.size, 1, none⟩) _ (by exact hz1)).set (p := ⟨wr.heap.size, 2, none⟩) _ (by exact hz1)).mono (by omega)
          rw [← hW3]
          refine hK.out _ _ hB3 (fun hHeld2 => ?_)
          clear hK K hHeld
          have hHeld := hHeld2
          clear hHeld2
          try simp only [Act.put, List.setIfInBounds_toArray, List.set_cons_zero, List.set_cons_succ]
          refine reg_tk (v := ?_) 13 10 rfl rfl (by kernel_rfl) (by kernel_rfl) (by kernel_rfl) (fun _ _ _ h => h) (by rfl) ?_ (by assumption) ?_
          rotate_left
          · (intro w hSw; (try dsimp only at hSw); go_simp; (try with_reducible rfl))
          simp only [List.setIfInBounds_toArray, List.set_cons_zero, List.set_cons_succ]
          refine wpAnyH_done (by kernel_rfl) ?_ _
          refine NoPanic.normal ?_
          clear hHeld t0 t1 t2 y0 y1 y2 hW3
          go_wp2_with fail
          go_meet
          exact ⟨_, _, _, _, _, _, rfl, rfl, b3, hp3, hB3⟩
      case rest =>
        clear HMD HST HM
        obtain ⟨p9, a9, c9, fa9, fc9, q9, rfl, rfl, b9, r9, hb9⟩ := hcut
        rename World => wx
        have HIN9 := Lib.hid (HIN.out.keep hb9)
        have HB9 := Lib.hid (Below.next HB.out hb9)
        have hsz9 := hb9.size
        have y0 : wx.cell? ⟨p9, 0, none⟩ = some (.int .i64 XE.ds) := b9.cell 0
        have y1 : wx.cell? ⟨p9, 1, none⟩ = some (.slice a9 q9.length c9) := b9.cell 1
        have y2 : wx.cell? ⟨p9, 2, none⟩ = some (.slice fa9 XE.fr.length fc9) := b9.cell 2
        have x0 := cell_later hb9 x0
        have x1 := cell_later hb9 x1
        have x2 := cell_later hb9 x2
        have z3 := HIN9.out.box.frozen 0
        have z4 := HIN9.out.box.frozen 1
        have z5 := HIN9.out.box.frozen 2
        have HR9 := Lib.hid (r9.mono (show p6 + 1 ≤ wr.heap.size from hpl))
        clear b9 r9 hb9 hcx
        by_cases he : er = 0
        · have e1 : (er != 0) = false := by simp [he]
          subst he
          have hxe : XE = mvW false X ⟨mk, mn, mo, mi⟩ := by rw [← HXE.out]; unfold stpW; rw [if_pos HER.out]
          have hokE : Okw XE := by rw [hxe]; exact okw_mv HER.out
          have hsfE : ∃ n, Safe XE n := by rw [hxe]; exact safe_mv HER.out HSF.out
          have hlE : XE.cs.length = N := by rw [hxe, ← HLEN.out]; unfold mvW pasW rstW; repeat' split
                                            all_goals simp [setC, outF]
          have htE : TgB (k + 1) XE := by rw [hxe]; exact HTG.out.mv _ _
          obtain ⟨s, hs⟩ := hsfE
          have hlost := safe_lost hokE hs
          have hin := HIN9.out.put HR9.out
          obtain ⟨W7, hW7⟩ : ∃ W7 : World, Hid (W7 = ((wx.setCell ⟨p6, 0, none⟩ (.int .i64 XE.ds)).setCell ⟨p6, 1, none⟩ (.slice a9 q9.length c9)).setCell ⟨p6, 2, none⟩ (.slice fa9 XE.fr.length fc9)) := ⟨_, Lib.hid rfl⟩
          rw [← hW7.out] at hin
          have HB7 : Hid (Below w.heap.size w W7) := Lib.hid (by
            rw [hW7.out]
            exact ((HB9.out.setCell (p := ⟨p6, 0, none⟩) hwp _).setCell (p := ⟨p6, 1, none⟩) hwp _).setCell (p := ⟨p6, 2, none⟩) hwp _)
          have hlo := lost_any W7 (XE.v a9 c9 fa9 fc9 q9) XE hin.rdw
          rw [hlost, yb hokE, show chkE XE = 0 by unfold chkE; exact if_pos hokE] at hlo
          have HLO : Hid (Calls Try.prog 27 #[XE.v a9 c9 fa9 fc9 q9] W7 fun e w' => e = .returned (.tuple #[.bool false, .int .i64 0]) ∧ Below W7.heap.size W7 w') := Lib.hid hlo
          have HCK := Lib.hid (fun w' (hb : Below W7.heap.size W7 w') => check_any w' (XE.v a9 c9 fa9 fc9 q9) XE 0 (by unfold chkE; exact if_pos hokE) (hin.keep hb).rdw)
          have hql : (q9.length : Int) = (N : Int) := by rw [hin.rd.len, hlE]
          have hqq : ((q9.length : Int) != (N : Int)) = false := by rw [hql]; simp
          have HIN7 := Lib.hid hin
          have HOKE := Lib.hid hokE
          have HSE := Lib.hid (⟨s, hs⟩ : ∃ n, Safe XE n)
          have HLE := Lib.hid hlE
          have HTE := Lib.hid htE
          clear hin hokE hs hlE htE hlo hlost hql hxe
          go_upto_region 9 with fail
          rw [← hW7.out]
          clear hW7 x0 x1 x2 y0 y1 y2 z3 z4 z5 HIN9 HB9
          have x0 : W7.cell? ⟨p6, 0, none⟩ = some (.int .i64 XE.ds) := HIN7.out.box.cell 0
          have x1 : W7.cell? ⟨p6, 1, none⟩ = some (.slice a9 q9.length c9) := HIN7.out.box.cell 1
          have x2 : W7.cell? ⟨p6, 2, none⟩ = some (.slice fa9 XE.fr.length fc9) := HIN7.out.box.cell 2
          go_wp2_with fail
          refine HLO.out.mono ?_
          rintro e w4 ⟨rfl, hb4⟩
          have x0 := cell_later hb4 x0
          have x1 := cell_later hb4 x1
          have x2 := cell_later hb4 x2
          go_wp2_with fail
          refine (HCK.out _ hb4).mono ?_
          rintro e w5 ⟨rfl, hb5⟩
          have x0 := cell_later hb5 x0
          have x1 := cell_later hb5 x1
          have x2 := cell_later hb5 x2
          have hb75 := Below.next hb4 hb5
          have HIN5 := Lib.hid (HIN7.out.keep hb75)
          have HB5 := Lib.hid (Below.next HB7.out hb75)
          have hsz5 := hb75.size
          have hp7 := HIN7.out.box.lt
          clear hb4 hb5 hb75
          go_wp2_with fail
          go_roundw
          case rel => exact ⟨k + 1, XE, a9, c9, fa9, fc9, q9, by omega, by omega, by go_num, HIN5.out, HOKE.out, HSE.out, HLE.out, HTE.out, HB5.out, by omega⟩
          case measure => simp [intOf]; omega
        · have e1 : (er != 0) = true := by simp [he]
          go_wp2_with fail
          go_roundw
          case rel => exact ⟨k + 1, X, a, c, fa, fc, q, by omega, by omega, by go_num, HIN9.out, HOK.out, HSF.out, HLEN.out, fun d hd => ⟨Nat.le_succ_of_le (HTG.out d hd).1, Nat.le_succ_of_le (HTG.out d hd).2⟩, HB9.out, by omega⟩
          case measure => simp [intOf]; omega
    · have HAW := Lib.hid (awake_any wr)
      by_cases hkl : k < L
      · have d1 : decide ((k : Int) < (L : Int)) = true := yb (by omega)
        have d2 : decide ((k : Int) < 80) = false := nb (by omega)
        have d3 : ¬ (k : Int) < 80 := by omega
        clear hlt
        go_wp2_with fail
        refine HAW.out.mono ?_
        rintro e w4 ⟨rfl, hb4⟩
        have hb4 := Below.next HB.out hb4
        go_wp2_with fail
        go_ret
        exact ⟨rfl, hb4⟩
      · have d1 : decide ((k : Int) < (L : Int)) = false := nb (by omega)
        clear hlt
        go_wp2_with fail
        refine HAW.out.mono ?_
        rintro e w4 ⟨rfl, hb4⟩
        have hb4 := Below.next HB.out hb4
        go_wp2_with fail
        go_ret
        exact ⟨rfl, hb4⟩
end Go.Proofs.Ytnkpjfogjkjcfaa
