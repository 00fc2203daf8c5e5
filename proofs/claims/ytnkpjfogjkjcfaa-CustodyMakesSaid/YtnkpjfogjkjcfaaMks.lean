


/- CustodyMakes: the law's walk. -/
import Derived.Test.YtnkpjfogjkjcfaaRb
import Derived.Test.YtnkpjfogjkjcfaaCi
import Derived.Test.YtnkpjfogjkjcfaaSa
import Derived.Test.YtnkpjfogjkjcfaaNe
namespace Go.Proofs.Ytnkpjfogjkjcfaa
open Go.RowKit
set_option linter.unusedSimpArgs false
set_option linter.unusedVariables false
set_option maxRecDepth 100000

def begV (n d o : Int) : Wd := if begE n d o = 0 then begW n d o else W0
theorem begin_any (w : World) (n d o : Int) : Calls Try.prog 19 #[.int .i64 n, .int .i64 d, .int .i64 o] w (MvR w (begV n d o) (begE n d o)) := by
  by_cases hb : begE n d o = 0
  · have e1 : begV n d o = begW n d o := by unfold begV; rw [if_pos hb]
    rw [e1, hb]
    obtain ⟨N, rfl⟩ : ∃ N : Nat, n = (N : Int) := ⟨n.toNat, by
      unfold begE at hb
      split at hb
      · cases hb
      · omega⟩
    exact begin_ok w N d o hb
  · have e1 : begV n d o = W0 := by unfold begV; rw [if_neg hb]
    have e2 : begE n d o = 2 := by
      unfold begE at hb ⊢
      split
      · rfl
      · rename_i h; rw [if_neg h] at hb; exact absurd rfl hb
    rw [e1, e2]
    exact begin_bad w n d o hb
theorem rbegin_any (w : World) (n d o : Int) : Calls Try.prog 33 #[.int .i64 n, .int .i64 d, .int .i64 o] w (MvR w (begV n d o) (begE n d o)) := by
  by_cases hb : begE n d o = 0
  · have e1 : begV n d o = begW n d o := by unfold begV; rw [if_pos hb]
    rw [e1, hb]
    obtain ⟨N, rfl⟩ : ∃ N : Nat, n = (N : Int) := ⟨n.toNat, by
      unfold begE at hb
      split at hb
      · cases hb
      · omega⟩
    exact rbegin_ok w N d o hb
  · have e1 : begV n d o = W0 := by unfold begV; rw [if_neg hb]
    have e2 : begE n d o = 2 := by
      unfold begE at hb ⊢
      split
      · rfl
      · rename_i h; rw [if_neg h] at hb; exact absurd rfl hb
    rw [e1, e2]
    exact rbegin_bad w n d o hb
set_option maxHeartbeats 2000000 in
theorem lmakes_any (w : World) (n d o : Int) : Calls Try.prog 9 #[.int .i64 n, .int .i64 d, .int .i64 o] w fun e w' => e = .returned (.bool true) ∧ Below w.heap.size w w' := by
  have hbg := begin_any w n d o
  have hrb := fun wz => rbegin_any wz n d o
  have hci := fun wz => circle_any wz o
  have hrc := fun wz => rcircle_any wz o
  obtain ⟨X, HX⟩ : ∃ X, Hid (begV n d o = X) := ⟨_, Lib.hid rfl⟩
  obtain ⟨er, HER⟩ : ∃ er, Hid (begE n d o = er) := ⟨_, Lib.hid rfl⟩
  obtain ⟨l, HLL⟩ : ∃ l, Hid (cirV o = l) := ⟨_, Lib.hid rfl⟩
  obtain ⟨ec, HEC⟩ : ∃ er, Hid (cirE o = er) := ⟨_, Lib.hid rfl⟩
  obtain ⟨L, HL⟩ : ∃ L, Hid (l.length = L) := ⟨_, Lib.hid rfl⟩
  rw [HX.out, HER.out] at hbg
  simp only [HX.out, HER.out] at hrb
  simp only [HLL.out, HEC.out] at hci hrc
  have hmx : L ≤ 1000 := by
    rw [← HL.out, ← HLL.out]
    unfold cirV
    split
    · simp
    · rw [← cC_end, cC_len]; omega
  have HBG := Lib.hid hbg
  have HRB := Lib.hid hrb
  have HCI := Lib.hid hci
  have HRC := Lib.hid hrc
  clear hbg hrb hci hrc
  go_enter Try.func9, Try.ntmps9
  go_wp2_with fail
  refine HBG.out.mono ?_
  rintro e w1 ⟨u, rfl, hb1, hu⟩
  obtain ⟨cv1, fv1, q1, rfl, hp1⟩ := hu
  obtain ⟨a1, c1, rfl⟩ := hp1.pt.rows.form
  obtain ⟨fa1, fc1, rfl⟩ := hp1.pt.frs.form
  obtain ⟨W1, HN9⟩ : ∃ V : World, Hid (V = (w1).alloc (.cells #[.int .i64 (X).ds, .slice a1 (q1).length c1, .slice fa1 (X).fr.length fc1] 25)) := ⟨_, Lib.hid rfl⟩
  obtain ⟨p7, HPN9⟩ : ∃ p, Hid ((w1).heap.size = p) := ⟨_, Lib.hid rfl⟩
  go_upto_region 2 with fail
  rw [← HN9.out]
  have hb2 : Below (w1).heap.size w1 W1 := by rw [HN9.out]; exact (by repeat (first | assumption | exact Below.refl _ _ | apply Below.al | apply below_drewN | apply Below.drew | refine Below.next ?_ (by assumption)))
  have bx7 : BoxN W1 p7 25 #[.int .i64 (X).ds, .slice a1 (q1).length c1, .slice fa1 (X).fr.length fc1] := by rw [HN9.out, ← HPN9.out]; exact BoxN.new _ _ _
  rw [HPN9.out]
  clear HN9 HPN9
  have HIN := Lib.hid (⟨bx7, hp1.pt.keep hb2⟩ : InB W1 p7 X a1 c1 fa1 fc1 q1)
  have HB := Lib.hid (Below.next hb1 hb2)
  clear hb1 hb2 bx7 hp1
  go_wp2_with fail
  refine (HRB.out W1).mono ?_
  rintro e w2 ⟨u, rfl, hb1, hu⟩
  obtain ⟨cv2, fv2, q2, rfl, hp2⟩ := hu
  obtain ⟨a2, c2, rfl⟩ := hp2.pt.rows.form
  obtain ⟨fa2, fc2, rfl⟩ := hp2.pt.frs.form
  obtain ⟨W2, HN9⟩ : ∃ V : World, Hid (V = (w2).alloc (.cells #[.int .i64 (X).ds, .slice a2 (q2).length c2, .slice fa2 (X).fr.length fc2] 25)) := ⟨_, Lib.hid rfl⟩
  obtain ⟨p9, HPN9⟩ : ∃ p, Hid ((w2).heap.size = p) := ⟨_, Lib.hid rfl⟩
  go_upto_region 3 with fail
  rw [← HN9.out]
  have hb2 : Below (w2).heap.size w2 W2 := by rw [HN9.out]; exact (by repeat (first | assumption | exact Below.refl _ _ | apply Below.al | apply below_drewN | apply Below.drew | refine Below.next ?_ (by assumption)))
  have bx9 : BoxN W2 p9 25 #[.int .i64 (X).ds, .slice a2 (q2).length c2, .slice fa2 (X).fr.length fc2] := by rw [HN9.out, ← HPN9.out]; exact BoxN.new _ _ _
  rw [HPN9.out]
  clear HN9 HPN9
  have HIN2 := Lib.hid (⟨bx9, hp2.pt.keep hb2⟩ : InB W2 p9 X a2 c2 fa2 fc2 q2)
  have h12 := Below.next hb1 hb2
  replace HIN := Lib.hid (HIN.out.keep h12)
  replace HB := Lib.hid (Below.next HB.out h12)
  clear hb1 hb2 bx9 hp2 h12
  go_wp2_with fail
  refine (HCI.out W2).mono ?_
  rintro e w3 ⟨s3, rfl, hs3, _, hb3⟩
  obtain ⟨sa, sc, rfl⟩ := hs3.form
  go_wp2_with fail
  refine (HRC.out w3).mono ?_
  rintro e w4 ⟨s4, rfl, hs4, _, hb4⟩
  obtain ⟨ta, tc, rfl⟩ := hs4.form
  have h24 := Below.next hb3 hb4
  replace HIN := Lib.hid (HIN.out.keep h24)
  replace HIN2 := Lib.hid (HIN2.out.keep h24)
  replace HB := Lib.hid (Below.next HB.out h24)
  have hs3 := RdL.keep hb4 hs3
  rw [HL.out] at hs3 hs4 ⊢
  have HS3 := Lib.hid hs3
  have HS4 := Lib.hid hs4
  have x0 : w4.cell? ⟨p7, 0, none⟩ = some (.int .i64 X.ds) := HIN.out.box.cell 0
  have x1 : w4.cell? ⟨p7, 1, none⟩ = some (.slice a1 q1.length c1) := HIN.out.box.cell 1
  have x2 : w4.cell? ⟨p7, 2, none⟩ = some (.slice fa1 X.fr.length fc1) := HIN.out.box.cell 2
  have y0 : w4.cell? ⟨p9, 0, none⟩ = some (.int .i64 X.ds) := HIN2.out.box.cell 0
  have y1 : w4.cell? ⟨p9, 1, none⟩ = some (.slice a2 q2.length c2) := HIN2.out.box.cell 1
  have y2 : w4.cell? ⟨p9, 2, none⟩ = some (.slice fa2 X.fr.length fc2) := HIN2.out.box.cell 2
  have HSAME := Lib.hid (same_eq (X.v a1 c1 fa1 fc1 q1) (X.v a2 c2 fa2 fc2 q2) X w4 HIN.out.rdw HIN2.out.rdw)
  have d1 : (er != er) = false := by simp
  have d2 : (ec != ec) = false := by simp
  have d3 : ((L : Int) != (L : Int)) = false := by simp
  clear hb3 hb4 h24 hs3 hs4
  go_wp2_with fail
  refine HSAME.out.mono ?_
  rintro e w5 ⟨rfl, hb5⟩
  replace HB := Lib.hid (Below.next HB.out hb5)
  replace HS3 := Lib.hid (RdL.keep hb5 HS3.out)
  replace HS4 := Lib.hid (RdL.keep hb5 HS4.out)
  clear x0 x1 x2 y0 y1 y2 hb5
  go_wp2_with fail
  go_loopw [15] (fun i wr => ∃ j : Nat, j ≤ L ∧ i = .int .i64 j ∧ Below w5.heap.size w5 wr) (fun i _ => L - (intOf i).toNat)
  case atStart => exact ⟨0, Nat.zero_le _, rfl, Below.refl _ _⟩
  case round =>
    obtain ⟨k, hk, rfl, hbk⟩ := hrel
    by_cases hlt : k < L
    · have e1 : decide ((k : Int) < (L : Int)) = true := yb (by omega)
      obtain ⟨b1, o1, rfl, _, g0, g1, g2, g3⟩ := RdM.at (RdL.keep hbk HS3.out) HL.out k hlt
      obtain ⟨b2, o2, rfl, _, h0, h1, h2, h3⟩ := RdM.at (RdL.keep hbk HS4.out) HL.out k hlt
      obtain ⟨y, HY⟩ : ∃ y, Hid (gm l k = y) := ⟨_, rfl⟩
      rw [HY.out] at g0 g1 g2 g3 h0 h1 h2 h3
      have n1 : (0 : Int) ≤ (k : Int) := by omega
      have n2 : (k : Int) < (L : Int) := by omega
      have hwk : IntKind.i64.wrap (k : Int) = (k : Int) := IntWalk.i64_in _ (by omega)
      have hwk2 : IntKind.i64.wrap ((k : Int) + 1) = (k : Int) + 1 := IntWalk.i64_in _ (by omega)
      go_wp2_with fail
      go_quiet (fail)
      go_wp2_with fail
      go_roundw
      case rel => exact ⟨k + 1, by omega, by go_num, Below.next hbk (below_drewN (Below.refl _ _) _)⟩
      case measure => simp [intOf]; omega
    · have e1 : decide ((k : Int) < (L : Int)) = false := nb (by omega)
      go_wp2_with fail
      refine (awake_any wr).mono ?_
      rintro e w6 ⟨rfl, hb6⟩
      have hBf := Below.next (Below.next HB.out hbk) hb6
      go_wp2_with fail
      go_ret
      exact ⟨rfl, hBf⟩
end Go.Proofs.Ytnkpjfogjkjcfaa
