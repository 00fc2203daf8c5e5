

/- Links: a fault happens (the reference's text): twin. -/
import Derived.Test.YtimkeafpefkheaaDoorQ
namespace Go.Proofs.YtimkeafpefkheaaDoor
open Go.RowKit
set_option linter.unusedSimpArgs false
set_option linter.unusedVariables false
set_option maxRecDepth 100000

theorem ins_alt (l : List Fr) (i : Nat) (hi : i < l.length) : insV l i (l.getD i e0) = l.take (i + 1) ++ l.getD i e0 :: l.drop (i + 1) := by
  unfold insV
  rw [List.getD_eq_getElem?_getD, List.getElem?_eq_getElem hi, Option.getD_some]
  have h1 : l.take (i + 1) = l.take i ++ [l[i]] := List.take_succ_eq_append_getElem hi
  have h2 : l.drop i = l[i] :: l.drop (i + 1) := List.drop_eq_getElem_cons hi
  rw [h1, h2, List.append_assoc]
  rfl
theorem own_base {w : World} {base base' : Nat} {e : TypeId} {size : Nat} {v : Value} {n : Nat} {xs : List Value} (h : w.ownsRow base e size v n xs) (hb : base' ≤ base) : w.ownsRow base' e size v n xs := by
  obtain ⟨hl, ⟨hv, hn⟩ | ⟨g, cap, cur, hv, hg, hr⟩⟩ := h
  · exact ⟨hl, .inl ⟨hv, hn⟩⟩
  · exact ⟨hl, .inr ⟨g, cap, cur, hv, Nat.le_trans hb hg, hr⟩⟩
set_option maxHeartbeats 4000000 in
theorem rap_2 (v : Value) (l : List Fr) (hz : Szs l) (hen : (chkL l).1 = 0) (i : Nat) (j b : Int) (hi : i < l.length) (hn64 : l.length ≠ 64) (w : World) (h : RdT w v l) :
    Calls Tryd.prog 21 #[v, (⟨2, (i : Int), j, b⟩ : Tr).v] w (RaR w l ⟨2, (i : Int), j, b⟩) := by
  unfold RaR
  rw [show apL l ⟨2, (i : Int), j, b⟩ = l.take (i + 1) ++ l.getD i e0 :: l.drop (i + 1) by rw [← ins_alt l i hi]; simp [apL], show fitT l ⟨2, (i : Int), j, b⟩ = unV ⟨2, (i : Int), j, b⟩ by simp [fitT, unV]]
  obtain ⟨f, hf⟩ : ∃ f, unV ⟨2, (i : Int), j, b⟩ = f := ⟨_, rfl⟩
  rw [hf]
  have HF := Lib.hid hf
  clear hf
  obtain ⟨n, hen'⟩ : ∃ n, chkL l = (0, n) := ⟨(chkL l).2, by rw [← hen]⟩
  have HEN := Lib.hid hen'
  have HZ := Lib.hid hz
  have hcz := chkL_zero hen
  obtain ⟨a0, n0, rfl⟩ := h.form
  obtain ⟨N, hN⟩ : ∃ N, l.length = N := ⟨_, rfl⟩
  have HN := Lib.hid hN
  have HR2 : Hid (RdT w (.slice a0 N n0) l) := by unfold Hid; rw [← hN]; exact h
  have HSZ : Hid (∀ j, j < l.length → (l.getD j e0).size ≤ 1200) := fun j hj => (hcz.2 j hj).2
  have hl := hcz.1
  rw [hN] at hl hi ⊢
  clear h hN hcz hen hen' hz
  obtain ⟨W, hW⟩ : ∃ W : World, W = w.alloc (.cells #[.int .i64 2, .int .i64 (i : Int), .int .i64 j, .int .i64 b] 36) := ⟨_, rfl⟩
  have hB : Below w.heap.size w W := by rw [hW]; exact (by repeat (first | assumption | exact Below.refl _ _ | apply Below.al | apply below_drewN | apply Below.drew | refine Below.next ?_ (by assumption)))
  have b0 : BoxN W w.heap.size 36 #[.int .i64 2, .int .i64 (i : Int), .int .i64 j, .int .i64 b] := by rw [hW]; exact BoxN.new w _ _
  have t0 : W.cell? ⟨w.heap.size, 0, none⟩ = some (.int .i64 2) := b0.cell 0
  have t1 : W.cell? ⟨w.heap.size, 1, none⟩ = some (.int .i64 (i : Int)) := b0.cell 1
  have t2 : W.cell? ⟨w.heap.size, 2, none⟩ = some (.int .i64 j) := b0.cell 2
  have t3 : W.cell? ⟨w.heap.size, 3, none⟩ = some (.int .i64 b) := b0.cell 3
  have HRW := Lib.hid (HR2.out.keep hB)
  clear b0
  obtain ⟨bk, off, rfl, hcap, hc⟩ := RdT.at HRW.out HN.out i hi
  obtain ⟨s, hs⟩ : ∃ s, l.getD i e0 = s := ⟨_, rfl⟩
  rw [hs] at hc
  have HS := Lib.hid hs
  clear hs
  have d4 : decide ((i : Int) < 0) = false := nb (by omega)
  have d5 : decide ((N : Int) ≤ (i : Int)) = false := nb (by omega)
  have d5' : decide (N ≤ i) = false := nb (by omega)
  have i1 : (0 : Int) ≤ (i : Int) := by omega
  have i2 : (i : Int) < (N : Int) := by omega
  have hwk : IntKind.i64.wrap (i : Int) = (i : Int) := IntWalk.i64_in _ (by omega)
  rw [HN.out] at hn64
  rw [HS.out]
  have q6 : ((N : Int) == 64) = false := by simp; omega
  have q6' : (N == 64) = false := by simp [hn64]
  have hwk1 : IntKind.i64.wrap ((i : Int) + 1) = (i : Int) + 1 := IntWalk.i64_in _ (by omega)
  have HT : Hid ((l.take (i + 1)).length = i + 1) := by unfold Hid; rw [List.length_take, HN.out]; omega
  have HD : Hid ((l.drop (i + 1)).length = N - (i + 1)) := by unfold Hid; rw [List.length_drop, HN.out]
  obtain ⟨v1, hs1, hr1⟩ := cut_take HRW.out HN.out (i + 1) (by omega)
  obtain ⟨v2, hs2, hr2⟩ := cut_drop HRW.out HN.out (i + 1) (by omega)
  rw [show ((i + 1 : Nat) : Int) = (i : Int) + 1 by push_cast; rfl] at hs1 hs2
  have HR1 := Lib.hid hr1
  have HR2D := Lib.hid hr2
  clear hr1 hr2 hn64
  go_enter Tryd.func21, Tryd.ntmps21
  go_upto_region 1 with fail
  rw [← hW]
  clear hW
  go_wp2_with fail
  refine (rcheck_is _ l HZ.out 0 n HEN.out _ HRW.out).mono ?_
  rintro x w1 ⟨rfl, rfl⟩
  go_wp2_with fail
  refine (rown_any _ l (by rw [HN.out]; omega) _ HRW.out).mono ?_
  rintro x w2 ⟨a, c, rfl, hown, hb⟩
  rw [HN.out] at hown ⊢
  have tW0 := t0
  have tW1 := t1
  have tW2 := t2
  have tW3 := t3
  have t0 := cell_later hb t0
  have t1 := cell_later hb t1
  have t2 := cell_later hb t2
  have t3 := cell_later hb t3
  have hc := cell_later hb hc
  have HR3 := Lib.hid (HRW.out.keep hb)
  have hB2 := Below.next hB hb
  have HOWN := Lib.hid hown
  clear hown
  go_upto_region 16 with fail
  refine wp_region_noPanic ?_
  refine wp_region_held_drew (S := (fun w' => Below W.heap.size W w')) (by kernel_rfl) hb.drew (fun hHeld => ?_)
  obtain ⟨Wd, hWd⟩ : ∃ Wd : World, Wd = w2.drew := ⟨_, rfl⟩
  rw [← hWd] at hHeld ⊢
  clear hWd
  refine reg_tk (v := ?_) 0 57 rfl rfl (by kernel_rfl) (by kernel_rfl) (by kernel_rfl) (fun _ _ _ h => h) (by rfl) ?_ (by assumption) ?_
  rotate_left
  · (intro w hSw; (try dsimp only at hSw); go_simp; (try with_reducible rfl))
  simp only [List.setIfInBounds_toArray, List.set_cons_zero, List.set_cons_succ]
  refine reg_tk (v := ?_) 1 58 rfl rfl (by kernel_rfl) (by kernel_rfl) (by kernel_rfl) (fun _ _ _ h => h) (by rfl) ?_ (by assumption) ?_
  rotate_left
  · (intro w hSw; (try dsimp only at hSw); go_simp; (try with_reducible rfl))
  simp only [List.setIfInBounds_toArray, List.set_cons_zero, List.set_cons_succ]
  refine reg_tk (v := .int .i64 (i : Int)) 2 59 rfl rfl (by kernel_rfl) (by kernel_rfl) (by kernel_rfl) (fun _ _ _ h => h) (by rfl) (fun w3 hS => by have g := cell_later hS tW1; go_simp) (by assumption) ?_
  simp only [List.setIfInBounds_toArray, List.set_cons_zero, List.set_cons_succ]
  refine reg_tk (v := ?_) 3 60 rfl rfl (by kernel_rfl) (by kernel_rfl) (by kernel_rfl) (fun _ _ _ h => h) (by rfl) ?_ (by assumption) ?_
  rotate_left
  · (intro w hSw; (try dsimp only at hSw); go_simp; (try with_reducible rfl))
  simp only [List.setIfInBounds_toArray, List.set_cons_zero, List.set_cons_succ]
  refine reg_tk (v := v1) 4 61 rfl rfl (by kernel_rfl) (by kernel_rfl) (by kernel_rfl) (fun _ _ _ h => h) (by rfl) (fun w3 hS => by have g := hs1; go_simp) (by assumption) ?_
  simp only [List.setIfInBounds_toArray, List.set_cons_zero, List.set_cons_succ]
  refine reg_tk (v := ?_) 6 63 rfl rfl (by kernel_rfl) (by kernel_rfl) (by kernel_rfl) (fun _ _ _ h => h) (by rfl) ?_ (by assumption) ?_
  rotate_left
  · (intro w hSw; (try dsimp only at hSw); go_simp; (try with_reducible rfl))
  simp only [List.setIfInBounds_toArray, List.set_cons_zero, List.set_cons_succ]
  refine reg_tk (v := ?_) 9 66 rfl rfl (by kernel_rfl) (by kernel_rfl) (by kernel_rfl) (fun _ _ _ h => h) (by rfl) ?_ (by assumption) ?_
  rotate_left
  · (intro w hSw; (try dsimp only at hSw); go_simp; (try with_reducible rfl))
  simp only [List.setIfInBounds_toArray, List.set_cons_zero, List.set_cons_succ]
  refine reg_tk (v := ?_) 10 67 rfl rfl (by kernel_rfl) (by kernel_rfl) (by kernel_rfl) (fun _ _ _ h => h) (by rfl) ?_ (by assumption) ?_
  rotate_left
  · (intro w hSw; (try dsimp only at hSw); go_simp; (try with_reducible rfl))
  simp only [List.setIfInBounds_toArray, List.set_cons_zero, List.set_cons_succ]
  refine reg_tk (v := .int .i64 (i : Int)) 11 68 rfl rfl (by kernel_rfl) (by kernel_rfl) (by kernel_rfl) (fun _ _ _ h => h) (by rfl) (fun w3 hS => by have g := cell_later hS tW1; go_simp) (by assumption) ?_
  simp only [List.setIfInBounds_toArray, List.set_cons_zero, List.set_cons_succ]
  refine reg_tk (v := ?_) 12 69 rfl rfl (by kernel_rfl) (by kernel_rfl) (by kernel_rfl) (fun _ _ _ h => h) (by rfl) ?_ (by assumption) ?_
  rotate_left
  · (intro w hSw; (try dsimp only at hSw); go_simp; (try with_reducible rfl))
  simp only [List.setIfInBounds_toArray, List.set_cons_zero, List.set_cons_succ]
  refine reg_tk (v := v2) 13 70 rfl rfl (by kernel_rfl) (by kernel_rfl) (by kernel_rfl) (fun _ _ _ h => h) (by rfl) (fun w3 hS => by have g := hs2; go_simp) (by assumption) ?_
  simp only [List.setIfInBounds_toArray, List.set_cons_zero, List.set_cons_succ]
  refine wpAnyH_ready (rs := [5, 7]) (by kernel_rfl) (by simp) ?_
  refine AllReadyH.cons rfl (fun K hK => ?_) (AllReadyH.cons rfl (fun K hK => ?_) AllReadyH.nil)
  · go_simp
    refine (rown_any v1 (l.take (i + 1)) (by rw [HT.out]; omega) _ (HR1.out.keep hHeld)).mono ?_
    rintro x w3 ⟨a3, c3, rfl, hown3, hb3⟩
    rw [HT.out] at hown3 ⊢
    have hB3 := Below.next hHeld hb3
    have hsz3 := hHeld.size
    have HROW0 : Hid (w3.ownsRow W.heap.size 9 1 (.slice a3 (i + 1) c3) (i + 1) (tcs (l.take (i + 1)))) := own_base hown3 hsz3
    clear hown3 hsz3
    refine hK.out _ _ hB3 (fun hHeld2 => ?_)
    clear hK K hHeld
    have hHeld := hHeld2
    clear hHeld2
    try simp only [Act.put, List.setIfInBounds_toArray, List.set_cons_zero, List.set_cons_succ]
    refine wpAnyH_ready (rs := [7]) (by kernel_rfl) (by simp) ?_
    refine AllReadyH.cons rfl (fun K hK => ?_) AllReadyH.nil
    go_simp
    obtain ⟨X, hX⟩ : ∃ X : World, X = w3.alloc (.cells #[.string s] 9) := ⟨_, rfl⟩
    have hbX : Below w3.heap.size w3 X := by rw [hX]; exact Below.al (Below.refl _ _) _
    have hBX : Below W.heap.size W X := Below.next hB3 hbX
    have hXh : BoxN X w3.heap.size 9 #[.string s] := by rw [hX]; exact BoxN.new w3 _ _
    rw [← hX]
    clear hX
    have HROW := Lib.hid (own_below HROW0.out hbX)
    have HONE : Hid (RdS X 1 (.slice (some ⟨w3.heap.size, 0, none⟩) 1 1) 1 (tcs [s])) := ⟨rfl, by decide, .inr ⟨w3.heap.size, 0, 1, rfl, by omega, fun j u hj => by
      cases j with
      | zero => rw [hXh.cell 0]; simpa [tcs] using hj
      | succ j => simp [tcs] at hj⟩⟩
    refine hK.out _ _ hBX (fun hHeld2 => ?_)
    clear hK K hHeld
    have hHeld := hHeld2
    clear hHeld2
    try simp only [Act.put, List.setIfInBounds_toArray, List.set_cons_zero, List.set_cons_succ]
    refine wpAnyH_ready (rs := [8]) (by kernel_rfl) (by simp) ?_
    refine AllReadyH.cons rfl (fun K hK => ?_) AllReadyH.nil
    refine wp_app (.tmp 62) (.tmp 64) 22 rfl W.heap.size 9 (.string ⟨#[]⟩) 1 16 ET _ (i + 1) (tcs (l.take (i + 1))) rfl HROW.out _ 1 (tcs [s]) rfl HONE.out (tcs_one _) (by unfold maxLen; omega) (by omega) (by have := hBX.size; omega) ?_
    intro a' c' w5 hown5 hg5 hb5
    have hB5 : Below W.heap.size W w5 := hBX.trans hb5
    have HROW5 := Lib.hid hown5
    have HD5 := Lib.hid (HR2D.out.keep hB5)
    clear hown5 hg5
    show K (Act.put _ (some 65) _) _
    refine hK.out _ _ hB5 (fun hHeld2 => ?_)
    clear hK K hHeld
    have hHeld := hHeld2
    clear hHeld2
    try simp only [Act.put, List.setIfInBounds_toArray, List.set_cons_zero, List.set_cons_succ]
    refine wpAnyH_ready (rs := [14]) (by kernel_rfl) (by simp) ?_
    refine AllReadyH.cons rfl (fun K hK => ?_) AllReadyH.nil
    refine wp_app (.tmp 65) (.tmp 70) 22 rfl W.heap.size 9 (.string ⟨#[]⟩) 1 16 ET _ (i + 1 + 1) (tcs (l.take (i + 1)) ++ tcs [s]) rfl HROW5.out _ (N - (i + 1)) (tcs (l.drop (i + 1))) rfl (by have := HD5.out; unfold RdT at this; rwa [HD.out] at this) (tcs_one _) (by unfold maxLen; omega) (by omega) (by have := hB5.size; omega) ?_
    intro a6 c6 w6 hown6 hg6 hb6
    have hB6 : Below W.heap.size W w6 := hB5.trans hb6
    have hrd : RdT w6 (.slice a6 (i + 1 + 1 + (N - (i + 1))) c6) (l.take (i + 1) ++ s :: l.drop (i + 1)) := by
      have := RdS.of_owns hown6 (by decide)
      unfold RdT
      rw [show l.take (i + 1) ++ s :: l.drop (i + 1) = l.take (i + 1) ++ [s] ++ l.drop (i + 1) by simp]
      rw [tcs_append, tcs_append, List.length_append, List.length_append, HT.out, HD.out]
      exact this
    have HRD := Lib.hid hrd
    have HFR := Lib.hid ((Fresh.of_owns hown6).mono hB.size)
    clear hown6 hg6 hrd
    show K (Act.put _ (some 71) _) _
    refine hK.out _ _ hB6 (fun hHeld2 => ?_)
    clear hK K hHeld
    have hHeld := hHeld2
    clear hHeld2
    try simp only [Act.put, List.setIfInBounds_toArray, List.set_cons_zero, List.set_cons_succ]
    refine reg_tk (v := ?_) 15 8 rfl rfl (by kernel_rfl) (by kernel_rfl) (by kernel_rfl) (fun _ _ _ h => h) (by rfl) ?_ (by assumption) ?_
    rotate_left
    · (intro w hSw; (try dsimp only at hSw); go_simp; (try with_reducible rfl))
    simp only [List.setIfInBounds_toArray, List.set_cons_zero, List.set_cons_succ]
    refine wpAnyH_done (by kernel_rfl) ?_ _
    refine NoPanic.normal ?_
    clear hHeld t0 t1 t2 t3 hc
    have t0 := cell_later hB6 tW0
    have t1 := cell_later hB6 tW1
    have t2 := cell_later hB6 tW2
    have t3 := cell_later hB6 tW3
    have hB7 := Below.next hB hB6
    go_wp2_with fail
    refine (unused_any ⟨2, (i : Int), j, b⟩ _).mono ?_
    rw [HF.out]
    rintro x w8 ⟨rfl, hb8⟩
    have HRD2 := Lib.hid (HRD.out.keep hb8)
    have hB8 := Below.next hB7 hb8
    clear hb8
    cases f
    · go_wp2_with fail
      go_ret2
      exact ⟨_, rfl, RdT.nil _, Fresh.nil _ _ _, hB8⟩
    · go_wp2_with fail
      go_ret2
      exact ⟨_, rfl, HRD2.out, HFR.out, hB8⟩
  · go_simp
    obtain ⟨X0, hX⟩ : ∃ X0 : World, X0 = Wd.alloc (.cells #[.string s] 9) := ⟨_, rfl⟩
    have hbX0 : Below Wd.heap.size Wd X0 := by rw [hX]; exact Below.al (Below.refl _ _) _
    have hBX0 : Below W.heap.size W X0 := Below.next hHeld hbX0
    have hXh : BoxN X0 Wd.heap.size 9 #[.string s] := by rw [hX]; exact BoxN.new Wd _ _
    rw [← hX]
    clear hX
    obtain ⟨B, hBq⟩ : ∃ B, Wd.heap.size = B := ⟨_, rfl⟩
    rw [hBq] at hXh ⊢
    have HON0 : Hid (RdS X0 1 (.slice (some ⟨B, 0, none⟩) 1 1) 1 (tcs [s])) := ⟨rfl, by decide, .inr ⟨B, 0, 1, rfl, by omega, fun j u hj => by
      cases j with
      | zero => rw [hXh.cell 0]; simpa [tcs] using hj
      | succ j => simp [tcs] at hj⟩⟩
    clear hXh hBq
    refine hK.out _ _ hBX0 (fun hHeld2 => ?_)
    clear hK K hHeld
    have hHeld := hHeld2
    clear hHeld2
    try simp only [Act.put, List.setIfInBounds_toArray, List.set_cons_zero, List.set_cons_succ]
    refine wpAnyH_ready (rs := [5]) (by kernel_rfl) (by simp) ?_
    refine AllReadyH.cons rfl (fun K hK => ?_) AllReadyH.nil
    go_simp
    refine (rown_any v1 (l.take (i + 1)) (by rw [HT.out]; omega) _ (HR1.out.keep hHeld)).mono ?_
    rintro x X ⟨a3, c3, rfl, hown3, hb3⟩
    rw [HT.out] at hown3 ⊢
    have hBX := Below.next hHeld hb3
    have hsz3 := hHeld.size
    have HROW : Hid (X.ownsRow W.heap.size 9 1 (.slice a3 (i + 1) c3) (i + 1) (tcs (l.take (i + 1)))) := own_base hown3 hsz3
    have HONE := Lib.hid (RdS.keep hb3 HON0.out)
    clear hown3 hsz3
    refine hK.out _ _ hBX (fun hHeld2 => ?_)
    clear hK K hHeld
    have hHeld := hHeld2
    clear hHeld2
    try simp only [Act.put, List.setIfInBounds_toArray, List.set_cons_zero, List.set_cons_succ]
    refine wpAnyH_ready (rs := [8]) (by kernel_rfl) (by simp) ?_
    refine AllReadyH.cons rfl (fun K hK => ?_) AllReadyH.nil
    refine wp_app (.tmp 62) (.tmp 64) 22 rfl W.heap.size 9 (.string ⟨#[]⟩) 1 16 ET _ (i + 1) (tcs (l.take (i + 1))) rfl HROW.out _ 1 (tcs [s]) rfl HONE.out (tcs_one _) (by unfold maxLen; omega) (by omega) (by have := hBX.size; omega) ?_
    intro a' c' w5 hown5 hg5 hb5
    have hB5 : Below W.heap.size W w5 := hBX.trans hb5
    have HROW5 := Lib.hid hown5
    have HD5 := Lib.hid (HR2D.out.keep hB5)
    clear hown5 hg5
    show K (Act.put _ (some 65) _) _
    refine hK.out _ _ hB5 (fun hHeld2 => ?_)
    clear hK K hHeld
    have hHeld := hHeld2
    clear hHeld2
    try simp only [Act.put, List.setIfInBounds_toArray, List.set_cons_zero, List.set_cons_succ]
    refine wpAnyH_ready (rs := [14]) (by kernel_rfl) (by simp) ?_
    refine AllReadyH.cons rfl (fun K hK => ?_) AllReadyH.nil
    refine wp_app (.tmp 65) (.tmp 70) 22 rfl W.heap.size 9 (.string ⟨#[]⟩) 1 16 ET _ (i + 1 + 1) (tcs (l.take (i + 1)) ++ tcs [s]) rfl HROW5.out _ (N - (i + 1)) (tcs (l.drop (i + 1))) rfl (by have := HD5.out; unfold RdT at this; rwa [HD.out] at this) (tcs_one _) (by unfold maxLen; omega) (by omega) (by have := hB5.size; omega) ?_
    intro a6 c6 w6 hown6 hg6 hb6
    have hB6 : Below W.heap.size W w6 := hB5.trans hb6
    have hrd : RdT w6 (.slice a6 (i + 1 + 1 + (N - (i + 1))) c6) (l.take (i + 1) ++ s :: l.drop (i + 1)) := by
      have := RdS.of_owns hown6 (by decide)
      unfold RdT
      rw [show l.take (i + 1) ++ s :: l.drop (i + 1) = l.take (i + 1) ++ [s] ++ l.drop (i + 1) by simp]
      rw [tcs_append, tcs_append, List.length_append, List.length_append, HT.out, HD.out]
      exact this
    have HRD := Lib.hid hrd
    have HFR := Lib.hid ((Fresh.of_owns hown6).mono hB.size)
    clear hown6 hg6 hrd
    show K (Act.put _ (some 71) _) _
    refine hK.out _ _ hB6 (fun hHeld2 => ?_)
    clear hK K hHeld
    have hHeld := hHeld2
    clear hHeld2
    try simp only [Act.put, List.setIfInBounds_toArray, List.set_cons_zero, List.set_cons_succ]
    refine reg_tk (v := ?_) 15 8 rfl rfl (by kernel_rfl) (by kernel_rfl) (by kernel_rfl) (fun _ _ _ h => h) (by rfl) ?_ (by assumption) ?_
    rotate_left
    · (intro w hSw; (try dsimp only at hSw); go_simp; (try with_reducible rfl))
    simp only [List.setIfInBounds_toArray, List.set_cons_zero, List.set_cons_succ]
    refine wpAnyH_done (by kernel_rfl) ?_ _
    refine NoPanic.normal ?_
    clear hHeld t0 t1 t2 t3 hc
    have t0 := cell_later hB6 tW0
    have t1 := cell_later hB6 tW1
    have t2 := cell_later hB6 tW2
    have t3 := cell_later hB6 tW3
    have hB7 := Below.next hB hB6
    go_wp2_with fail
    refine (unused_any ⟨2, (i : Int), j, b⟩ _).mono ?_
    rw [HF.out]
    rintro x w8 ⟨rfl, hb8⟩
    have HRD2 := Lib.hid (HRD.out.keep hb8)
    have hB8 := Below.next hB7 hb8
    clear hb8
    cases f
    · go_wp2_with fail
      go_ret2
      exact ⟨_, rfl, RdT.nil _, Fresh.nil _ _ _, hB8⟩
    · go_wp2_with fail
      go_ret2
      exact ⟨_, rfl, HRD2.out, HFR.out, hB8⟩
end Go.Proofs.YtimkeafpefkheaaDoor
