/- Copies of outcomes. Next, in the program. -/
import Derived.Test.YtcjlbpndgjapiaaDoorZb
import Derived.Test.YtcjlbpndgjapiaaDoorZg
namespace Go.Proofs.YtcjlbpndgjapiaaDoor
open Go.RowKit
set_option linter.unusedSimpArgs false
set_option linter.unusedVariables false
set_option maxRecDepth 100000

/-- a call has returned a copy of its own -/
def OMo (w : World) (l : List Oc) (x : Ending) (w' : World) : Prop := ∃ a c, x = .returned (.slice a l.length c) ∧ w'.ownsRow w.heap.size 28 7 (.slice a l.length c) l.length (rcs ocR l) ∧ Below w.heap.size w w'
theorem own_any (v : Value) (l : List Oc) (hl : l.length ≤ 1000000) (w : World) (h : RdO w v l) : Calls Tryd.prog 11 #[v] w (OMo w l) := by
  have hrd0 : RdS (w.alloc (.cells #[] 28)) 7 v l.length (rcs ocR l) := h.keep (by repeat (first | assumption | exact Below.refl _ _ | apply Below.al | apply below_drewN | apply Below.drew | refine Below.next ?_ (by assumption)))
  have hown0 : (w.alloc (.cells #[] 28)).ownsRow w.heap.size 28 7 (.slice (some ⟨w.heap.size, 0, none⟩) 0 0) 0 [] := owns_block _ _ 28 7 0 [] _ (Nat.le_refl _) (heap_last w _) rfl (by decide)
  obtain ⟨N, hN⟩ : ∃ N, l.length = N := ⟨_, rfl⟩
  rw [hN] at hl hrd0
  (try rw [hN] at q)
  (try rw [hN])
  have HN := Lib.hid hN
  have HRD := Lib.hid hrd0
  clear hN h hrd0
  go_enter Tryd.func11, Tryd.ntmps11
  go_wp2_with (at_builtin; refine wpList_app rfl (.tmp 3) (.tmp 4) 23 rfl w.heap.size 28 _ 7 56 EOc _ 0 [] rfl hown0 _ N (rcs ocR l) rfl HRD.out (rcs_one _ _) ?c1 ?c2 ?c3 ?c4)
  case c1 => unfold maxLen; omega
  case c2 => omega
  case c3 => simp
  case c4 =>
    intro a3 c3 w3 hown3 hg3 hb3
    have hown3 : w3.ownsRow w.heap.size 28 7 (.slice a3 N c3) N (rcs ocR l) := by first | with_reducible exact hown3 | simpa using hown3
    have hB : Below w.heap.size w w3 := Below.trans (Below.al (Below.refl _ _) _) hb3
    have HO := Lib.hid hown3
    clear hown3 hown0 hg3
    go_wp2
    go_ret
    exact ⟨a3, c3, by rw [HN.out]; rfl, by rw [HN.out]; exact HO.out, hB⟩
theorem clone_any (v : Value) (l : List Oc) (hl : l.length ≤ 1000000) (w : World) (h : RdO w v l) : Calls Tryd.prog 46 #[v] w (OMo w l) := by
  obtain ⟨a0, n0, rfl⟩ := h.form
  cases a0 with
  | none =>
    have h0 : l = [] := by
      obtain ⟨_, _, ⟨h0, _⟩ | ⟨b, off, cap, hv, _⟩⟩ := h
      · exact List.length_eq_zero_iff.1 h0
      · cases hv
    subst h0
    have q : (binOp .eql 23 (.slice none 0 n0) (.slice none 0 0)).run Tryd.prog w = .ok (.bool true) w := Lib.run_eql_slice_nil w _ _ none 0 n0 0 0 Tryd.underlying23
    clear h
    go_enter Tryd.func46, Tryd.ntmps46
    go_wp2
    go_ret
    exact ⟨none, 0, rfl, ⟨rfl, .inl ⟨rfl, rfl⟩⟩, Below.refl _ _⟩
  | some a0 =>
    have q : (binOp .eql 23 (.slice (some a0) l.length n0) (.slice none 0 0)).run Tryd.prog w = .ok (.bool false) w := Lib.run_eql_slice_nil w _ _ (some a0) _ n0 0 0 Tryd.underlying23
    obtain ⟨M, hM⟩ : ∃ M, l.length = M := ⟨_, rfl⟩
    rw [hM] at h q ⊢
    have h : RdO w (.slice (some a0) M n0) l := h
    rw [← hM]
    rw [← hM] at h q
    clear hM
    have hrd0 : RdS (w.alloc (.cells #[] 28)) 7 (.slice (some a0) l.length n0) l.length (rcs ocR l) := h.keep (by repeat (first | assumption | exact Below.refl _ _ | apply Below.al | apply below_drewN | apply Below.drew | refine Below.next ?_ (by assumption)))
    have hown0 : (w.alloc (.cells #[] 28)).ownsRow w.heap.size 28 7 (.slice (some ⟨w.heap.size, 0, none⟩) 0 0) 0 [] := owns_block _ _ 28 7 0 [] _ (Nat.le_refl _) (heap_last w _) rfl (by decide)
    obtain ⟨N, hN⟩ : ∃ N, l.length = N := ⟨_, rfl⟩
    rw [hN] at hl hrd0
    (try rw [hN] at q)
    (try rw [hN])
    have HN := Lib.hid hN
    have HRD := Lib.hid hrd0
    clear hN h hrd0
    go_enter Tryd.func46, Tryd.ntmps46
    go_wp2_with (at_builtin; refine wpList_app rfl (.tmp 5) (.tmp 6) 23 rfl w.heap.size 28 _ 7 56 EOc _ 0 [] rfl hown0 _ N (rcs ocR l) rfl HRD.out (rcs_one _ _) ?c1 ?c2 ?c3 ?c4)
    case c1 => unfold maxLen; omega
    case c2 => omega
    case c3 => simp
    case c4 =>
      intro a3 c3 w3 hown3 hg3 hb3
      have hown3 : w3.ownsRow w.heap.size 28 7 (.slice a3 N c3) N (rcs ocR l) := by first | with_reducible exact hown3 | simpa using hown3
      have hB : Below w.heap.size w w3 := Below.trans (Below.al (Below.refl _ _) _) hb3
      have HO := Lib.hid hown3
      clear hown3 hown0 hg3
      go_wp2
      go_ret
      exact ⟨a3, c3, by rw [HN.out]; rfl, by rw [HN.out]; exact HO.out, hB⟩
end Go.Proofs.YtcjlbpndgjapiaaDoor
namespace Go.Proofs.YtcjlbpndgjapiaaDoor
open Go.RowKit
set_option linter.unusedSimpArgs false
set_option linter.unusedVariables false
set_option maxRecDepth 100000

theorem World.ownsRow.mono_low {w : World} {base base' : Nat} {e : TypeId} {size : Nat} {v : Value} {n : Nat} {xs : List Value} (h : w.ownsRow base e size v n xs) (hb : base' ≤ base) : w.ownsRow base' e size v n xs := by
  refine ⟨h.1, ?_⟩
  rcases h.2 with h1 | ⟨g', cap, cur, hv, h2, rest⟩
  · exact .inl h1
  · exact .inr ⟨g', cap, cur, hv, Nat.le_trans hb h2, rest⟩
set_option maxHeartbeats 4000000 in
theorem next_any (v u : Value) (ws : List Bd) (l : List Oc) (o : Oc) (hof : OcW o) (w : World) (h : Wd w v u ws l) : Calls Tryd.prog 16 #[v, u, o.v] w (NxR w ws l o) := by
  obtain ⟨a1, n1, rfl⟩ := h.ro.form
  obtain ⟨M, hM⟩ : ∃ M, l.length = M := ⟨_, rfl⟩
  obtain ⟨W, hW⟩ : ∃ W : World, W = w.alloc (.cells #[.int .i64 o.tk, .int .i64 o.nd, .int .i64 o.kd, .int .i64 o.id.nd, .int .u64 o.id.sq, .int .i64 o.id.off, .int .i64 o.ot] 28) := ⟨_, rfl⟩
  have hB : Below w.heap.size w W := by rw [hW]; exact (by repeat (first | assumption | exact Below.refl _ _ | apply Below.al | apply below_drewN | apply Below.drew | refine Below.next ?_ (by assumption)))
  have bI : BoxN W w.heap.size 28 #[.int .i64 o.tk, .int .i64 o.nd, .int .i64 o.kd, .int .i64 o.id.nd, .int .u64 o.id.sq, .int .i64 o.id.off, .int .i64 o.ot] := by rw [hW]; exact BoxN.new w _ _
  have h0 : W.cell? ⟨w.heap.size, 0, none⟩ = some (.int .i64 o.tk) := bI.cell 0
  have h1 : W.cell? ⟨w.heap.size, 1, none⟩ = some (.int .i64 o.nd) := bI.cell 1
  have h2 : W.cell? ⟨w.heap.size, 2, none⟩ = some (.int .i64 o.kd) := bI.cell 2
  have h3 : W.cell? ⟨w.heap.size, 3, none⟩ = some (.int .i64 o.id.nd) := bI.cell 3
  have h4 : W.cell? ⟨w.heap.size, 4, none⟩ = some (.int .u64 o.id.sq) := bI.cell 4
  have h5 : W.cell? ⟨w.heap.size, 5, none⟩ = some (.int .i64 o.id.off) := bI.cell 5
  have h6 : W.cell? ⟨w.heap.size, 6, none⟩ = some (.int .i64 o.ot) := bI.cell 6
  clear bI
  have HM := Lib.hid hM
  have HH := Lib.hid (h.keep hB)
  have HC := Lib.hid (fates_any v _ ws l W HH.out)
  have HOFA : Hid (∀ x, x ∈ l ++ [o] → OcW x) := Lib.hid (fun x hx => by
    rcases List.mem_append.1 hx with hx | hx
    · exact h.of x hx
    · simp at hx; rw [hx]; exact hof)
  obtain ⟨X, Y, hXY⟩ : ∃ X Y, nxtV ws l o = (X, Y) := ⟨_, _, rfl⟩
  have HXY := Lib.hid hXY
  have HEND : Hid (∀ w', Below w.heap.size w w' → NxR w ws l o (.returned (.tuple #[.bool X, .int .i64 Y])) w') := Lib.hid (fun w' hb => by unfold NxR; rw [hXY]; exact ⟨rfl, hb⟩)
  have HB := Lib.hid hB
  obtain ⟨Q, hQ⟩ : ∃ Q, w.heap.size = Q := ⟨_, rfl⟩
  have HQ := Lib.hid hQ
  rw [hQ] at h0 h1 h2 h3 h4 h5 h6
  rw [hM] at HC HH ⊢
  clear h hB hM hXY hQ hof
  go_enter Tryd.func16, Tryd.ntmps16
  go_upto_region 1 with fail
  rw [← hW, HQ.out]
  clear hW
  go_wp2_with fail
  refine HC.out.mono ?_
  rintro e w1 ⟨hb1, hcase⟩
  have h0 := cell_later hb1 h0
  have h1 := cell_later hb1 h1
  have h2 := cell_later hb1 h2
  have h3 := cell_later hb1 h3
  have h4 := cell_later hb1 h4
  have h5 := cell_later hb1 h5
  have h6 := cell_later hb1 h6
  replace HH := Lib.hid (HH.out.keep hb1)
  have HB1 := Lib.hid (Below.next HB.out hb1)
  have hcase2 : ∃ x, e = .returned (.tuple #[x, .int .i64 (fatE ws l)]) := by
    rcases hcase with ⟨_, h⟩ | ⟨h, B, bl, h', _⟩
    · exact ⟨_, h⟩
    · exact ⟨_, by rw [h]; exact h'⟩
  obtain ⟨fx, rfl⟩ := hcase2
  obtain ⟨z2, hz2⟩ : ∃ z2, fatE ws l = z2 := ⟨_, rfl⟩
  have HZ2 := Lib.hid hz2
  rw [hz2] at hcase ⊢
  clear hcase hb1 HC HB hz2
  by_cases hz2 : z2 = 0
  · have d2 : (z2 != 0) = false := by simp [hz2]
    have hf0 : fatE ws l = 0 := by rw [HZ2.out, hz2]
    obtain ⟨e1, e2⟩ := chkE_parts (fatE_chk hf0)
    have HE1 := Lib.hid e1
    have hM5 : M ≤ 5000 := by rw [← HM.out]; exact (chk_trace e2).1
    obtain ⟨W, rfl⟩ : ∃ V : World, V = w1 := ⟨_, rfl⟩
    have HANS : Hid (Y = 0 ∧ X = decide ((chkT (l ++ [o])).1 = 0 ∧ (folW ws (l ++ [o])).2 = M + 1)) := Lib.hid (by
      have h1 := HXY.out
      unfold nxtV at h1
      rw [if_neg (by rw [hf0]; simp)] at h1
      simp only [Prod.mk.injEq] at h1
      refine ⟨h1.2.symm, ?_⟩
      rw [← h1.1, HM.out])
    have HCL : Hid (∀ wS, Below W.heap.size W wS → Calls Tryd.prog 46 #[.slice a1 M n1] wS (OMo wS l)) := Lib.hid (fun wS hb => clone_any _ l (by rw [HM.out]; omega) wS (HH.out.ro.keep hb))
    clear hz2 hf0 e1 e2
    have hw0 : Below W.heap.size W W.drew := (Below.refl _ W).drew
    have hBa : Below W.heap.size W W := Below.refl _ W
    go_upto_region 4 with fail
    refine wp_region_noPanic ?_
    refine wp_region_held_drew (S := (fun w' => Below W.heap.size W w')) (by kernel_rfl) hw0 (fun hHeld => ?_)
    refine reg_tk (v := ?_) 0 24 rfl rfl (by kernel_rfl) (by kernel_rfl) (by kernel_rfl) (fun _ _ _ h => h) (by rfl) ?_ (by assumption) ?_
    rotate_left
    · (intro w hSw; (try dsimp only at hSw); go_simp; (try with_reducible rfl))
    simp only [List.setIfInBounds_toArray, List.set_cons_zero, List.set_cons_succ]
    refine reg_tk (v := o.v) 2 26 rfl rfl (by kernel_rfl) (by kernel_rfl) (by kernel_rfl) (fun _ _ _ h => h) (by rfl) (fun w3 hS => by (have x0 := cell_later hS h0; have x1 := cell_later hS h1; have x2 := cell_later hS h2; have x3 := cell_later hS h3; have x4 := cell_later hS h4; have x5 := cell_later hS h5; have x6 := cell_later hS h6); go_simp) (by assumption) ?_
    simp only [List.setIfInBounds_toArray, List.set_cons_zero, List.set_cons_succ]
    refine wpAnyH_ready (rs := [1, 3]) (by kernel_rfl) (by simp) ?_
    refine AllReadyH.cons rfl (fun K hK => ?_) (AllReadyH.cons rfl (fun K hK => ?_) AllReadyH.nil)
    · go_simp
      refine (HCL.out _ hw0).mono ?_
      rintro e v1w ⟨aA, cA, rfl, oA, hb1⟩
      rw [HM.out] at oA ⊢
      have hb1 : Below W.heap.size W v1w := Below.next hw0 hb1
      have oA := World.ownsRow.mono_low oA hw0.size
      have hBb := Below.next hBa hb1
      clear hBa
      have hBa := hBb
      clear hBb
      refine hK.out _ _ hBa (fun hHeld2 => ?_)
      clear hK K hHeld
      have hHeld := hHeld2
      clear hHeld2
      try simp only [Act.put, List.setIfInBounds_toArray, List.set_cons_zero, List.set_cons_succ]
      refine wpAnyH_ready (rs := [3]) (by kernel_rfl) (by simp) ?_
      refine AllReadyH.cons rfl (fun K hK => ?_) AllReadyH.nil
      go_simp
      obtain ⟨v3w, hw3⟩ : ∃ V : World, V = World.alloc v1w (.cells #[.int .i64 o.tk, .int .i64 o.nd, .int .i64 o.kd, .int .i64 o.id.nd, .int .u64 o.id.sq, .int .i64 o.id.off, .int .i64 o.ot] 28) := ⟨_, rfl⟩
      have hb3 : Below (World.heap v1w).size v1w v3w := by rw [hw3]; exact Below.al (Below.refl _ _) _
      have hL : RdS v3w 7 (.slice (some ⟨(World.heap v1w).size, 0, none⟩) 1 1) 1 (rcs ocR [o]) := by rw [hw3]; exact rds_oc _ o _
      rw [← hw3]
      clear hw3
      replace oA := owk oA hb3
      have hBb := Below.next hBa hb3
      clear hBa
      have hBa := hBb
      clear hBb
      refine hK.out _ _ hBa (fun hHeld2 => ?_)
      clear hK K hHeld
      have hHeld := hHeld2
      clear hHeld2
      try simp only [Act.put, List.setIfInBounds_toArray, List.set_cons_zero, List.set_cons_succ]
      refine wpAnyH_ready (rs := [4]) (by kernel_rfl) (by simp) ?_
      refine AllReadyH.cons rfl (fun K hK => ?_) AllReadyH.nil
      refine wp_app (.tmp 25) (.tmp 27) 23 rfl W.heap.size 28 _ 7 56 EOc _ M (rcs ocR l) rfl oA _ 1 (rcs ocR [o]) rfl hL (rcs_one _ _) (by unfold maxLen; omega) (by omega) hBa.size ?_
      intro aB cB v4w oB hg4 hb4
      go_simp
      have hBb := hBa.trans hb4
      clear oA hL hg4
      clear hBa
      have hBa := hBb
      clear hBb
      refine hK.out _ _ hBa (fun hHeld2 => ?_)
      clear hK K hHeld
      have hHeld := hHeld2
      clear hHeld2
      try simp only [Act.put, List.setIfInBounds_toArray, List.set_cons_zero, List.set_cons_succ]
      refine reg_tk (v := ?_) 5 10 rfl rfl (by kernel_rfl) (by kernel_rfl) (by kernel_rfl) (fun _ _ _ h => h) (by rfl) ?_ (by assumption) ?_
      rotate_left
      · (intro w hSw; (try dsimp only at hSw); go_simp; (try with_reducible rfl))
      simp only [List.setIfInBounds_toArray, List.set_cons_zero, List.set_cons_succ]
      refine wpAnyH_done (by kernel_rfl) ?_ _
      refine NoPanic.normal ?_
      have hro : RdS v4w 7 (.slice aB (M + 1) cB) (M + 1) (rcs ocR (l ++ [o])) := by
        have e := RdS.of_owns oB (by decide)
        rw [← rcs_append] at e
        exact e
      have hro : RdO v4w (.slice aB (M + 1) cB) (l ++ [o]) := by
        show RdS v4w 7 _ (l ++ [o]).length (rcs ocR (l ++ [o]))
        rw [List.length_append, HM.out]; exact hro
      have HW := Lib.hid (Wd.mk HH.out.wf HOFA.out (HH.out.rb.keep hHeld) hro (HH.out.sd.keep hHeld) (HH.out.fc.keep hHeld))
      have HBX := Lib.hid (Below.next HB1.out hHeld)
      clear hro hHeld hBa oB h0 h1 h2 h3 h4 h5 h6 hw0 hb4
      have HTR := Lib.hid (trace_any _ (l ++ [o]) _ HW.out.fc HW.out.ro)
      obtain ⟨er, it, hti⟩ : ∃ er it, chkT (l ++ [o]) = (er, it) := ⟨_, _, rfl⟩
      rw [hti] at HTR
      have HTI := Lib.hid hti
      clear hti
      go_wp2_with fail
      refine HTR.out.mono ?_
      rintro e w6 ⟨rfl, hb6⟩
      replace HW := Lib.hid (HW.out.keep hb6)
      replace HBX := Lib.hid (Below.next HBX.out hb6)
      clear hb6 HTR
      by_cases hee : er = 0
      · have d5 : (er != 0) = false := by simp [hee]
        have hc2 : (chkT (l ++ [o])).1 = 0 := by rw [HTI.out]; exact hee
        obtain ⟨p1, p2, p3⟩ := chk_world HE1.out
        obtain ⟨q1, q2⟩ := chk_trace hc2
        have HFO := Lib.hid (follow_any _ _ ws (l ++ [o]) HW.out.wf (fun b hb => bk_of (p2 b hb)) p3 p1 HW.out.of (fun o ho => ok_of (q2 o ho)) w6 HW.out.sd HW.out.rb HW.out.ro)
        have HCC := Lib.hid hc2
        clear hee hc2 p1 p2 p3 q1 q2
        go_wp2_with fail
        refine HFO.out.mono ?_
        rintro e w7 ⟨B, bl, rfl, _, hb7⟩
        obtain ⟨nn, hnn⟩ : ∃ nn, (folW ws (l ++ [o])).2 = nn := ⟨_, rfl⟩
        have HNN := Lib.hid hnn
        rw [hnn]
        have HB7 := Lib.hid (Below.next HBX.out hb7)
        clear hnn hb7 HFO
        by_cases he2 : nn = M + 1
        · have d6 : ((nn : Int) == (M : Int) + 1) = true := by simp [he2]
          have HX : Hid (X = true) := Lib.hid (by rw [HANS.out.2, HCC.out, HNN.out]; simp [he2])
          subst he2
          go_wp2_with fail
          go_ret2
          have := HEND.out _ HB7.out
          rw [HX.out, HANS.out.1] at this
          exact this
        · have d6 : ((nn : Int) == (M : Int) + 1) = false := by simpa using (by omega : ¬ (nn : Int) = (M : Int) + 1)
          have HX : Hid (X = false) := Lib.hid (by rw [HANS.out.2, HNN.out]; simp [he2])
          clear he2
          go_wp2_with fail
          go_ret2
          have := HEND.out _ HB7.out
          rw [HX.out, HANS.out.1] at this
          exact this
      · have d5 : (er != 0) = true := by simpa using hee
        have HX : Hid (X = false) := Lib.hid (by rw [HANS.out.2, HTI.out]; simp [hee])
        clear hee
        go_wp2_with fail
        go_ret2
        have := HEND.out _ HBX.out
        rw [HX.out, HANS.out.1] at this
        exact this
    · go_simp
      obtain ⟨v3w, hw3⟩ : ∃ V : World, V = (World.alloc W (.cells #[.int .i64 o.tk, .int .i64 o.nd, .int .i64 o.kd, .int .i64 o.id.nd, .int .u64 o.id.sq, .int .i64 o.id.off, .int .i64 o.ot] 28)).drew := ⟨_, rfl⟩
      have hb3 : Below (World.heap W).size W v3w := by rw [hw3]; exact (Below.al (Below.refl _ _) _).drew
      have hL : RdS v3w 7 (.slice (some ⟨W.heap.size, 0, none⟩) 1 1) 1 (rcs ocR [o]) := by rw [hw3]; exact RdS.keep ((Below.refl _ _).drew) (rds_oc W o _)
      rw [← hw3]
      clear hw3
      have hBb := Below.next hBa hb3
      clear hBa
      have hBa := hBb
      clear hBb
      refine hK.out _ _ hBa (fun hHeld2 => ?_)
      clear hK K hHeld
      have hHeld := hHeld2
      clear hHeld2
      try simp only [Act.put, List.setIfInBounds_toArray, List.set_cons_zero, List.set_cons_succ]
      refine wpAnyH_ready (rs := [1]) (by kernel_rfl) (by simp) ?_
      refine AllReadyH.cons rfl (fun K hK => ?_) AllReadyH.nil
      go_simp
      refine (HCL.out _ hBa).mono ?_
      rintro e v1w ⟨aA, cA, rfl, oA, hb1⟩
      rw [HM.out] at oA ⊢
      have oA := World.ownsRow.mono_low oA hBa.size
      replace hL := RdS.keep hb1 hL
      have hBb := Below.next hBa hb1
      clear hBa
      have hBa := hBb
      clear hBb
      refine hK.out _ _ hBa (fun hHeld2 => ?_)
      clear hK K hHeld
      have hHeld := hHeld2
      clear hHeld2
      try simp only [Act.put, List.setIfInBounds_toArray, List.set_cons_zero, List.set_cons_succ]
      refine wpAnyH_ready (rs := [4]) (by kernel_rfl) (by simp) ?_
      refine AllReadyH.cons rfl (fun K hK => ?_) AllReadyH.nil
      refine wp_app (.tmp 25) (.tmp 27) 23 rfl W.heap.size 28 _ 7 56 EOc _ M (rcs ocR l) rfl oA _ 1 (rcs ocR [o]) rfl hL (rcs_one _ _) (by unfold maxLen; omega) (by omega) hBa.size ?_
      intro aB cB v4w oB hg4 hb4
      go_simp
      have hBb := hBa.trans hb4
      clear oA hL hg4
      clear hBa
      have hBa := hBb
      clear hBb
      refine hK.out _ _ hBa (fun hHeld2 => ?_)
      clear hK K hHeld
      have hHeld := hHeld2
      clear hHeld2
      try simp only [Act.put, List.setIfInBounds_toArray, List.set_cons_zero, List.set_cons_succ]
      refine reg_tk (v := ?_) 5 10 rfl rfl (by kernel_rfl) (by kernel_rfl) (by kernel_rfl) (fun _ _ _ h => h) (by rfl) ?_ (by assumption) ?_
      rotate_left
      · (intro w hSw; (try dsimp only at hSw); go_simp; (try with_reducible rfl))
      simp only [List.setIfInBounds_toArray, List.set_cons_zero, List.set_cons_succ]
      refine wpAnyH_done (by kernel_rfl) ?_ _
      refine NoPanic.normal ?_
      have hro : RdS v4w 7 (.slice aB (M + 1) cB) (M + 1) (rcs ocR (l ++ [o])) := by
        have e := RdS.of_owns oB (by decide)
        rw [← rcs_append] at e
        exact e
      have hro : RdO v4w (.slice aB (M + 1) cB) (l ++ [o]) := by
        show RdS v4w 7 _ (l ++ [o]).length (rcs ocR (l ++ [o]))
        rw [List.length_append, HM.out]; exact hro
      have HW := Lib.hid (Wd.mk HH.out.wf HOFA.out (HH.out.rb.keep hHeld) hro (HH.out.sd.keep hHeld) (HH.out.fc.keep hHeld))
      have HBX := Lib.hid (Below.next HB1.out hHeld)
      clear hro hHeld hBa oB h0 h1 h2 h3 h4 h5 h6 hw0 hb4
      have HTR := Lib.hid (trace_any _ (l ++ [o]) _ HW.out.fc HW.out.ro)
      obtain ⟨er, it, hti⟩ : ∃ er it, chkT (l ++ [o]) = (er, it) := ⟨_, _, rfl⟩
      rw [hti] at HTR
      have HTI := Lib.hid hti
      clear hti
      go_wp2_with fail
      refine HTR.out.mono ?_
      rintro e w6 ⟨rfl, hb6⟩
      replace HW := Lib.hid (HW.out.keep hb6)
      replace HBX := Lib.hid (Below.next HBX.out hb6)
      clear hb6 HTR
      by_cases hee : er = 0
      · have d5 : (er != 0) = false := by simp [hee]
        have hc2 : (chkT (l ++ [o])).1 = 0 := by rw [HTI.out]; exact hee
        obtain ⟨p1, p2, p3⟩ := chk_world HE1.out
        obtain ⟨q1, q2⟩ := chk_trace hc2
        have HFO := Lib.hid (follow_any _ _ ws (l ++ [o]) HW.out.wf (fun b hb => bk_of (p2 b hb)) p3 p1 HW.out.of (fun o ho => ok_of (q2 o ho)) w6 HW.out.sd HW.out.rb HW.out.ro)
        have HCC := Lib.hid hc2
        clear hee hc2 p1 p2 p3 q1 q2
        go_wp2_with fail
        refine HFO.out.mono ?_
        rintro e w7 ⟨B, bl, rfl, _, hb7⟩
        obtain ⟨nn, hnn⟩ : ∃ nn, (folW ws (l ++ [o])).2 = nn := ⟨_, rfl⟩
        have HNN := Lib.hid hnn
        rw [hnn]
        have HB7 := Lib.hid (Below.next HBX.out hb7)
        clear hnn hb7 HFO
        by_cases he2 : nn = M + 1
        · have d6 : ((nn : Int) == (M : Int) + 1) = true := by simp [he2]
          have HX : Hid (X = true) := Lib.hid (by rw [HANS.out.2, HCC.out, HNN.out]; simp [he2])
          subst he2
          go_wp2_with fail
          go_ret2
          have := HEND.out _ HB7.out
          rw [HX.out, HANS.out.1] at this
          exact this
        · have d6 : ((nn : Int) == (M : Int) + 1) = false := by simpa using (by omega : ¬ (nn : Int) = (M : Int) + 1)
          have HX : Hid (X = false) := Lib.hid (by rw [HANS.out.2, HNN.out]; simp [he2])
          clear he2
          go_wp2_with fail
          go_ret2
          have := HEND.out _ HB7.out
          rw [HX.out, HANS.out.1] at this
          exact this
      · have d5 : (er != 0) = true := by simpa using hee
        have HX : Hid (X = false) := Lib.hid (by rw [HANS.out.2, HTI.out]; simp [hee])
        clear hee
        go_wp2_with fail
        go_ret2
        have := HEND.out _ HBX.out
        rw [HX.out, HANS.out.1] at this
        exact this
  · have d2 : (z2 != 0) = true := by simpa using hz2
    have HANS : Hid (X = false ∧ Y = z2) := Lib.hid (by
      have h1 := HXY.out
      unfold nxtV at h1
      rw [HZ2.out, if_pos hz2] at h1
      simp only [Prod.mk.injEq] at h1
      exact ⟨h1.1.symm, h1.2.symm⟩)
    clear hz2
    go_wp2_with fail
    go_ret2
    have := HEND.out _ HB1.out
    rw [HANS.out.1, HANS.out.2] at this
    exact this
end Go.Proofs.YtcjlbpndgjapiaaDoor
