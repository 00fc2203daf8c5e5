




/- ModelAllows, in the law. -/
import Derived.Test.YtcjlbpndgjapiaaDoorAc
namespace Go.Proofs.YtcjlbpndgjapiaaDoor
open Go.RowKit
set_option linter.unusedSimpArgs false
set_option linter.unusedVariables false
set_option maxRecDepth 100000

theorem EBd : ElemOk Tryd.prog 22 41 (.agg #[.int .i64 0, .int .u64 0, .int .i64 0, .int .i64 0, .int .i64 0, .int .i64 0, .int .i64 0, .int .i64 0, .string ⟨#[]⟩]) 9 80 := ⟨Tryd.underlying22, by kernel_rfl, rfl, by decide⟩
set_option maxHeartbeats 4000000 in
theorem allows_any (v u : Value) (ws : List Bd) (l : List Oc) (o : Oc) (ho : OcW o) (w : World) (h : Wd w v u ws l) : Calls Tryd.prog 3 #[v, u, o.v] w fun e w' => e = .returned (.bool true) ∧ Below w.heap.size w w' := by
  obtain ⟨av, nv, hv⟩ := h.rb.form
  obtain ⟨N, hN⟩ : ∃ N, ws.length = N := ⟨_, rfl⟩
  rw [hN] at hv
  subst hv
  obtain ⟨W, hW⟩ : ∃ W : World, W = w.alloc (.cells #[.int .i64 o.tk, .int .i64 o.nd, .int .i64 o.kd, .int .i64 o.id.nd, .int .u64 o.id.sq, .int .i64 o.id.off, .int .i64 o.ot] 28) := ⟨_, rfl⟩
  have hB : Below w.heap.size w W := by rw [hW]; exact (by repeat (first | assumption | exact Below.refl _ _ | apply Below.al | apply below_drewN | apply Below.drew | refine Below.next ?_ (by assumption)))
  have bI : BoxN W w.heap.size 28 #[.int .i64 o.tk, .int .i64 o.nd, .int .i64 o.kd, .int .i64 o.id.nd, .int .u64 o.id.sq, .int .i64 o.id.off, .int .i64 o.ot] := by rw [hW]; exact BoxN.new w _ _
  have h0 : W.cell? ⟨w.heap.size, 0, none⟩ = some (.int .i64 o.tk) := bI.cell 0
  have h1 : W.cell? ⟨w.heap.size, 1, none⟩ = some (.int .i64 o.nd) := bI.cell 1
  have h2 : W.cell? ⟨w.heap.size, 2, none⟩ = some (.int .i64 o.kd) := bI.cell 2
  have h3 : W.cell? ⟨w.heap.size, 3, none⟩ = some (.int .i64 o.id.nd) := bI.cell 3
  have h4 : W.cell? ⟨w.heap.size, 4, none⟩ = some (.int .u64 o.id.sq) := bI.cell 4
  have h5 : W.cell? ⟨w.heap.size, 5, none⟩ = some (.int .i64 o.id.off) := bI.cell 5
  have h6 : W.cell? ⟨w.heap.size, 6, none⟩ = some (.int .i64 o.ot) := bI.cell 6
  clear bI
  have HW := Lib.hid (h.keep hB)
  have HB := Lib.hid hB
  have HOW := Lib.hid ho
  have HN := Lib.hid hN
  obtain ⟨Q, hQ⟩ : ∃ Q, w.heap.size = Q := ⟨_, rfl⟩
  have HQ := Lib.hid hQ
  rw [hQ] at h0 h1 h2 h3 h4 h5 h6
  clear hB h ho hQ hN
  go_enter Tryd.func3, Tryd.ntmps3
  go_upto_region 1 with fail
  rw [← hW, HQ.out]
  clear hW
  go_wp2_with fail
  refine (large_any _ u ws l W HW.out.rb HW.out.ro).mono ?_
  rintro e w1 ⟨r, rfl, hr, hb⟩
  have k0 := cell_later hb h0
  have k1 := cell_later hb h1
  have k2 := cell_later hb h2
  have k3 := cell_later hb h3
  have k4 := cell_later hb h4
  have k5 := cell_later hb h5
  have k6 := cell_later hb h6
  replace HW := Lib.hid (HW.out.keep hb)
  replace HB := Lib.hid (Below.next HB.out hb)
  have HRL := Lib.hid hr
  clear hb h0 h1 h2 h3 h4 h5 h6 hr
  cases r with
  | true =>
    go_wp2_with fail
    refine (awake_any w1 HW.out.sd HW.out.fc).mono ?_
    rintro e w2 ⟨rfl, hb⟩
    replace HB := Lib.hid (Below.next HB.out hb)
    clear hb k0 k1 k2 k3 k4 k5 k6
    go_wp2_with fail
    go_ret
    exact ⟨rfl, HB.out⟩
  | false =>
    have hN2 : N ≤ 205 := by have := (HRL.out rfl).1; have := HN.out; omega
    have hM2 := (HRL.out rfl).2
    have hal : Below w1.heap.size w1 (w1.alloc (.cells #[] 41)) := Below.al (Below.refl _ _) _
    have HRD : Hid (RdS (w1.alloc (.cells #[] 41)) 9 (.slice av N nv) N (rcs bdR ws)) := Lib.hid (by
      have h2 := HW.out.rb.keep hal
      unfold RdB RdL at h2
      rw [HN.out] at h2
      exact h2)
    have hown0 : (w1.alloc (.cells #[] 41)).ownsRow w1.heap.size 41 9 (.slice (some ⟨w1.heap.size, 0, none⟩) 0 0) 0 [] := owns_block _ _ 41 9 0 [] _ (Nat.le_refl _) (heap_last w1 _) rfl (by decide)
    go_wp2_with (first | (at_builtin; refine wpList_app rfl (.tmp 24) (.tmp 25) 22 rfl w1.heap.size 41 _ 9 80 EBd _ 0 [] rfl hown0 _ N (rcs bdR ws) rfl HRD.out (rcs_one _ _) ?c1 ?c2 ?c3 ?c4) | fail)
    case c1 => unfold maxLen; omega
    case c2 => omega
    case c3 => simp
    intro a3 c3 w3 hown3 hg3 hb3
    have hown3 : w3.ownsRow w1.heap.size 41 9 (.slice a3 N c3) N (rcs bdR ws) := by first | with_reducible exact hown3 | simpa using hown3
    have hb : Below w1.heap.size w1 w3 := hal.trans hb3
    have hra : RdB w3 (.slice a3 N c3) ws := by
      have := RdL.of_owns (R := bdR) (l := ws) (by rw [HN.out]; exact hown3)
      exact this
    replace HW := Lib.hid (HW.out.keep hb)
    have k0 := cell_later hb k0
    have k1 := cell_later hb k1
    have k2 := cell_later hb k2
    have k3 := cell_later hb k3
    have k4 := cell_later hb k4
    have k5 := cell_later hb k5
    have k6 := cell_later hb k6
    replace HB := Lib.hid (Below.next HB.out hb)
    have HRA := Lib.hid hra
    have HM2 := Lib.hid hM2
    clear hown3 hown0 hg3 hb3 HRD hal hra hb hM2
    go_wp2_with fail
    refine (own_any u l (by have := HM2.out; omega) w3 HW.out.ro).mono ?_
    rintro e w4 ⟨a4, c4, rfl, hown4, hb⟩
    have HA : Hid (Wd w4 (.slice a3 N c3) (.slice a4 l.length c4) ws l) := Lib.hid ⟨HW.out.wf, HW.out.of, HRA.out.keep hb, RdL.of_owns (R := ocR) hown4, HW.out.sd.keep hb, HW.out.fc.keep hb⟩
    replace HW := Lib.hid (HW.out.keep hb)
    have k0 := cell_later hb k0
    have k1 := cell_later hb k1
    have k2 := cell_later hb k2
    have k3 := cell_later hb k3
    have k4 := cell_later hb k4
    have k5 := cell_later hb k5
    have k6 := cell_later hb k6
    replace HB := Lib.hid (Below.next HB.out hb)
    obtain ⟨M, hM⟩ : ∃ M, l.length = M := ⟨_, rfl⟩
    rw [hM] at HA ⊢
    clear hown4 hb HRA hM
    -- Check
    obtain ⟨z, ix, hz⟩ : ∃ z ix, chkW ws = (z, ix) := ⟨_, _, rfl⟩
    have d0 : (z != z) = false := by simp
    have d1 : (ix != ix) = false := by simp
    have HC := Lib.hid (world_any _ ws HA.out.wf w4 HA.out.rb)
    rw [hz] at HC
    have HZ := Lib.hid hz
    clear hz
    go_wp2_with fail
    refine HC.out.mono ?_
    rintro e w5 ⟨rfl, hb⟩
    replace HW := Lib.hid (HW.out.keep hb)
    replace HA := Lib.hid (HA.out.keep hb)
    replace HB := Lib.hid (Below.next HB.out hb)
    have k0 := cell_later hb k0
    have k1 := cell_later hb k1
    have k2 := cell_later hb k2
    have k3 := cell_later hb k3
    have k4 := cell_later hb k4
    have k5 := cell_later hb k5
    have k6 := cell_later hb k6
    have HC := Lib.hid (rworld_any _ ws w5 HW.out.rb)
    rw [HZ.out] at HC
    clear hb
    go_wp2_with fail
    refine HC.out.mono ?_
    rintro e w6 ⟨rfl, hb⟩
    replace HW := Lib.hid (HW.out.keep hb)
    replace HA := Lib.hid (HA.out.keep hb)
    replace HB := Lib.hid (Below.next HB.out hb)
    have k0 := cell_later hb k0
    have k1 := cell_later hb k1
    have k2 := cell_later hb k2
    have k3 := cell_later hb k3
    have k4 := cell_later hb k4
    have k5 := cell_later hb k5
    have k6 := cell_later hb k6
    clear hb HC HZ
    -- Allowed
    obtain ⟨n1, e1, hz⟩ : ∃ n e, allV ws l = (n, e) := ⟨_, _, rfl⟩
    have d2 : (n1 != n1) = false := by simp
    have d3 : (e1 != e1) = false := by simp
    have HZ := Lib.hid hz
    have HC := Lib.hid (allowed_any _ _ ws l w6 HA.out)
    rw [hz] at HC
    clear hz
    go_wp2_with fail
    refine HC.out.mono ?_
    rintro e w7 ⟨rfl, hb⟩
    replace HW := Lib.hid (HW.out.keep hb)
    replace HA := Lib.hid (HA.out.keep hb)
    replace HB := Lib.hid (Below.next HB.out hb)
    have k0 := cell_later hb k0
    have k1 := cell_later hb k1
    have k2 := cell_later hb k2
    have k3 := cell_later hb k3
    have k4 := cell_later hb k4
    have k5 := cell_later hb k5
    have k6 := cell_later hb k6
    have HC := Lib.hid (rallowed_any _ _ ws l w7 ⟨HW.out.rb, HW.out.ro⟩)
    rw [HZ.out] at HC
    clear hb
    go_wp2_with fail
    refine HC.out.mono ?_
    rintro e w8 ⟨rfl, hb⟩
    replace HW := Lib.hid (HW.out.keep hb)
    replace HA := Lib.hid (HA.out.keep hb)
    replace HB := Lib.hid (Below.next HB.out hb)
    have k0 := cell_later hb k0
    have k1 := cell_later hb k1
    have k2 := cell_later hb k2
    have k3 := cell_later hb k3
    have k4 := cell_later hb k4
    have k5 := cell_later hb k5
    have k6 := cell_later hb k6
    clear hb HC HZ
    -- Next
    obtain ⟨X, Y, hz⟩ : ∃ X Y, nxtV ws l o = (X, Y) := ⟨_, _, rfl⟩
    have d4 : (X != X) = false := by simp
    have d5 : (Y != Y) = false := by simp
    have HZ := Lib.hid hz
    have HC := Lib.hid (next_any _ _ ws l o HOW.out w8 HA.out)
    unfold NxR at HC
    rw [hz] at HC
    clear hz
    go_wp2_with fail
    refine HC.out.mono ?_
    rintro e w9 ⟨rfl, hb⟩
    replace HW := Lib.hid (HW.out.keep hb)
    replace HA := Lib.hid (HA.out.keep hb)
    replace HB := Lib.hid (Below.next HB.out hb)
    have k0 := cell_later hb k0
    have k1 := cell_later hb k1
    have k2 := cell_later hb k2
    have k3 := cell_later hb k3
    have k4 := cell_later hb k4
    have k5 := cell_later hb k5
    have k6 := cell_later hb k6
    have HC := Lib.hid (rnext_any _ _ ws l o w9 ⟨HW.out.rb, HW.out.ro⟩)
    unfold NxR at HC
    rw [HZ.out] at HC
    clear hb
    go_wp2_with fail
    refine HC.out.mono ?_
    rintro e w10 ⟨rfl, hb⟩
    replace HW := Lib.hid (HW.out.keep hb)
    replace HA := Lib.hid (HA.out.keep hb)
    replace HB := Lib.hid (Below.next HB.out hb)
    have k0 := cell_later hb k0
    have k1 := cell_later hb k1
    have k2 := cell_later hb k2
    have k3 := cell_later hb k3
    have k4 := cell_later hb k4
    have k5 := cell_later hb k5
    have k6 := cell_later hb k6
    clear hb HC HZ k0 k1 k2 k3 k4 k5 k6
    go_wp2_with fail
    refine (sameO_eq _ _ l w10 HA.out.ro HW.out.ro).mono ?_
    rintro e w11 ⟨rfl, hb⟩
    replace HW := Lib.hid (HW.out.keep hb)
    replace HA := Lib.hid (HA.out.keep hb)
    replace HB := Lib.hid (Below.next HB.out hb)
    clear hb
    go_wp2_with fail
    go_loopw [19] (fun i wr => ∃ k : Nat, k ≤ N ∧ i = .int .i64 k ∧ Below w11.heap.size w11 wr) (fun i _ => N - (intOf i).toNat)
    case atStart => exact ⟨0, Nat.zero_le _, rfl, Below.refl _ _⟩
    case round =>
      obtain ⟨k, hk, rfl, hB⟩ := hrel
      by_cases hlt : k < N
      · have d2 : decide ((k : Int) < (N : Int)) = true := yb (by omega)
        obtain ⟨b1, o1, rfl, hc1, p0, p1, p2, p3, p4, p5, p6, p7, p8⟩ := RdB.at (HA.out.rb.keep hB) HN.out k hlt
        obtain ⟨b2, o2, rfl, hc2, q0, q1, q2, q3, q4, q5, q6, q7, q8⟩ := RdB.at (HW.out.rb.keep hB) HN.out k hlt
        obtain ⟨y, HY⟩ : ∃ y, Hid (gb ws k = y) := ⟨_, Lib.hid rfl⟩
        rw [HY.out] at p0 p1 p2 p3 p4 p5 p6 p7 p8 q0 q1 q2 q3 q4 q5 q6 q7 q8
        have i1 : (0 : Int) ≤ (k : Int) := by omega
        have i2 : (k : Int) < (N : Int) := by omega
        have hwk : IntKind.i64.wrap (k : Int) = (k : Int) := IntWalk.i64_in _ (by omega)
        have hwk1 : IntKind.i64.wrap ((k : Int) + 1) = (k : Int) + 1 := IntWalk.i64_in _ (by omega)
        go_wp2_with fail
        go_quiet (fail)
        go_wp2_with fail
        go_roundw
        case rel => exact ⟨k + 1, by omega, by go_num, below_drewN hB _⟩
        case measure => simp [intOf]; omega
      · obtain rfl : k = N := by omega
        have d2 : decide ((k : Int) < (k : Int)) = false := nb (by omega)
        replace HB := Lib.hid (Below.next HB.out hB)
        have hAW := awake_any wr (HW.out.sd.keep hB) (HW.out.fc.keep hB)
        have HAW := Lib.hid hAW
        clear hAW hB
        go_wp2_with fail
        refine HAW.out.mono ?_
        rintro e w13 ⟨rfl, hb⟩
        replace HB := Lib.hid (Below.next HB.out hb)
        clear hb HAW
        go_wp2_with fail
        go_ret
        exact ⟨rfl, HB.out⟩
end Go.Proofs.YtcjlbpndgjapiaaDoor
