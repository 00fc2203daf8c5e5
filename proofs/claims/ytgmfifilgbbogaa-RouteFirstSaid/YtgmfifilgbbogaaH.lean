


/- Volume: plan.Check. -/
import Derived.Test.YtgmfifilgbbogaaG
namespace Go.Proofs.Ytgmfifilgbbogaa
open Go.RowKit Go.Maps
set_option linter.unusedSimpArgs false
set_option linter.unusedVariables false
set_option maxRecDepth 100000

set_option maxHeartbeats 2000000 in
theorem pchk_aux (cs : List Ct) (v : Value) (hwf : ∀ c, c ∈ cs → Wf c) (er ix : Int) (hpc : planChk cs = (er, ix)) (w : World) (h : RdC w v cs) :
    Calls Try.prog 50 #[v] w fun e w' => e = .returned (.tuple #[.int .i64 er, .int .i64 ix]) ∧ Below w.heap.size w w' := by
  obtain ⟨a0, n0, rfl⟩ := h.form
  obtain ⟨N, hN⟩ : ∃ N, cs.length = N := ⟨_, rfl⟩
  have HR : Hid (RdC w (.slice a0 N n0) cs) := by unfold Hid; rw [← hN]; exact h
  rw [hN]
  have HN := Lib.hid hN
  have HP := Lib.hid hpc
  have HW := Lib.hid hwf
  clear h hN hpc hwf
  by_cases hbig : 200 < N
  · have d1 : decide (200 < (N : Int)) = true := yb (by omega)
    obtain ⟨rfl, rfl⟩ : er = 5 ∧ ix = 0 := by
      have := HP.out
      unfold planChk at this
      rw [if_pos (by rw [HN.out]; exact hbig)] at this
      simp at this
      exact ⟨this.1.symm, this.2.symm⟩
    go_enter Try.func50, Try.ntmps50
    go_wp2
    go_ret2
    exact ⟨rfl, (by repeat (first | assumption | exact Below.refl _ _ | apply Below.al | apply below_drewN | apply Below.drew | refine Below.next ?_ (by assumption)))⟩
  have d1 : decide (200 < (N : Int)) = false := nb (by omega)
  have hmm := @run_makeMap Try.prog
  go_enter Try.func50, Try.ntmps50
  go_wp2_with fail
  go_loopw [13] (fun i wr => ∃ k : Nat, k ≤ N ∧ i = .int .i64 k ∧ Below w.heap.size w wr ∧ wr.ownsMap Try.prog 97 (plainElem Try.prog 3) w.heap.size k (Dm cs k) ∧ Hid (∀ j, j < k → stepE cs j = 0)) (fun i _ => N - (intOf i).toNat)
  case atStart =>
    refine ⟨0, Nat.zero_le _, rfl, (by repeat (first | assumption | exact Below.refl _ _ | apply Below.al | apply below_drewN | apply Below.drew | refine Below.next ?_ (by assumption))), ?_, fun j hj => by omega⟩
    exact World.ownsMap_made _ _ _ _
  case round =>
    obtain ⟨k, hk, rfl, hB, hown, HZ⟩ := hrel
    by_cases hlt : k < N
    · have d2 : decide ((k : Int) < (N : Int)) = true := yb (by omega)
      obtain ⟨b, off, rfl, hcap, hca⟩ := HR.out.at HN.out k hlt
      obtain ⟨c, HC⟩ : ∃ c, Hid (cs.getD k c0 = c) := ⟨_, rfl⟩
      rw [HC.out] at hca
      have hca := CA.keep hB hca
      have i1 : (0 : Int) ≤ (k : Int) := by omega
      have i2 : (k : Int) < (N : Int) := by omega
      obtain ⟨S, hS⟩ : ∃ S : Nat, S = wr.heap.size := ⟨_, rfl⟩
      obtain ⟨W1, hW1⟩ : ∃ W : World, W = wr.alloc (.cells #[.int .i64 c.fr, .int .i64 c.dt, .int .i64 c.st, .int .i64 c.en, .int .i64 c.rt, .int .i64 c.dl] 52) := ⟨_, rfl⟩
      have hBC : BC W1 S c := by rw [hW1, hS]; simp [BC, go_sem]
      have hB1 : Below w.heap.size w W1 := by rw [hW1]; exact Below.al hB _
      have hown1 : W1.ownsMap Try.prog 97 (plainElem Try.prog 3) w.heap.size k (Dm cs k) := by rw [hW1]; exact hown.alloc _
      go_upto_region 7 with fail
      rw [← hW1, ← hS]
      clear hW1 hS hca hown hB
      by_cases hok : okC c
      case neg =>
        obtain ⟨rfl, rfl⟩ : er = 2 ∧ ix = (k : Int) := by
          have h1 := HP.out
          rw [planChk_fail (er := 2) (by rw [HN.out]; omega) (by rw [HN.out]; exact hlt) HZ.out (by unfold stepE; rw [HC.out, if_pos hok]) (by decide)] at h1
          simp at h1
          exact ⟨h1.1.symm, h1.2.symm⟩
        go_wp2_with fail
        refine (one_no c hok _).mono ?_
        rintro e w2 ⟨rfl, hb⟩
        go_wp2_with fail
        go_ret2
        exact ⟨rfl, (by repeat (first | assumption | exact Below.refl _ _ | apply Below.al | apply below_drewN | apply Below.drew | refine Below.next ?_ (by assumption)))⟩
      obtain ⟨c', HC'⟩ : ∃ c', Hid (cs.getD (k - 1) c0 = c') := ⟨_, rfl⟩
      obtain ⟨B19, H19⟩ : ∃ B : Bool, Hid (B = decide (0 < k ∧ ¬ bef c' c)) := ⟨_, rfl⟩
      obtain ⟨L, HL⟩ : ∃ L, Hid (lastEn cs c.fr c.dt k = L) := ⟨_, rfl⟩
      go_wp2_with fail
      refine (one_yes c hok _).mono ?_
      rintro e w2 ⟨rfl, hb⟩
      have hBC : BC w2 S c := BC.keep hb hBC
      have hB2 : Below w.heap.size w w2 := Below.next hB1 hb
      have hown2 : w2.ownsMap Try.prog 97 (plainElem Try.prog 3) w.heap.size k (Dm cs k) := ownsMap_keep hb hown1
      clear hb hB1 hown1
      go_upto_region 9 with fail
      go_cut [23] (fun t wx => t = .bool B19 ∧ Below w2.heap.size w2 wx)
      case first =>
        by_cases hk0 : k = 0
        · subst hk0
          obtain rfl : B19 = false := by rw [H19.out]; simp
          go_quiet (fail)
          go_wp2
          go_meet
          exact ⟨rfl, (by repeat (first | assumption | exact Below.refl _ _ | apply Below.al | apply below_drewN | apply Below.drew | refine Below.next ?_ (by assumption)))⟩
        · obtain ⟨k', rfl⟩ : ∃ k', k = k' + 1 := ⟨k - 1, by omega⟩
          obtain ⟨b1, off1, hv1, _, hca1⟩ := HR.out.at HN.out k' (by omega)
          injection hv1 with hv1
          injection hv1 with hvb hvo
          subst hvb hvo
          rw [show k' = k' + 1 - 1 by omega, HC'.out] at hca1
          rw [show k' + 1 - 1 = k' by omega] at hca1
          have hca1 := CA.keep hB2 hca1
          have d0 : decide ((0 : Int) < (k' : Int) + 1) = true := yb (by omega)
          have d0' : decide ((0 : Int) < ((k' + 1 : Nat) : Int)) = true := yb (by omega)
          have j1 : (0 : Int) ≤ (k' : Int) := by omega
          have j2 : (k' : Int) < (N : Int) := by omega
          have hw : IntKind.i64.wrap (k' : Int) = (k' : Int) := IntWalk.i64_in _ (by omega)
          by_cases hz : bef c' c
          · obtain rfl : B19 = false := by rw [H19.out]; simp [hz]
            have dz : decide (0 ≤ cmpC c' c) = false := nb (fun h => (cmpC_bef c' c).1 h hz)
            go_region_with (go_at_call 65; refine (compare_any c' c _).mono ?_; rintro e w3 ⟨rfl, hb⟩)
            all_goals (go_wp2_with fail; go_meet; exact ⟨rfl, (by repeat (first | assumption | exact Below.refl _ _ | apply Below.al | apply below_drewN | apply Below.drew | refine Below.next ?_ (by assumption)))⟩)
          · obtain rfl : B19 = true := by rw [H19.out]; simp [hz]
            have dz : decide (0 ≤ cmpC c' c) = true := yb ((cmpC_bef c' c).2 hz)
            go_region_with (go_at_call 65; refine (compare_any c' c _).mono ?_; rintro e w3 ⟨rfl, hb⟩)
            all_goals (go_wp2_with fail; go_meet; exact ⟨rfl, (by repeat (first | assumption | exact Below.refl _ _ | apply Below.al | apply below_drewN | apply Below.drew | refine Below.next ?_ (by assumption)))⟩)
      case rest =>
        obtain ⟨rfl, hbx⟩ := hcut
        rename World => wx
        have hBC : BC wx S c := BC.keep hbx hBC
        have hBx : Below w.heap.size w wx := Below.next hB2 hbx
        have hownx : wx.ownsMap Try.prog 97 (plainElem Try.prog 3) w.heap.size k (Dm cs k) := ownsMap_keep hbx hown2
        clear hbx hB2 hown2
        cases B19 with
        | true =>
          have h19 := of_decide_eq_true H19.out.symm
          obtain ⟨rfl, rfl⟩ : er = 19 ∧ ix = (k : Int) := by
            have h1 := HP.out
            rw [planChk_fail (er := 19) (by rw [HN.out]; omega) (by rw [HN.out]; exact hlt) HZ.out (by unfold stepE; rw [HC.out, HC'.out, if_neg (by simpa using hok), if_pos h19]) (by decide)] at h1
            simp at h1
            exact ⟨h1.1.symm, h1.2.symm⟩
          go_wp2
          go_ret2
          exact ⟨rfl, (by repeat (first | assumption | exact Below.refl _ _ | apply Below.al | apply below_drewN | apply Below.drew | refine Below.next ?_ (by assumption)))⟩
        | false =>
          have h19 := of_decide_eq_false H19.out.symm
          have hwc : Wf c := by have := wf_get HW.out k; rw [HC.out] at this; exact this
          have H2 : Hid (stepE cs k = if c.st < L then 12 else 0) := by
            unfold Hid stepE; rw [HC.out, HC'.out, if_neg (by simpa using hok), if_neg h19, HL.out]
          obtain ⟨B12, H12⟩ : ∃ B : Bool, Hid (decide (c.st < L) = B) := ⟨_, rfl⟩
          have d12 := H12.out
          have hlook : ∀ w4 : World, w4.ownsMap Try.prog 97 (plainElem Try.prog 3) w.heap.size k (Dm cs k) → (Instr.lookup 93 (.map (some w.heap.size)) (.agg #[.int .i64 c.fr, .int .i64 c.dt]) false).run Try.prog w4 = .ok (.int .i64 L) w4 := fun w4 ho => by
            obtain ⟨v, hrun, hat, _⟩ := ho.lookup_int law71 Try.underlying93 Try.underlying3 (zero3 _) (kl_of hwc.1 hwc.2.1)
            have h3 := (Dm_at HW.out hwc.1 hwc.2.1 k).symm.trans hat
            rw [HL.out] at h3
            simp at h3
            rw [hrun, h3]
          go_upto_region 11 with fail
          go_cut [37] (fun t wy => t = .bool B12 ∧ Below wx.heap.size wx wy)
          case first =>
            go_region_with (go_at_call 66; refine (of_any c _).mono ?_; rintro e w4 ⟨rfl, hb⟩; have hBC : BC w4 S c := BC.keep hb hBC; have hrun := hlook w4 (ownsMap_keep hb hownx))
            all_goals (go_wp2_with fail; go_meet; exact ⟨rfl, (by repeat (first | assumption | exact Below.refl _ _ | apply Below.al | apply below_drewN | apply Below.drew | refine Below.next ?_ (by assumption)))⟩)
          case rest =>
            obtain ⟨rfl, hby⟩ := hcut
            rename World => wy
            have hBC : BC wy S c := BC.keep hby hBC
            have hBy : Below w.heap.size w wy := Below.next hBx hby
            have howny : wy.ownsMap Try.prog 97 (plainElem Try.prog 3) w.heap.size k (Dm cs k) := ownsMap_keep hby hownx
            clear hby hBx hownx hlook
            cases B12 with
            | true =>
              have h12 := of_decide_eq_true H12.out
              obtain ⟨rfl, rfl⟩ : er = 12 ∧ ix = (k : Int) := by
                have h1 := HP.out
                rw [planChk_fail (er := 12) (by rw [HN.out]; omega) (by rw [HN.out]; exact hlt) HZ.out (by rw [H2.out, if_pos h12]) (by decide)] at h1
                simp at h1
                exact ⟨h1.1.symm, h1.2.symm⟩
              go_wp2
              go_ret2
              exact ⟨rfl, (by repeat (first | assumption | exact Below.refl _ _ | apply Below.al | apply below_drewN | apply Below.drew | refine Below.next ?_ (by assumption)))⟩
            | false =>
              have h12 := of_decide_eq_false H12.out
              have hupd : ∀ w4 : World, w4.ownsMap Try.prog 97 (plainElem Try.prog 3) w.heap.size k (Dm cs k) → ∃ w5, (Instr.mapUpdate 93 (.map (some w.heap.size)) (.agg #[.int .i64 c.fr, .int .i64 c.dt]) (.int .i64 c.en)).run Try.prog w4 = .ok () w5 ∧ w5.ownsMap Try.prog 97 (plainElem Try.prog 3) w.heap.size (k + 1) (Dm cs (k + 1)) ∧ w4.grownBy w5 (some w.heap.size) := fun w4 ho => by
                obtain ⟨w5, h1, h2, h3⟩ := ho.update law71 Try.underlying93 (by unfold maxLen; omega) (kl_of hwc.1 hwc.2.1) (plainElem_int Try.underlying3 hwc.2.2.2.1)
                refine ⟨w5, h1, ?_, h3⟩
                unfold Dm
                rw [HC.out]
                exact h2
              go_upto_region 13 with fail
              go_region_with (go_at_call 66; refine (of_any c _).mono ?_; rintro e w4 ⟨rfl, hb⟩; have hBC : BC w4 S c := BC.keep hb hBC; obtain ⟨w5, hrun, hown5, hg5⟩ := hupd w4 (ownsMap_keep hb howny))
              all_goals
                have hB4 : Below w.heap.size w w4 := by first | exact Below.next hBy hb | exact Below.next (Below.drew hBy) hb
                have hB5 := Below.grown hB4 hg5 hB4.size (fun j hj => by cases hj; exact Nat.le_refl _)
                go_wp2
                go_roundw
                case rel => exact ⟨k + 1, by omega, by go_num, hB5, hown5, fun j hj => by
                  by_cases hjk : j = k
                  · rw [hjk, H2.out, if_neg (by omega)]
                  · exact HZ.out j (by omega)⟩
                case measure => simp [intOf]; omega
    · have hk16 : k = N := by omega
      subst hk16
      have d2 : decide ((k : Int) < (k : Int)) = false := nb (by omega)
      obtain ⟨rfl, rfl⟩ : er = 0 ∧ ix = 0 := by
        have h1 := HP.out
        rw [planChk_ok (by rw [HN.out]; omega) (by rw [HN.out]; exact HZ.out)] at h1
        simp at h1
        exact ⟨h1.1.symm, h1.2.symm⟩
      go_wp2
      go_ret2
      exact ⟨rfl, (by repeat (first | assumption | exact Below.refl _ _ | apply Below.al | apply below_drewN | apply Below.drew | refine Below.next ?_ (by assumption)))⟩
end Go.Proofs.Ytgmfifilgbbogaa
