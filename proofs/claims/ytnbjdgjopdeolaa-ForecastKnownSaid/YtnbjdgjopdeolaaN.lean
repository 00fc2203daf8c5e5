

/- Volume: the reference's Between. -/
import Derived.Test.YtnbjdgjopdeolaaM
namespace Go.Proofs.Ytnbjdgjopdeolaa
open Go.RowKit Go.Shelf
set_option linter.unusedSimpArgs false
set_option linter.unusedVariables false
set_option maxRecDepth 100000

set_option maxHeartbeats 1000000 in
theorem rbetween_yes (cs : List Ct) (v : Value) (fr dt t u : Int) (hok : planChk cs = (0, 0)) (g1 : (nodeB fr && nodeB dt) = true) (h3 : tickB t = true) (h4 : tickB u = true) (w : World) (h : RdC w v cs) :
    Calls Try.prog 40 #[v, .int .i64 fr, .int .i64 dt, .int .i64 t, .int .i64 u] w fun e w' => e = .returned (.tuple #[.int .i64 (betw cs fr dt t u cs.length), .int .i64 0]) ∧ Below w.heap.size w w' := by
  obtain ⟨a0, n0, rfl⟩ := h.form
  obtain ⟨N, hN⟩ : ∃ N, cs.length = N := ⟨_, rfl⟩
  have HR : Hid (RdC w (.slice a0 N n0) cs) := by unfold Hid; rw [← hN]; exact h
  rw [hN]
  have hm : N ≤ 200 := by rw [← hN]; exact (ok_of_planChk hok).1
  have HN := Lib.hid hN
  have HP := Lib.hid hok
  have g1 := Lib.hid g1
  clear h hN hok
  go_enter Try.func40, Try.ntmps40
  go_wp2_with fail
  refine (rpchk_aux cs _ _ _ HP.out _ HR.out).mono ?_
  rintro e w1 ⟨rfl, hb⟩
  go_wp2_with (first
    | (go_at_call 85; refine (rnodes_any _ _ _).mono ?_; rw [g1.out]; rintro e w2 ⟨rfl, rfl⟩)
    | (go_at_call 71; refine (rtick_any _ _).mono ?_; rintro e w2 ⟨rfl, rfl⟩)
    | fail)
  go_loopw [14, 15] (fun s i wr => ∃ k : Nat, k ≤ N ∧ i = .int .i64 k ∧ s = .int .i64 (betw cs fr dt t u k) ∧ Below w.heap.size w wr) (fun _ i _ => N - (intOf i).toNat)
  case atStart => exact ⟨0, Nat.zero_le _, rfl, rfl, (by repeat (first | assumption | exact Below.refl _ _ | apply Below.al | apply below_drewN | apply Below.drew | refine Below.next ?_ (by assumption)))⟩
  case round =>
    clear hb
    obtain ⟨k, hk, rfl, rfl, hB⟩ := hrel
    by_cases hlt : k < N
    · have d2 : decide ((k : Int) < (N : Int)) = true := yb (by omega)
      obtain ⟨b, off, rfl, hcap, hca⟩ := HR.out.at HN.out k hlt
      have hok : okC (cs.getD k c0) := okC_of HP.out (by rw [HN.out]; exact hlt)
      obtain ⟨c, HC⟩ : ∃ c, Hid (cs.getD k c0 = c) := ⟨_, rfl⟩
      rw [HC.out] at hca hok
      have hca := CA.keep hB hca
      have i1 : (0 : Int) ≤ (k : Int) := by omega
      have i2 : (k : Int) < (N : Int) := by omega
      have hwk : IntKind.i64.wrap (k : Int) = (k : Int) := IntWalk.i64_in _ (by omega)
      have hbe : betw cs fr dt t u (k + 1) = if c.fr = fr ∧ c.dt = dt then IntKind.i64.wrap (betw cs fr dt t u k + part c t u) else betw cs fr dt t u k := by rw [← HC.out]; rfl
      by_cases hf : c.fr = fr
      · by_cases ht : c.dt = dt
        · have e1 : (c.fr == fr) = true := by simp [hf]
          have e2 : (c.dt == dt) = true := by simp [ht]
          rw [if_pos ⟨hf, ht⟩] at hbe
          have HB := Lib.hid hbe
          have p1 := pos_nn c hok u
          have p2 := pos_le c hok u
          have p3 := pos_nn c hok t
          have p4 := pos_le c hok t
          have p5 := vol_bd c hok
          change 0 ≤ vol c ∧ vol c ≤ _ at p5
          have p6 : IntKind.i64.wrap (pos c u - pos c t) = pos c u - pos c t := IntWalk.i64_in _ (by omega)
          clear p1 p2 p3 p4 p5 hbe hf ht
          go_wp2_with fail
          refine wp_region_calm (fun w' => Below wr.heap.size wr w') 99 (by kernel_rfl) ((Below.refl _ wr).drew) ?_
          refine cm_run 0 60 (v := ?_) rfl rfl (by kernel_rfl) (by kernel_rfl) (by kernel_rfl) (by kernel_rfl) (by kernel_rfl) (fun _ _ _ h => h) (by rfl) ?_ ?_
          rotate_left
          · (intro wS hS; skip; go_simp; (try with_reducible rfl))
          simp only [List.setIfInBounds_toArray, List.set_cons_zero, List.set_cons_succ]
          refine cm_run 1 61 (v := ?_) rfl rfl (by kernel_rfl) (by kernel_rfl) (by kernel_rfl) (by kernel_rfl) (by kernel_rfl) (fun _ _ _ h => h) (by rfl) ?_ ?_
          rotate_left
          · (intro wS hS; skip; go_simp; (try with_reducible rfl))
          simp only [List.setIfInBounds_toArray, List.set_cons_zero, List.set_cons_succ]
          refine cm_run 2 62 (v := ?_) rfl rfl (by kernel_rfl) (by kernel_rfl) (by kernel_rfl) (by kernel_rfl) (by kernel_rfl) (fun _ _ _ h => h) (by rfl) ?_ ?_
          rotate_left
          · (intro wS hS; skip; go_simp; (try with_reducible rfl))
          simp only [List.setIfInBounds_toArray, List.set_cons_zero, List.set_cons_succ]
          refine cm_run 3 63 (v := ?_) rfl rfl (by kernel_rfl) (by kernel_rfl) (by kernel_rfl) (by kernel_rfl) (by kernel_rfl) (fun _ _ _ h => h) (by rfl) ?_ ?_
          rotate_left
          · (intro wS hS; skip; go_simp; (try with_reducible rfl))
          simp only [List.setIfInBounds_toArray, List.set_cons_zero, List.set_cons_succ]
          refine cm_run 4 64 (v := ?_) rfl rfl (by kernel_rfl) (by kernel_rfl) (by kernel_rfl) (by kernel_rfl) (by kernel_rfl) (fun _ _ _ h => h) (by rfl) ?_ ?_
          rotate_left
          · (intro wS hS; have g := CA.keep hS hca; go_simp; (try with_reducible rfl))
          simp only [List.setIfInBounds_toArray, List.set_cons_zero, List.set_cons_succ]
          refine cm_run 5 65 (v := ?_) rfl rfl (by kernel_rfl) (by kernel_rfl) (by kernel_rfl) (by kernel_rfl) (by kernel_rfl) (fun _ _ _ h => h) (by rfl) ?_ ?_
          rotate_left
          · (intro wS hS; skip; go_simp; (try with_reducible rfl))
          simp only [List.setIfInBounds_toArray, List.set_cons_zero, List.set_cons_succ]
          refine cm_call 6 66 72 (v := .int .i64 (pos c u)) (args := ?_) rfl rfl (by kernel_rfl) (by kernel_rfl) (by kernel_rfl) (by kernel_rfl) (by kernel_rfl) (fun _ _ _ h => h) (by rfl) ?_ ?_ ?_
          rotate_left 1
          · (intro wS hS; go_simp; (try with_reducible rfl))
          · (intro wS hS; refine (rpos_any c hok u _).mono ?_; (rintro e w2 ⟨rfl, hb⟩; exact ⟨rfl, Below.next hS hb⟩))
          simp only [List.setIfInBounds_toArray, List.set_cons_zero, List.set_cons_succ]
          refine cm_run 7 67 (v := ?_) rfl rfl (by kernel_rfl) (by kernel_rfl) (by kernel_rfl) (by kernel_rfl) (by kernel_rfl) (fun _ _ _ h => h) (by rfl) ?_ ?_
          rotate_left
          · (intro wS hS; skip; go_simp; (try with_reducible rfl))
          simp only [List.setIfInBounds_toArray, List.set_cons_zero, List.set_cons_succ]
          refine cm_run 8 68 (v := ?_) rfl rfl (by kernel_rfl) (by kernel_rfl) (by kernel_rfl) (by kernel_rfl) (by kernel_rfl) (fun _ _ _ h => h) (by rfl) ?_ ?_
          rotate_left
          · (intro wS hS; skip; go_simp; (try with_reducible rfl))
          simp only [List.setIfInBounds_toArray, List.set_cons_zero, List.set_cons_succ]
          refine cm_run 9 69 (v := ?_) rfl rfl (by kernel_rfl) (by kernel_rfl) (by kernel_rfl) (by kernel_rfl) (by kernel_rfl) (fun _ _ _ h => h) (by rfl) ?_ ?_
          rotate_left
          · (intro wS hS; skip; go_simp; (try with_reducible rfl))
          simp only [List.setIfInBounds_toArray, List.set_cons_zero, List.set_cons_succ]
          refine cm_run 10 70 (v := ?_) rfl rfl (by kernel_rfl) (by kernel_rfl) (by kernel_rfl) (by kernel_rfl) (by kernel_rfl) (fun _ _ _ h => h) (by rfl) ?_ ?_
          rotate_left
          · (intro wS hS; have g := CA.keep hS hca; go_simp; (try with_reducible rfl))
          simp only [List.setIfInBounds_toArray, List.set_cons_zero, List.set_cons_succ]
          refine cm_run 11 71 (v := ?_) rfl rfl (by kernel_rfl) (by kernel_rfl) (by kernel_rfl) (by kernel_rfl) (by kernel_rfl) (fun _ _ _ h => h) (by rfl) ?_ ?_
          rotate_left
          · (intro wS hS; skip; go_simp; (try with_reducible rfl))
          simp only [List.setIfInBounds_toArray, List.set_cons_zero, List.set_cons_succ]
          refine cm_call 12 72 72 (v := .int .i64 (pos c t)) (args := ?_) rfl rfl (by kernel_rfl) (by kernel_rfl) (by kernel_rfl) (by kernel_rfl) (by kernel_rfl) (fun _ _ _ h => h) (by rfl) ?_ ?_ ?_
          rotate_left 1
          · (intro wS hS; go_simp; (try with_reducible rfl))
          · (intro wS hS; refine (rpos_any c hok t _).mono ?_; (rintro e w2 ⟨rfl, hb⟩; exact ⟨rfl, Below.next hS hb⟩))
          simp only [List.setIfInBounds_toArray, List.set_cons_zero, List.set_cons_succ]
          refine cm_run 13 73 (v := ?_) rfl rfl (by kernel_rfl) (by kernel_rfl) (by kernel_rfl) (by kernel_rfl) (by kernel_rfl) (fun _ _ _ h => h) (by rfl) ?_ ?_
          rotate_left
          · (intro wS hS; skip; go_simp; (try with_reducible rfl))
          simp only [List.setIfInBounds_toArray, List.set_cons_zero, List.set_cons_succ]
          refine cm_run 14 74 (v := ?_) rfl rfl (by kernel_rfl) (by kernel_rfl) (by kernel_rfl) (by kernel_rfl) (by kernel_rfl) (fun _ _ _ h => h) (by rfl) ?_ ?_
          rotate_left
          · (intro wS hS; skip; go_simp; (try with_reducible rfl))
          simp only [List.setIfInBounds_toArray, List.set_cons_zero, List.set_cons_succ]
          refine cm_run 15 75 (v := ?_) rfl rfl (by kernel_rfl) (by kernel_rfl) (by kernel_rfl) (by kernel_rfl) (by kernel_rfl) (fun _ _ _ h => h) (by rfl) ?_ ?_
          rotate_left
          · (intro wS hS; skip; go_simp; (try with_reducible rfl))
          simp only [List.setIfInBounds_toArray, List.set_cons_zero, List.set_cons_succ]
          refine cm_run 16 14 (v := ?_) rfl rfl (by kernel_rfl) (by kernel_rfl) (by kernel_rfl) (by kernel_rfl) (by kernel_rfl) (fun _ _ _ h => h) (by rfl) ?_ ?_
          rotate_left
          · (intro wS hS; skip; go_simp; (try with_reducible rfl))
          simp only [List.setIfInBounds_toArray, List.set_cons_zero, List.set_cons_succ]
          refine cm_done (by kernel_rfl) ?_
          intro wS hS
          refine NoPanic.normal ?_
          go_wp2
          go_roundw
          case rel => exact ⟨k + 1, by omega, by go_num, by rw [HB.out]; rfl, Below.next hB hS⟩
          case measure => simp [intOf]; omega
        · have e1 : (c.fr == fr) = true := by simp [hf]
          have e2 : (c.dt == dt) = false := by simp [ht]
          rw [if_neg (fun h => ht h.2)] at hbe
          have HB := Lib.hid hbe
          clear hbe hf ht
          go_wp2_with fail
          go_roundw
          case rel => exact ⟨k + 1, by omega, by go_num, by rw [HB.out], hB⟩
          case measure => simp [intOf]; omega
      · have e1 : (c.fr == fr) = false := by simp [hf]
        rw [if_neg (fun h => hf h.1)] at hbe
        have HB := Lib.hid hbe
        clear hbe hf
        go_wp2_with fail
        go_roundw
        case rel => exact ⟨k + 1, by omega, by go_num, by rw [HB.out], hB⟩
        case measure => simp [intOf]; omega
    · obtain rfl : k = N := by omega
      have d2 : decide ((k : Int) < (k : Int)) = false := nb (by omega)
      go_wp2_with fail
      go_ret2
      exact ⟨rfl, (by repeat (first | assumption | exact Below.refl _ _ | apply Below.al | apply below_drewN | apply Below.drew | refine Below.next ?_ (by assumption)))⟩
set_option maxHeartbeats 1000000 in
theorem rbetween_any (cs : List Ct) (v : Value) (fr dt t u x er : Int) (hv : Bwv cs fr dt t u = (x, er)) (w : World) (h : RdC w v cs) :
    Calls Try.prog 40 #[v, .int .i64 fr, .int .i64 dt, .int .i64 t, .int .i64 u] w fun e w' => e = .returned (.tuple #[.int .i64 x, .int .i64 er]) ∧ Below w.heap.size w w' := by
  unfold Bwv at hv
  have HR := Lib.hid h
  by_cases h0 : (planChk cs).1 ≠ 0
  · rw [if_pos h0] at hv
    obtain ⟨rfl, he⟩ : 0 = x ∧ (planChk cs).1 = er := by simpa using hv
    have HP : Hid (planChk cs = (er, (planChk cs).2)) := by unfold Hid; rw [← he]
    have d1 : (er != 0) = true := by rw [← he]; simpa using h0
    clear hv he h0 h
    obtain ⟨ix, HI⟩ : ∃ ix, Hid ((planChk cs).2 = ix) := ⟨_, rfl⟩
    rw [HI.out] at HP
    go_enter Try.func40, Try.ntmps40
    go_wp2_with fail
    refine (rpchk_aux cs _ er ix HP.out _ HR.out).mono ?_
    rintro e w1 ⟨rfl, hb⟩
    go_wp2_with fail
    go_ret2
    exact ⟨rfl, (by repeat (first | assumption | exact Below.refl _ _ | apply Below.al | apply below_drewN | apply Below.drew | refine Below.next ?_ (by assumption)))⟩
  · rw [if_neg h0] at hv
    have hpz := planChk_zero (by simpa using h0)
    have HP := Lib.hid hpz
    by_cases hg : (nodeB fr && nodeB dt && tickB t && tickB u) = true
    · rw [if_pos hg] at hv
      obtain ⟨rfl, rfl⟩ : betw cs fr dt t u cs.length = x ∧ 0 = er := by simpa using hv
      simp only [Bool.and_eq_true] at hg
      exact rbetween_yes cs v fr dt t u hpz (by simp [hg.1.1]) hg.1.2 hg.2 w h
    · rw [if_neg hg] at hv
      obtain ⟨rfl, rfl⟩ : 0 = x ∧ 2 = er := by simpa using hv
      clear hv h0 h hpz
      cases g0 : (nodeB fr && nodeB dt) with
      | false =>
        have g1 := Lib.hid g0
        clear hg g0
        go_enter Try.func40, Try.ntmps40
        go_wp2_with fail
        refine (rpchk_aux cs _ _ _ HP.out _ HR.out).mono ?_
        rintro e w1 ⟨rfl, hb⟩
        go_wp2_with (go_at_call 85; refine (rnodes_any _ _ _).mono ?_; rw [g1.out]; rintro e w2 ⟨rfl, rfl⟩)
        go_ret2
        exact ⟨rfl, (by repeat (first | assumption | exact Below.refl _ _ | apply Below.al | apply below_drewN | apply Below.drew | refine Below.next ?_ (by assumption)))⟩
      | true =>
        have g1 := Lib.hid g0
        have hg : ¬ (tickB t = true ∧ tickB u = true) := fun hh => hg (by rw [g0, hh.1, hh.2]; rfl)
        clear g0
        cases h3 : tickB t with
        | false =>
          clear hg
          go_enter Try.func40, Try.ntmps40
          go_wp2_with fail
          refine (rpchk_aux cs _ _ _ HP.out _ HR.out).mono ?_
          rintro e w1 ⟨rfl, hb⟩
          go_wp2_with (first
            | (go_at_call 85; refine (rnodes_any _ _ _).mono ?_; rw [g1.out]; rintro e w2 ⟨rfl, rfl⟩)
            | (go_at_call 71; refine (rtick_any _ _).mono ?_; rintro e w2 ⟨rfl, rfl⟩)
            | fail)
          go_ret2
          exact ⟨rfl, (by repeat (first | assumption | exact Below.refl _ _ | apply Below.al | apply below_drewN | apply Below.drew | refine Below.next ?_ (by assumption)))⟩
        | true =>
          cases h4 : tickB u with
          | false =>
            clear hg
            go_enter Try.func40, Try.ntmps40
            go_wp2_with fail
            refine (rpchk_aux cs _ _ _ HP.out _ HR.out).mono ?_
            rintro e w1 ⟨rfl, hb⟩
            go_wp2_with (first
              | (go_at_call 85; refine (rnodes_any _ _ _).mono ?_; rw [g1.out]; rintro e w2 ⟨rfl, rfl⟩)
              | (go_at_call 71; refine (rtick_any _ _).mono ?_; rintro e w2 ⟨rfl, rfl⟩)
              | fail)
            go_ret2
            exact ⟨rfl, (by repeat (first | assumption | exact Below.refl _ _ | apply Below.al | apply below_drewN | apply Below.drew | refine Below.next ?_ (by assumption)))⟩
          | true => exact absurd ⟨h3, h4⟩ hg
end Go.Proofs.Ytnbjdgjopdeolaa
