


/- The kit's plans: Plan. -/
import Derived.Test.YtgmfifilgbbogaaPW

namespace Go.Proofs.Ytgmfifilgbbogaa
open Go.RowKit
set_option linter.unusedSimpArgs false
set_option linter.unusedVariables false
set_option maxRecDepth 100000

/-- the contact as Plan first lays it: no end yet, and perhaps from and to alike -/
def ctA (n : Int) : Ct := ⟨1 + n % 5, 1 + n / 5 % 5, n / 25 % 41, 0, rateN (n / 1025 % 5), n / 5125 % 4⟩
set_option maxHeartbeats 2000000 in
theorem plan_any (v : Value) (nums : List Int) (most : Nat) (hm : most ≤ 100) (hb : ∀ x ∈ nums, Ib x) (w : World) (h : RdI .i64 w v nums) :
    Calls Try.prog 49 #[v, .int .i64 most] w (PR w (plK nums most nums.length)) := by
  obtain ⟨a0, n0, rfl⟩ := h.form
  have hl : nums.length ≤ 9223372036854775807 := h.2.1
  obtain ⟨N, hN⟩ : ∃ N, nums.length = N := ⟨_, rfl⟩
  rw [hN] at h hl ⊢
  have HR := Lib.hid h
  have HN := Lib.hid hN
  have HNB := Lib.hid hb
  clear h hN hb
  go_enter Try.func49, Try.ntmps49
  go_wp2_with fail
  go_loopw [5, 6] (fun out i wr => ∃ k : Nat, k ≤ N ∧ i = .int .i64 k ∧ RdC wr out (plK nums most k) ∧ Below w.heap.size w wr) (fun _ i _ => N - (intOf i).toNat)
  case atStart => exact ⟨0, Nat.zero_le _, rfl, RdS.nil _ _, (by repeat (first | assumption | exact Below.refl _ _ | apply Below.al | apply below_drewN | apply Below.drew | refine Below.next ?_ (by assumption)))⟩
  case round =>
    obtain ⟨k, hk, rfl, hRO, hB⟩ := hrel
    obtain ⟨ao, no, rfl⟩ := hRO.form
    obtain ⟨L, hL⟩ : ∃ L, (plK nums most k).length = L := ⟨_, rfl⟩
    rw [hL] at hRO ⊢
    have HL := Lib.hid hL
    have HRO := Lib.hid hRO
    have hLm : L ≤ most := by rw [← hL]; exact (plK_ok nums most k).2.2
    clear hL hRO
    by_cases hlt : k < N
    · have d2 : decide ((k : Int) < (N : Int)) = true := yb (by omega)
      by_cases hLl : L < most
      · have d3 : decide ((L : Int) < (most : Int)) = true := yb (by omega)
        have hst : plK nums most (k + 1) = layP (plK nums most k) (ctN (nums.getD k 0 % 1048576)) := by
          conv => { lhs; unfold plK }
          rw [if_pos (by rw [HL.out]; exact hLl)]
        obtain ⟨b, off, rfl, hcap, hca⟩ := HR.out.at HN.out k hlt
        obtain ⟨x, HX⟩ : ∃ x, Hid (nums.getD k 0 = x) := ⟨_, rfl⟩
        have hxb : Ib x := HNB.out x (by
          rw [← HX.out, List.getD_eq_getElem?_getD, List.getElem?_eq_getElem (by rw [HN.out]; exact hlt)]
          exact List.getElem_mem _)
        rw [HX.out] at hca hst
        have hca := cell_later hB hca
        have i1 : (0 : Int) ≤ (k : Int) := by omega
        have i2 : (k : Int) < (N : Int) := by omega
        have hwk : IntKind.i64.wrap (k : Int) = (k : Int) := IntWalk.i64_in _ (by omega)
        have hwk1 : IntKind.i64.wrap ((k : Int) + 1) = (k : Int) + 1 := IntWalk.i64_in _ (by omega)
        obtain ⟨n, hn⟩ : ∃ n, x % 1048576 = n := ⟨_, rfl⟩
        rw [hn] at hst
        have hn0 : 0 ≤ n := by omega
        have hn1 : n < 1048576 := by omega
        have HST := Lib.hid hst
        have hty : n = x.tmod 1048576 ∨ (x.tmod 1048576 < 0 ∧ x.tmod 1048576 + 1048576 = n) := by
          by_cases h0 : 0 ≤ x
          · left; rw [Int.tmod_eq_emod_of_nonneg h0]; exact hn.symm
          · have ht : x.tmod 1048576 = - ((-x) % 1048576) := by
              rw [show x = -(-x) by omega, Int.neg_tmod, Int.tmod_eq_emod_of_nonneg (by omega)]; simp
            rw [ht]
            omega
        obtain ⟨y, hy⟩ : ∃ y, x.tmod 1048576 = y := ⟨_, rfl⟩
        rw [hy] at hty
        have HN2 := Lib.hid hn
        clear hst hn
        have w1 : IntKind.i64.wrap (1 + n % 5) = 1 + n % 5 := IntWalk.i64_in _ (by omega)
        have w2 : IntKind.i64.wrap (1 + n / 5 % 5) = 1 + n / 5 % 5 := IntWalk.i64_in _ (by omega)
        have w3 : IntKind.i64.wrap (n / 25 % 41 + 1) = n / 25 % 41 + 1 := IntWalk.i64_in _ (by omega)
        have w4 : IntKind.i64.wrap (n / 25 % 41 + 1 + n / 20500 % 30) = n / 25 % 41 + 1 + n / 20500 % 30 := IntWalk.i64_in _ (by omega)
        have w5 : IntKind.i64.wrap (1 + (1 + n % 5) % 5) = 1 + (1 + n % 5) % 5 := IntWalk.i64_in _ (by omega)
        have hq : n / 1025 % 5 = 0 ∨ n / 1025 % 5 = 1 ∨ n / 1025 % 5 = 2 ∨ n / 1025 % 5 = 3 ∨ n / 1025 % 5 = 4 := by omega
        have HQ := Lib.hid hq
        clear hq
        rcases hty with rfl | ⟨hy0, hye⟩
        · have d5 : decide (n < 0) = false := nb (by omega)
          go_upto_region 8 with fail
          go_cut [8] (fun t wx => ∃ B, t = .pointer (some ⟨B, 0, none⟩) ∧ BC wx B (ctA n) ∧ Below wr.heap.size wr wx ∧ wr.heap.size ≤ B ∧ wx.frozen? ⟨B, 3, none⟩ = false ∧ wx.frozen? ⟨B, 1, none⟩ = false)
          case first =>
            rcases HQ.out with hq | hq | hq | hq | hq
            · have er : rateN (n / 1025 % 5) = 1 := by rw [hq]; rfl
              go_wp2_with fail
              go_meet
              exact ⟨_, rfl, by simp [BC, go_sem, ctA, er], (by repeat (first | assumption | exact Below.refl _ _ | apply Below.al | apply below_drewN | apply Below.drew | refine Below.next ?_ (by assumption))), by simp, by simp [go_sem], by simp [go_sem]⟩
            · have er : rateN (n / 1025 % 5) = 10 := by rw [hq]; rfl
              go_wp2_with fail
              go_meet
              exact ⟨_, rfl, by simp [BC, go_sem, ctA, er], (by repeat (first | assumption | exact Below.refl _ _ | apply Below.al | apply below_drewN | apply Below.drew | refine Below.next ?_ (by assumption))), by simp, by simp [go_sem], by simp [go_sem]⟩
            · have er : rateN (n / 1025 % 5) = 50 := by rw [hq]; rfl
              go_wp2_with fail
              go_meet
              exact ⟨_, rfl, by simp [BC, go_sem, ctA, er], (by repeat (first | assumption | exact Below.refl _ _ | apply Below.al | apply below_drewN | apply Below.drew | refine Below.next ?_ (by assumption))), by simp, by simp [go_sem], by simp [go_sem]⟩
            · have er : rateN (n / 1025 % 5) = 100 := by rw [hq]; rfl
              go_wp2_with fail
              go_meet
              exact ⟨_, rfl, by simp [BC, go_sem, ctA, er], (by repeat (first | assumption | exact Below.refl _ _ | apply Below.al | apply below_drewN | apply Below.drew | refine Below.next ?_ (by assumption))), by simp, by simp [go_sem], by simp [go_sem]⟩
            · have er : rateN (n / 1025 % 5) = 1000 := by rw [hq]; rfl
              go_wp2_with fail
              go_meet
              exact ⟨_, rfl, by simp [BC, go_sem, ctA, er], (by repeat (first | assumption | exact Below.refl _ _ | apply Below.al | apply below_drewN | apply Below.drew | refine Below.next ?_ (by assumption))), by simp, by simp [go_sem], by simp [go_sem]⟩
          case rest =>
            obtain ⟨B, rfl, hBC, hbx, hzB, hf3, hf1⟩ := hcut
            rename World => wx
            have c0' : wx.cell? ⟨B, 0, none⟩ = some (.int .i64 (1 + n % 5)) := hBC.1
            have c1' : wx.cell? ⟨B, 1, none⟩ = some (.int .i64 (1 + n / 5 % 5)) := hBC.2.1
            have c2' : wx.cell? ⟨B, 2, none⟩ = some (.int .i64 (n / 25 % 41)) := hBC.2.2.1
            have c3' : wx.cell? ⟨B, 3, none⟩ = some (.int .i64 0) := hBC.2.2.2.1
            have c4' : wx.cell? ⟨B, 4, none⟩ = some (.int .i64 (rateN (n / 1025 % 5))) := hBC.2.2.2.2.1
            have c5' : wx.cell? ⟨B, 5, none⟩ = some (.int .i64 (n / 5125 % 4)) := hBC.2.2.2.2.2
            have hz := hB.size
            have hBx := Below.next hB hbx
            clear hBC
            obtain ⟨r, hr⟩ : ∃ r, rateN (n / 1025 % 5) = r := ⟨_, rfl⟩
            rw [hr] at c4'
            have HRR := Lib.hid hr
            clear hr
            by_cases hft : 1 + n % 5 = 1 + n / 5 % 5
            · have f1 : (1 + n % 5 == 1 + n / 5 % 5) = true := by simp [hft]
              have hct : ctN n = ⟨1 + n % 5, 1 + (1 + n) % 5, n / 25 % 41, n / 25 % 41 + 1 + n / 20500 % 30, r, n / 5125 % 4⟩ := by unfold ctN; rw [if_pos hft, HRR.out, show (1 + n % 5) % 5 = (1 + n) % 5 by omega]
              have hCT := Lib.hid hct
              clear hct hft
              go_wp2_with fail
              refine (lay_any (plK nums most k) (.slice ao L no) ⟨1 + n % 5, 1 + (1 + n) % 5, n / 25 % 41, n / 25 % 41 + 1 + n / 20500 % 30, r, n / 5125 % 4⟩ (by rw [HL.out]; omega) _ (HRO.out.keep ((hbx.setCell (p := ⟨B, 3, none⟩) hzB _).setCell (p := ⟨B, 1, none⟩) hzB _))).mono ?_
              rintro e w3 ⟨v3, rfl, hr3, hb3⟩
              have hB3 := Below.next ((hBx.setCell (p := ⟨B, 3, none⟩) (by show w.heap.size ≤ B; omega) _).setCell (p := ⟨B, 1, none⟩) (by show w.heap.size ≤ B; omega) _) hb3
              have HR3 := Lib.hid hr3
              clear hr3 hb3
              go_wp2_with fail
              go_roundw
              case rel => exact ⟨k + 1, by omega, by go_num, by rw [HST.out, hCT.out]; exact HR3.out, hB3⟩
              case measure => simp [intOf]; omega
            · have f1 : (1 + n % 5 == 1 + n / 5 % 5) = false := by simp [hft]
              have hct : ctN n = ⟨1 + n % 5, 1 + n / 5 % 5, n / 25 % 41, n / 25 % 41 + 1 + n / 20500 % 30, r, n / 5125 % 4⟩ := by unfold ctN; rw [if_neg hft, HRR.out]
              have hCT := Lib.hid hct
              clear hct hft
              go_wp2_with fail
              refine (lay_any (plK nums most k) (.slice ao L no) ⟨1 + n % 5, 1 + n / 5 % 5, n / 25 % 41, n / 25 % 41 + 1 + n / 20500 % 30, r, n / 5125 % 4⟩ (by rw [HL.out]; omega) _ (HRO.out.keep (hbx.setCell (p := ⟨B, 3, none⟩) hzB _))).mono ?_
              rintro e w3 ⟨v3, rfl, hr3, hb3⟩
              have hB3 := Below.next (hBx.setCell (p := ⟨B, 3, none⟩) (by show w.heap.size ≤ B; omega) _) hb3
              have HR3 := Lib.hid hr3
              clear hr3 hb3
              go_wp2_with fail
              go_roundw
              case rel => exact ⟨k + 1, by omega, by go_num, by rw [HST.out, hCT.out]; exact HR3.out, hB3⟩
              case measure => simp [intOf]; omega
        · have d5 : decide (y < 0) = true := yb hy0
          have hwy : IntKind.i64.wrap (y + 1048576) = n := by rw [hye]; exact IntWalk.i64_in _ (by omega)
          go_upto_region 8 with fail
          go_cut [8] (fun t wx => ∃ B, t = .pointer (some ⟨B, 0, none⟩) ∧ BC wx B (ctA n) ∧ Below wr.heap.size wr wx ∧ wr.heap.size ≤ B ∧ wx.frozen? ⟨B, 3, none⟩ = false ∧ wx.frozen? ⟨B, 1, none⟩ = false)
          case first =>
            rcases HQ.out with hq | hq | hq | hq | hq
            · have er : rateN (n / 1025 % 5) = 1 := by rw [hq]; rfl
              go_wp2_with fail
              go_meet
              exact ⟨_, rfl, by simp [BC, go_sem, ctA, er], (by repeat (first | assumption | exact Below.refl _ _ | apply Below.al | apply below_drewN | apply Below.drew | refine Below.next ?_ (by assumption))), by simp, by simp [go_sem], by simp [go_sem]⟩
            · have er : rateN (n / 1025 % 5) = 10 := by rw [hq]; rfl
              go_wp2_with fail
              go_meet
              exact ⟨_, rfl, by simp [BC, go_sem, ctA, er], (by repeat (first | assumption | exact Below.refl _ _ | apply Below.al | apply below_drewN | apply Below.drew | refine Below.next ?_ (by assumption))), by simp, by simp [go_sem], by simp [go_sem]⟩
            · have er : rateN (n / 1025 % 5) = 50 := by rw [hq]; rfl
              go_wp2_with fail
              go_meet
              exact ⟨_, rfl, by simp [BC, go_sem, ctA, er], (by repeat (first | assumption | exact Below.refl _ _ | apply Below.al | apply below_drewN | apply Below.drew | refine Below.next ?_ (by assumption))), by simp, by simp [go_sem], by simp [go_sem]⟩
            · have er : rateN (n / 1025 % 5) = 100 := by rw [hq]; rfl
              go_wp2_with fail
              go_meet
              exact ⟨_, rfl, by simp [BC, go_sem, ctA, er], (by repeat (first | assumption | exact Below.refl _ _ | apply Below.al | apply below_drewN | apply Below.drew | refine Below.next ?_ (by assumption))), by simp, by simp [go_sem], by simp [go_sem]⟩
            · have er : rateN (n / 1025 % 5) = 1000 := by rw [hq]; rfl
              go_wp2_with fail
              go_meet
              exact ⟨_, rfl, by simp [BC, go_sem, ctA, er], (by repeat (first | assumption | exact Below.refl _ _ | apply Below.al | apply below_drewN | apply Below.drew | refine Below.next ?_ (by assumption))), by simp, by simp [go_sem], by simp [go_sem]⟩
          case rest =>
            obtain ⟨B, rfl, hBC, hbx, hzB, hf3, hf1⟩ := hcut
            rename World => wx
            have c0' : wx.cell? ⟨B, 0, none⟩ = some (.int .i64 (1 + n % 5)) := hBC.1
            have c1' : wx.cell? ⟨B, 1, none⟩ = some (.int .i64 (1 + n / 5 % 5)) := hBC.2.1
            have c2' : wx.cell? ⟨B, 2, none⟩ = some (.int .i64 (n / 25 % 41)) := hBC.2.2.1
            have c3' : wx.cell? ⟨B, 3, none⟩ = some (.int .i64 0) := hBC.2.2.2.1
            have c4' : wx.cell? ⟨B, 4, none⟩ = some (.int .i64 (rateN (n / 1025 % 5))) := hBC.2.2.2.2.1
            have c5' : wx.cell? ⟨B, 5, none⟩ = some (.int .i64 (n / 5125 % 4)) := hBC.2.2.2.2.2
            have hz := hB.size
            have hBx := Below.next hB hbx
            clear hBC
            obtain ⟨r, hr⟩ : ∃ r, rateN (n / 1025 % 5) = r := ⟨_, rfl⟩
            rw [hr] at c4'
            have HRR := Lib.hid hr
            clear hr
            by_cases hft : 1 + n % 5 = 1 + n / 5 % 5
            · have f1 : (1 + n % 5 == 1 + n / 5 % 5) = true := by simp [hft]
              have hct : ctN n = ⟨1 + n % 5, 1 + (1 + n) % 5, n / 25 % 41, n / 25 % 41 + 1 + n / 20500 % 30, r, n / 5125 % 4⟩ := by unfold ctN; rw [if_pos hft, HRR.out, show (1 + n % 5) % 5 = (1 + n) % 5 by omega]
              have hCT := Lib.hid hct
              clear hct hft
              go_wp2_with fail
              refine (lay_any (plK nums most k) (.slice ao L no) ⟨1 + n % 5, 1 + (1 + n) % 5, n / 25 % 41, n / 25 % 41 + 1 + n / 20500 % 30, r, n / 5125 % 4⟩ (by rw [HL.out]; omega) _ (HRO.out.keep ((hbx.setCell (p := ⟨B, 3, none⟩) hzB _).setCell (p := ⟨B, 1, none⟩) hzB _))).mono ?_
              rintro e w3 ⟨v3, rfl, hr3, hb3⟩
              have hB3 := Below.next ((hBx.setCell (p := ⟨B, 3, none⟩) (by show w.heap.size ≤ B; omega) _).setCell (p := ⟨B, 1, none⟩) (by show w.heap.size ≤ B; omega) _) hb3
              have HR3 := Lib.hid hr3
              clear hr3 hb3
              go_wp2_with fail
              go_roundw
              case rel => exact ⟨k + 1, by omega, by go_num, by rw [HST.out, hCT.out]; exact HR3.out, hB3⟩
              case measure => simp [intOf]; omega
            · have f1 : (1 + n % 5 == 1 + n / 5 % 5) = false := by simp [hft]
              have hct : ctN n = ⟨1 + n % 5, 1 + n / 5 % 5, n / 25 % 41, n / 25 % 41 + 1 + n / 20500 % 30, r, n / 5125 % 4⟩ := by unfold ctN; rw [if_neg hft, HRR.out]
              have hCT := Lib.hid hct
              clear hct hft
              go_wp2_with fail
              refine (lay_any (plK nums most k) (.slice ao L no) ⟨1 + n % 5, 1 + n / 5 % 5, n / 25 % 41, n / 25 % 41 + 1 + n / 20500 % 30, r, n / 5125 % 4⟩ (by rw [HL.out]; omega) _ (HRO.out.keep (hbx.setCell (p := ⟨B, 3, none⟩) hzB _))).mono ?_
              rintro e w3 ⟨v3, rfl, hr3, hb3⟩
              have hB3 := Below.next (hBx.setCell (p := ⟨B, 3, none⟩) (by show w.heap.size ≤ B; omega) _) hb3
              have HR3 := Lib.hid hr3
              clear hr3 hb3
              go_wp2_with fail
              go_roundw
              case rel => exact ⟨k + 1, by omega, by go_num, by rw [HST.out, hCT.out]; exact HR3.out, hB3⟩
              case measure => simp [intOf]; omega
      · have d3 : decide ((L : Int) < (most : Int)) = false := nb (by omega)
        have hfu := plK_full (nums := nums) (most := most) (k := k) (by rw [HL.out]; exact hLl) N hk
        have hR2 : RdC wr (.slice ao L no) (plK nums most N) := by rw [hfu]; exact HRO.out
        have HR2 := Lib.hid hR2
        clear hfu hR2
        go_wp2_with fail
        go_ret
        exact ⟨_, rfl, HR2.out, hB⟩
    · obtain rfl : k = N := by omega
      have d2 : decide ((k : Int) < (k : Int)) = false := nb (by omega)
      go_wp2_with fail
      go_ret
      exact ⟨_, rfl, HRO.out, hB⟩
end Go.Proofs.Ytgmfifilgbbogaa
