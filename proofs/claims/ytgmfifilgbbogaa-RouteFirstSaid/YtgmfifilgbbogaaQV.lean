


/- The queue of stops: container/heap at it: up, down. -/
import Derived.Test.YtgmfifilgbbogaaQU
namespace Go.Proofs.Ytgmfifilgbbogaa
open Go.RowKit
set_option linter.unusedSimpArgs false
set_option linter.unusedVariables false
set_option maxRecDepth 100000

theorem swp_comm (l : List Tm) (i j : Nat) (hi : i < l.length) (hj : j < l.length) : swp l i j = swp l j i := by
  refine ext_g (by rw [swp_len, swp_len]) fun k hk => ?_
  rw [swp_get l i j k hi hj, swp_get l j i k hj hi]
  by_cases h1 : j = k
  · rw [if_pos h1]
    by_cases h2 : i = k
    · rw [if_pos h2, h1, h2]
    · rw [if_neg h2, if_pos h1]
  · rw [if_neg h1]
    by_cases h2 : i = k
    · rw [if_pos h2, if_pos h2]
    · rw [if_neg h2, if_neg h2, if_neg h1]
theorem swp_app (m r : List Tm) (i j : Nat) (hi : i < m.length) (hj : j < m.length) : swp (m ++ r) i j = swp m i j ++ r := by
  unfold swp
  rw [g_app_l hi, g_app_l hj, List.set_append_left _ _ hi, List.set_append_left _ _ (by rw [List.length_set]; exact hj)]
set_option maxHeartbeats 4000000 in
theorem hup_any (w : World) (base P : Nat) (v : Value) (m r : List Tm) (k : Nat) (hk : k < m.length) (h : TM w base P v (m ++ r)) : Calls Try.prog 69 #[.iface 81 (.pointer (some ⟨P, 0, none⟩)), .int .i64 (k : Int)] w fun e w' => e = .returned (.tuple #[]) ∧ TM w' base P v ((up m k).1 ++ r) ∧ TR w P v w' v := by
  have hlen := h.len
  have HT := Lib.hid h
  have mLHT := HT.out.mL
  have mSHT := HT.out.mS
  have mNHT := HT.out.mN
  obtain ⟨R, HR⟩ : ∃ R, Hid ((up m k).1 = R) := ⟨_, rfl⟩
  rw [HR.out]
  obtain ⟨L, hL⟩ : ∃ L, m.length = L := ⟨_, rfl⟩
  have HL := Lib.hid hL
  rw [List.length_append, hL] at hlen
  rw [hL] at hk
  clear h hL
  go_enter Try.func69, Try.ntmps69
  go_upto_region 0 with fail
  go_loopw [1] (fun i wr => ∃ (k : Nat) (m' : List Tm), k < L ∧ i = .int .i64 k ∧ m'.length = L ∧ (up m' k).1 = R ∧ TM wr base P v (m' ++ r) ∧ TR w P v wr v) (fun i _ => (intOf i).toNat)
  case atStart => exact ⟨k, m, hk, rfl, HL.out, HR.out, HT.out, TR.of_below (Below.refl _ _)⟩
  case round =>
    clear HR HT HL hk
    obtain ⟨k, m', hk, rfl, hl', hu, hT, hR⟩ := hrel
    obtain ⟨p, hp⟩ : ∃ p, (k - 1) / 2 = p := ⟨_, rfl⟩
    have hpk : p ≤ k := by omega
    rw [up_eq, hp] at hu
    have HU := Lib.hid hu
    have HL := Lib.hid hl'
    have HT := Lib.hid hT
    have mLHT := HT.out.mL
    have mSHT := HT.out.mS
    have mNHT := HT.out.mN
    have HTR := Lib.hid hR
    have hq : IntKind.i64.wrap (((k : Int) - 1).tdiv 2) = (p : Int) := by
      by_cases hk0 : k = 0
      · subst hk0
        obtain rfl : p = 0 := by omega
        rfl
      · rw [Int.tdiv_eq_ediv_of_nonneg (by omega), show ((k : Int) - 1) / 2 = (p : Int) by omega]; exact IntWalk.i64_in _ (by omega)
    have hwk1 : IntKind.i64.wrap ((k : Int) - 1) = (k : Int) - 1 := IntWalk.i64_in _ (by omega)
    have HP := Lib.hid hp
    clear hu hl' hT hR hp
    by_cases hk0 : k = 0
    · obtain rfl : p = 0 := by omega
      subst hk0
      have HX : Hid (m' = R) := by have := HU.out; rw [if_neg (fun h => by omega)] at this; exact this
      go_wp2_with fail
      exact bodyPost_end (results_none rfl _ _ _) rfl ⟨rfl, by rw [← HX.out]; exact HT.out, HTR.out⟩
    · have HPK := Lib.hid (show p < k by have := HP.out; omega)
      have d0 : ((p : Int) == (k : Int)) = false := by have := HPK.out; simp; omega
      obtain ⟨t, HTK⟩ : ∃ t, Hid (g m' k = t) := ⟨_, rfl⟩
      obtain ⟨u, HUP⟩ : ∃ t, Hid (g m' p = t) := ⟨_, rfl⟩
      have HLS := Lib.hid (less_any wr base P v (m' ++ r) k p (by rw [List.length_append, HL.out]; omega) (by rw [List.length_append, HL.out]; omega) HT.out)
      have HLS := Lib.hid (show Calls Try.prog 103 #[v, .int .i64 (k : Int), .int .i64 (p : Int)] wr fun x w' => x = .returned (.bool (decide (ltT t u))) ∧ Below wr.heap.size wr w' by
        have := HLS.out
        rw [g_app_l (by rw [HL.out]; exact hk), g_app_l (by rw [HL.out]; omega), HTK.out, HUP.out] at this
        exact this)
      have HU := Lib.hid (show (if ltT t u then up (swp m' k p) p else (m', k)).1 = R by
        have := HU.out
        rw [HTK.out, HUP.out] at this
        by_cases hh : ltT t u
        · rw [if_pos ⟨by omega, hh⟩] at this; rw [if_pos hh]; exact this
        · rw [if_neg (fun h => hh h.2)] at this; rw [if_neg hh]; exact this)
      clear hk0
      by_cases hlt : ltT t u
      · have d5 : decide (ltT t u) = true := yb hlt
        have HST := Lib.hid (show (up (swp m' k p) p).1 = R by have := HU.out; rwa [if_pos hlt] at this)
        clear hlt
        go_wp2_with fail
        refine (HLS.out).mono ?_
        rintro e w2 ⟨rfl, hb2⟩
        have HT2 := Lib.hid (HT.out.keep hb2)
        have mLHT2 := HT2.out.mL
        have mSHT2 := HT2.out.mS
        have mNHT2 := HT2.out.mN
        have HTR2 := Lib.hid (HTR.out.next hb2)
        clear hb2
        go_wp2_with fail
        refine (swap_any w2 base P v (m' ++ r) p k (by rw [List.length_append, HL.out]; omega) (by rw [List.length_append, HL.out]; omega) HT2.out).mono ?_
        rw [swp_app m' r p k (by rw [HL.out]; omega) (by rw [HL.out]; exact hk), swp_comm m' p k (by rw [HL.out]; omega) (by rw [HL.out]; exact hk)]
        rintro e w3 ⟨rfl, hT3, hk3⟩
        have HT3 := Lib.hid hT3
        have mLHT3 := HT3.out.mL
        have mSHT3 := HT3.out.mS
        have mNHT3 := HT3.out.mN
        have HTR3 := Lib.hid (HTR2.out.trans (TR.swap hk3))
        clear hT3 hk3
        go_wp2_with fail
        go_roundw
        case rel => exact ⟨p, swp m' k p, by omega, rfl, by rw [swp_len]; exact HL.out, HST.out, HT3.out, HTR3.out⟩
        case measure => have := HPK.out; simp [intOf]; omega
      · have d5 : decide (ltT t u) = false := nb hlt
        have HX := Lib.hid (show m' = R by have := HU.out; rwa [if_neg hlt] at this)
        clear hlt
        go_wp2_with fail
        refine (HLS.out).mono ?_
        rintro e w2 ⟨rfl, hb2⟩
        have HT2 := Lib.hid (HT.out.keep hb2)
        have mLHT2 := HT2.out.mL
        have mSHT2 := HT2.out.mS
        have mNHT2 := HT2.out.mN
        have HTR2 := Lib.hid (HTR.out.next hb2)
        clear hb2
        go_wp2_with fail
        exact bodyPost_end (results_none rfl _ _ _) rfl ⟨rfl, by rw [← HX.out]; exact HT2.out, HTR2.out⟩
theorem less_app (w : World) (base P : Nat) (v : Value) (m r : List Tm) (i j : Nat) (t u : Tm) (hi : i < m.length) (hj : j < m.length) (ht : g m i = t) (hu : g m j = u) (h : TM w base P v (m ++ r)) : Calls Try.prog 103 #[v, .int .i64 (i : Int), .int .i64 (j : Int)] w fun x w' => x = .returned (.bool (decide (ltT t u))) ∧ Below w.heap.size w w' := by
  have := less_any w base P v (m ++ r) i j (by rw [List.length_append]; omega) (by rw [List.length_append]; omega) h
  rw [g_app_l hi, g_app_l hj, ht, hu] at this
  exact this
theorem swap_app (w : World) (base P : Nat) (v : Value) (m r : List Tm) (i j : Nat) (hi : i < m.length) (hj : j < m.length) (h : TM w base P v (m ++ r)) : Calls Try.prog 106 #[v, .int .i64 (i : Int), .int .i64 (j : Int)] w fun x w' => x = .returned (.tuple #[]) ∧ TM w' base P v (swp m i j ++ r) ∧ Kx (fun k => v.ownBlock = some k) w w' := by
  have := swap_any w base P v (m ++ r) i j (by rw [List.length_append]; omega) (by rw [List.length_append]; omega) h
  rw [swp_app m r i j hi hj] at this
  exact this
set_option maxHeartbeats 8000000 in
theorem hdown_any (w : World) (base P : Nat) (v : Value) (m r : List Tm) (i0 : Nat) (hk : i0 ≤ m.length) (h : TM w base P v (m ++ r)) : Calls Try.prog 68 #[.iface 81 (.pointer (some ⟨P, 0, none⟩)), .int .i64 (i0 : Int), .int .i64 (m.length : Int)] w fun e w' => e = .returned (.bool (decide (i0 < (dn m i0).2))) ∧ TM w' base P v ((dn m i0).1 ++ r) ∧ TR w P v w' v := by
  have hlen := h.len
  have HT := Lib.hid h
  have mLHT := HT.out.mL
  have mSHT := HT.out.mS
  have mNHT := HT.out.mN
  obtain ⟨R, K, HR⟩ : ∃ R K, Hid (dn m i0 = (R, K)) := ⟨_, _, rfl⟩
  rw [HR.out]
  obtain ⟨L, hL⟩ : ∃ L, m.length = L := ⟨_, rfl⟩
  have HL := Lib.hid hL
  rw [List.length_append, hL] at hlen
  rw [hL] at hk ⊢
  clear h hL
  go_enter Try.func68, Try.ntmps68
  go_upto_region 2 with fail
  go_loopw [7] (fun i wr => ∃ (k : Nat) (m' : List Tm), k ≤ L ∧ i = .int .i64 k ∧ m'.length = L ∧ dn m' k = (R, K) ∧ TM wr base P v (m' ++ r) ∧ TR w P v wr v) (fun i _ => L - (intOf i).toNat)
  case atStart => exact ⟨i0, m, hk, rfl, HL.out, HR.out, HT.out, TR.of_below (Below.refl _ _)⟩
  case round =>
    clear HR HT HL hk
    obtain ⟨k, m', hk, rfl, hl', hd, hT, hR⟩ := hrel
    have HD := Lib.hid hd
    have HL := Lib.hid hl'
    have HT := Lib.hid hT
    have mLHT := HT.out.mL
    have mSHT := HT.out.mS
    have mNHT := HT.out.mN
    have HTR := Lib.hid hR
    have hw2 : IntKind.i64.wrap (2 * (k : Int)) = 2 * (k : Int) := IntWalk.i64_in _ (by omega)
    obtain ⟨j1, hj1⟩ : ∃ j1, 2 * k + 1 = j1 := ⟨_, rfl⟩
    have hw3 : IntKind.i64.wrap (2 * (k : Int) + 1) = (j1 : Int) := by rw [show 2 * (k : Int) + 1 = (j1 : Int) by omega]; exact IntWalk.i64_in _ (by omega)
    obtain ⟨j2, hj2⟩ : ∃ j2, j1 + 1 = j2 := ⟨_, rfl⟩
    have hw4 : IntKind.i64.wrap ((j1 : Int) + 1) = (j2 : Int) := by rw [show (j1 : Int) + 1 = (j2 : Int) by omega]; exact IntWalk.i64_in _ (by omega)
    have HJ1 := Lib.hid hj1
    have HJ3 := Lib.hid hj2
    have HJ4 : Hid (2 * k + 2 = j2) := by unfold Hid; omega
    have d1 : decide ((j1 : Int) < 0) = false := nb (by omega)
    clear hl' hd hT hR hj1 hj2
    by_cases h1 : j1 < L
    · have d0 : decide ((L : Int) ≤ (j1 : Int)) = false := nb (by omega)
      have d0' : decide (L ≤ j1) = false := nb (by omega)
      by_cases h2 : j2 < L
      · have d2 : decide ((j2 : Int) < (L : Int)) = true := yb (by omega)
        have d2' : decide (j2 < L) = true := yb h2
        obtain ⟨x1, HX1⟩ : ∃ t, Hid (g m' j2 = t) := ⟨_, rfl⟩
        obtain ⟨x2, HX2⟩ : ∃ t, Hid (g m' j1 = t) := ⟨_, rfl⟩
        by_cases hlx : ltT x1 x2
        · have d3 : decide (ltT x1 x2) = true := yb hlx
          have HKD : Hid (kid m' k = j2) := by
            unfold Hid kid
            have hj := HJ1.out
            rw [HL.out, HJ4.out, hj, HX1.out, HX2.out, if_pos ⟨h2, hlx⟩]
          have HC : Hid (2 * k + 1 < L) := by unfold Hid; rw [HJ1.out]; exact h1
          have HJ : Hid (k < j2 ∧ j2 < L) := ⟨by have := HJ1.out; have := HJ3.out; omega, h2⟩
          clear hlx h1 h2
          go_wp2_with fail
          refine (less_app _ base P v m' r j2 j1 x1 x2 (by rw [HL.out]; exact HJ.out.2) (by rw [HL.out]; have := HJ.out; have := HJ3.out; omega) HX1.out HX2.out HT.out).mono ?_
          rintro e w4 ⟨rfl, hb4⟩
          have HT2 := Lib.hid (HT.out.keep hb4)
          have mLHT2 := HT2.out.mL
          have mSHT2 := HT2.out.mS
          have mNHT2 := HT2.out.mN
          have HTR2 := Lib.hid (HTR.out.next hb4)
          clear hb4
          obtain ⟨t, HTK⟩ : ∃ t, Hid (g m' j2 = t) := ⟨_, rfl⟩
          obtain ⟨u, HUP⟩ : ∃ t, Hid (g m' k = t) := ⟨_, rfl⟩
          have HDN := Lib.hid (show dn m' k = if ltT t u then dn (swp m' k j2) j2 else (m', k) by
            have := dn_eq m' k
            rw [HL.out, HKD.out, HTK.out, HUP.out] at this
            rw [this]
            by_cases hh : ltT t u
            · rw [if_pos ⟨HC.out, hh⟩, if_pos hh]
            · rw [if_neg (fun h => hh h.2), if_neg hh])
          have HLS := fun w4 (hT : TM w4 base P v (m' ++ r)) => Lib.hid (less_app w4 base P v m' r j2 k t u (by rw [HL.out]; exact HJ.out.2) (by rw [HL.out]; have := HJ.out; omega) HTK.out HUP.out hT)
          by_cases hlt : ltT t u
          · have d5 : decide (ltT t u) = true := yb hlt
            have HST := Lib.hid (show dn (swp m' k j2) j2 = (R, K) by have := HDN.out; rw [if_pos hlt, HD.out] at this; exact this.symm)
            clear hlt
            go_wp2_with fail
            refine (HLS _ HT2.out).out.mono ?_
            rintro e w5 ⟨rfl, hb5⟩
            have HT5 := Lib.hid (HT2.out.keep hb5)
            have mLHT5 := HT5.out.mL
            have mSHT5 := HT5.out.mS
            have mNHT5 := HT5.out.mN
            have HTR5 := Lib.hid (HTR2.out.next hb5)
            clear hb5
            go_wp2_with fail
            refine (swap_app _ base P v m' r k j2 (by rw [HL.out]; have := HJ.out; omega) (by rw [HL.out]; exact HJ.out.2) HT5.out).mono ?_
            rintro e w6 ⟨rfl, hT6, hk6⟩
            have HT6 := Lib.hid hT6
            have mLHT6 := HT6.out.mL
            have mSHT6 := HT6.out.mS
            have mNHT6 := HT6.out.mN
            have HTR6 := Lib.hid (HTR5.out.trans (TR.swap hk6))
            clear hT6 hk6
            go_wp2_with fail
            go_roundw
            case rel => exact ⟨j2, swp m' k j2, Nat.le_of_lt HJ.out.2, (by first | rfl | go_num), by rw [swp_len]; exact HL.out, HST.out, HT6.out, HTR6.out⟩
            case measure => have := HJ.out; simp [intOf]; omega
          · have d5 : decide (ltT t u) = false := nb hlt
            have hst : (m', k) = (R, K) := by have := HDN.out; rw [if_neg hlt, HD.out] at this; exact this.symm
            simp only [Prod.mk.injEq] at hst
            have HX := Lib.hid hst.1
            have HK := Lib.hid hst.2
            have d6 : decide ((i0 : Int) < (k : Int)) = decide (i0 < K) := by rw [← hst.2]; exact decide_eq_decide.2 (by omega)
            clear hlt hst
            go_wp2_with fail
            refine (HLS _ HT2.out).out.mono ?_
            rintro e w5 ⟨rfl, hb5⟩
            have HT5 := Lib.hid (HT2.out.keep hb5)
            have mLHT5 := HT5.out.mL
            have mSHT5 := HT5.out.mS
            have mNHT5 := HT5.out.mN
            have HTR5 := Lib.hid (HTR2.out.next hb5)
            clear hb5
            go_wp2_with fail
            go_ret
            exact ⟨by rw [← d6]; simp, by rw [← HX.out]; exact HT5.out, HTR5.out⟩
        · have d3 : decide (ltT x1 x2) = false := nb hlx
          have HKD : Hid (kid m' k = j1) := by
            unfold Hid kid
            have hj := HJ1.out
            rw [HL.out, HJ4.out, hj, HX1.out, HX2.out, if_neg (fun h => hlx h.2)]
          have HC : Hid (2 * k + 1 < L) := by unfold Hid; rw [HJ1.out]; exact h1
          have HJ : Hid (k < j1 ∧ j1 < L) := ⟨by have := HJ1.out; omega, h1⟩
          have HJ2 : Hid (j2 < L) := h2
          clear hlx h1 h2
          go_wp2_with fail
          refine (less_app _ base P v m' r j2 j1 x1 x2 (by rw [HL.out]; exact HJ2.out) (by rw [HL.out]; have := HJ.out; have := HJ3.out; omega) HX1.out HX2.out HT.out).mono ?_
          rintro e w4 ⟨rfl, hb4⟩
          have HT2 := Lib.hid (HT.out.keep hb4)
          have mLHT2 := HT2.out.mL
          have mSHT2 := HT2.out.mS
          have mNHT2 := HT2.out.mN
          have HTR2 := Lib.hid (HTR.out.next hb4)
          clear hb4
          obtain ⟨t, HTK⟩ : ∃ t, Hid (g m' j1 = t) := ⟨_, rfl⟩
          obtain ⟨u, HUP⟩ : ∃ t, Hid (g m' k = t) := ⟨_, rfl⟩
          have HDN := Lib.hid (show dn m' k = if ltT t u then dn (swp m' k j1) j1 else (m', k) by
            have := dn_eq m' k
            rw [HL.out, HKD.out, HTK.out, HUP.out] at this
            rw [this]
            by_cases hh : ltT t u
            · rw [if_pos ⟨HC.out, hh⟩, if_pos hh]
            · rw [if_neg (fun h => hh h.2), if_neg hh])
          have HLS := fun w4 (hT : TM w4 base P v (m' ++ r)) => Lib.hid (less_app w4 base P v m' r j1 k t u (by rw [HL.out]; exact HJ.out.2) (by rw [HL.out]; have := HJ.out; omega) HTK.out HUP.out hT)
          by_cases hlt : ltT t u
          · have d5 : decide (ltT t u) = true := yb hlt
            have HST := Lib.hid (show dn (swp m' k j1) j1 = (R, K) by have := HDN.out; rw [if_pos hlt, HD.out] at this; exact this.symm)
            clear hlt
            go_wp2_with fail
            refine (HLS _ HT2.out).out.mono ?_
            rintro e w5 ⟨rfl, hb5⟩
            have HT5 := Lib.hid (HT2.out.keep hb5)
            have mLHT5 := HT5.out.mL
            have mSHT5 := HT5.out.mS
            have mNHT5 := HT5.out.mN
            have HTR5 := Lib.hid (HTR2.out.next hb5)
            clear hb5
            go_wp2_with fail
            refine (swap_app _ base P v m' r k j1 (by rw [HL.out]; have := HJ.out; omega) (by rw [HL.out]; exact HJ.out.2) HT5.out).mono ?_
            rintro e w6 ⟨rfl, hT6, hk6⟩
            have HT6 := Lib.hid hT6
            have mLHT6 := HT6.out.mL
            have mSHT6 := HT6.out.mS
            have mNHT6 := HT6.out.mN
            have HTR6 := Lib.hid (HTR5.out.trans (TR.swap hk6))
            clear hT6 hk6
            go_wp2_with fail
            go_roundw
            case rel => exact ⟨j1, swp m' k j1, Nat.le_of_lt HJ.out.2, (by first | rfl | go_num), by rw [swp_len]; exact HL.out, HST.out, HT6.out, HTR6.out⟩
            case measure => have := HJ.out; simp [intOf]; omega
          · have d5 : decide (ltT t u) = false := nb hlt
            have hst : (m', k) = (R, K) := by have := HDN.out; rw [if_neg hlt, HD.out] at this; exact this.symm
            simp only [Prod.mk.injEq] at hst
            have HX := Lib.hid hst.1
            have HK := Lib.hid hst.2
            have d6 : decide ((i0 : Int) < (k : Int)) = decide (i0 < K) := by rw [← hst.2]; exact decide_eq_decide.2 (by omega)
            clear hlt hst
            go_wp2_with fail
            refine (HLS _ HT2.out).out.mono ?_
            rintro e w5 ⟨rfl, hb5⟩
            have HT5 := Lib.hid (HT2.out.keep hb5)
            have mLHT5 := HT5.out.mL
            have mSHT5 := HT5.out.mS
            have mNHT5 := HT5.out.mN
            have HTR5 := Lib.hid (HTR2.out.next hb5)
            clear hb5
            go_wp2_with fail
            go_ret
            exact ⟨by rw [← d6]; simp, by rw [← HX.out]; exact HT5.out, HTR5.out⟩
      · have d2 : decide ((j2 : Int) < (L : Int)) = false := nb (by omega)
        have d2' : decide (j2 < L) = false := nb h2
        have HKD : Hid (kid m' k = j1) := by
          unfold Hid kid
          have hj := HJ1.out
          rw [HL.out, HJ4.out, hj, if_neg (fun h => h2 h.1)]
        have HC : Hid (2 * k + 1 < L) := by unfold Hid; rw [HJ1.out]; exact h1
        have HJ : Hid (k < j1 ∧ j1 < L) := ⟨by have := HJ1.out; omega, h1⟩
        have HT2 := HT
        have HTR2 := HTR
        clear h1 h2
        obtain ⟨t, HTK⟩ : ∃ t, Hid (g m' j1 = t) := ⟨_, rfl⟩
        obtain ⟨u, HUP⟩ : ∃ t, Hid (g m' k = t) := ⟨_, rfl⟩
        have HDN := Lib.hid (show dn m' k = if ltT t u then dn (swp m' k j1) j1 else (m', k) by
          have := dn_eq m' k
          rw [HL.out, HKD.out, HTK.out, HUP.out] at this
          rw [this]
          by_cases hh : ltT t u
          · rw [if_pos ⟨HC.out, hh⟩, if_pos hh]
          · rw [if_neg (fun h => hh h.2), if_neg hh])
        have HLS := fun w4 (hT : TM w4 base P v (m' ++ r)) => Lib.hid (less_app w4 base P v m' r j1 k t u (by rw [HL.out]; exact HJ.out.2) (by rw [HL.out]; have := HJ.out; omega) HTK.out HUP.out hT)
        by_cases hlt : ltT t u
        · have d5 : decide (ltT t u) = true := yb hlt
          have HST := Lib.hid (show dn (swp m' k j1) j1 = (R, K) by have := HDN.out; rw [if_pos hlt, HD.out] at this; exact this.symm)
          clear hlt
          go_wp2_with fail
          refine (HLS _ HT2.out).out.mono ?_
          rintro e w5 ⟨rfl, hb5⟩
          have HT5 := Lib.hid (HT2.out.keep hb5)
          have mLHT5 := HT5.out.mL
          have mSHT5 := HT5.out.mS
          have mNHT5 := HT5.out.mN
          have HTR5 := Lib.hid (HTR2.out.next hb5)
          clear hb5
          go_wp2_with fail
          refine (swap_app _ base P v m' r k j1 (by rw [HL.out]; have := HJ.out; omega) (by rw [HL.out]; exact HJ.out.2) HT5.out).mono ?_
          rintro e w6 ⟨rfl, hT6, hk6⟩
          have HT6 := Lib.hid hT6
          have mLHT6 := HT6.out.mL
          have mSHT6 := HT6.out.mS
          have mNHT6 := HT6.out.mN
          have HTR6 := Lib.hid (HTR5.out.trans (TR.swap hk6))
          clear hT6 hk6
          go_wp2_with fail
          go_roundw
          case rel => exact ⟨j1, swp m' k j1, Nat.le_of_lt HJ.out.2, (by first | rfl | go_num), by rw [swp_len]; exact HL.out, HST.out, HT6.out, HTR6.out⟩
          case measure => have := HJ.out; simp [intOf]; omega
        · have d5 : decide (ltT t u) = false := nb hlt
          have hst : (m', k) = (R, K) := by have := HDN.out; rw [if_neg hlt, HD.out] at this; exact this.symm
          simp only [Prod.mk.injEq] at hst
          have HX := Lib.hid hst.1
          have HK := Lib.hid hst.2
          have d6 : decide ((i0 : Int) < (k : Int)) = decide (i0 < K) := by rw [← hst.2]; exact decide_eq_decide.2 (by omega)
          clear hlt hst
          go_wp2_with fail
          refine (HLS _ HT2.out).out.mono ?_
          rintro e w5 ⟨rfl, hb5⟩
          have HT5 := Lib.hid (HT2.out.keep hb5)
          have mLHT5 := HT5.out.mL
          have mSHT5 := HT5.out.mS
          have mNHT5 := HT5.out.mN
          have HTR5 := Lib.hid (HTR2.out.next hb5)
          clear hb5
          go_wp2_with fail
          go_ret
          exact ⟨by rw [← d6]; simp, by rw [← HX.out]; exact HT5.out, HTR5.out⟩
    · have d0 : decide ((L : Int) ≤ (j1 : Int)) = true := yb (by omega)
      have d0' : decide (L ≤ j1) = true := yb (by omega)
      have hst : (m', k) = (R, K) := by
        have := dn_eq m' k
        rw [HL.out, if_neg (fun h => by have := HJ1.out; omega), HD.out] at this
        exact this.symm
      simp only [Prod.mk.injEq] at hst
      have HX := Lib.hid hst.1
      have d6 : decide ((i0 : Int) < (k : Int)) = decide (i0 < K) := by rw [← hst.2]; exact decide_eq_decide.2 (by omega)
      clear hst h1
      go_wp2_with fail
      go_ret
      exact ⟨by rw [← d6]; simp, by rw [← HX.out]; exact HT.out, HTR.out⟩
end Go.Proofs.Ytgmfifilgbbogaa
