


/- Timers: the reference's rising. -/
import Derived.Test.YtigmhglkohjlhaaH
namespace Go.Proofs.Ytigmhglkohjlhaa
open Go.RowKit
set_option linter.unusedSimpArgs false
set_option linter.unusedVariables false
set_option maxRecDepth 100000

theorem MA.kept {X : Nat → Prop} {a b : World} {q o : Nat} {t : Tm} (h : Kx X a b) (hx : ¬ X q) (hm : MA a q o t) : MA b q o t := ⟨h.cell hx hm.1, h.cell hx hm.2.1, h.cell hx hm.2.2.1, h.cell hx hm.2.2.2.1, h.cell hx hm.2.2.2.2⟩
set_option maxHeartbeats 4000000 in
theorem rup_any (base n c q : Nat) (l : List Tm) (i : Nat) (r : List Tm) (m : Nat) (hr : up l i = (r, m)) (hl : l.length = n) (hi : i < n) (hn : n ≤ 1000000) (w : World) (h : w.ownsRow base 41 5 (.slice (some ⟨q, 0, none⟩) n c) n (rcs tmR l)) :
    Calls Try.prog 61 #[.slice (some ⟨q, 0, none⟩) n c, .int .i64 (i : Int)] w fun x w' => x = .returned (.int .i64 (m : Int)) ∧ w'.ownsRow base 41 5 (.slice (some ⟨q, 0, none⟩) n c) n (rcs tmR r) ∧ Kx (fun k => k = q) w w' := by
  have HR := Lib.hid hr
  have HL := Lib.hid hl
  have HO := Lib.hid h
  clear hr hl h
  go_enter Try.func61, Try.ntmps61
  go_upto_region 1 with fail
  go_loopw [1] (fun i wr => ∃ (k : Nat) (l' : List Tm), k < n ∧ i = .int .i64 k ∧ l'.length = n ∧ up l' k = (r, m) ∧ wr.ownsRow base 41 5 (.slice (some ⟨q, 0, none⟩) n c) n (rcs tmR l') ∧ Kx (fun k => k = q) w wr) (fun i _ => (intOf i).toNat)
  case atStart => exact ⟨i, l, hi, rfl, HL.out, HR.out, HO.out, Kx.refl _ _⟩
  case round =>
    clear HR HL HO hi
    obtain ⟨k, l', hk, rfl, hl', hu, ho, hK⟩ := hrel
    rw [up_eq] at hu
    have HL := Lib.hid hl'
    have HO := Lib.hid ho
    have HKX := Lib.hid hK
    have hu1 := hu
    have HU := Lib.hid hu
    obtain ⟨g0, g1, g2, g3, g4⟩ := OwM.at ho hl' k hk
    obtain ⟨t, HT⟩ : ∃ y, Hid (g l' k = y) := ⟨_, rfl⟩
    rw [HT.out] at g0 g1 g2 g3 g4
    have n1 : (0 : Int) ≤ (k : Int) := by omega
    have n2 : (k : Int) < (n : Int) := by omega
    have hwk : IntKind.i64.wrap (k : Int) = (k : Int) := IntWalk.i64_in _ (by omega)
    clear hl' hu hu1 ho hK
    by_cases hk0 : 0 < k
    · obtain ⟨p, hp⟩ : ∃ p, (k - 1) / 2 = p := ⟨_, rfl⟩
      have hpN : p < n := by omega
      have HPK := Lib.hid (show p < k by omega)
      have hq : IntKind.i64.wrap (((k : Int) - 1).tdiv 2) = (p : Int) := by rw [Int.tdiv_eq_ediv_of_nonneg (by omega), show ((k : Int) - 1) / 2 = (p : Int) by omega]; exact IntWalk.i64_in _ (by omega)
      obtain ⟨p0, p1, p2, p3, p4⟩ := OwM.at HO.out HL.out p hpN
      obtain ⟨u, HUP⟩ : ∃ y, Hid (g l' p = y) := ⟨_, rfl⟩
      rw [HUP.out] at p0 p1 p2 p3 p4
      have hwk1 : IntKind.i64.wrap ((k : Int) - 1) = (k : Int) - 1 := IntWalk.i64_in _ (by omega)
      have hwp : IntKind.i64.wrap (p : Int) = (p : Int) := IntWalk.i64_in _ (by omega)
      have m0 : decide ((0 : Int) < (k : Int)) = true := yb (by omega)
      have m0' : decide (0 < k) = true := yb hk0
      have m1 : (0 : Int) ≤ (k : Int) - 1 := by omega
      have m2 : (0 : Int) ≤ (p : Int) := by omega
      have m3 : (p : Int) < (n : Int) := by omega
      have HQ := Lib.hid hq
      have HP := Lib.hid hp
      have HK0 := Lib.hid hk0
      clear hq hp hk0
      go_upto_region 1 with fail
      rename World => wr
      refine wp_region_calm (fun w' => Below wr.heap.size wr w') 99 (by kernel_rfl) ((Below.refl _ wr).drew) ?_
      refine cm_run 0 5 (v := ?_) rfl rfl (by kernel_rfl) (by kernel_rfl) (by kernel_rfl) (by kernel_rfl) (by kernel_rfl) (fun _ _ _ h => h) (by rfl) ?_ ?_
      rotate_left
      · (intro wS hS; skip; go_simp; (try with_reducible rfl))
      simp only [List.setIfInBounds_toArray, List.set_cons_zero, List.set_cons_succ]
      refine cm_run 1 6 (v := ?_) rfl rfl (by kernel_rfl) (by kernel_rfl) (by kernel_rfl) (by kernel_rfl) (by kernel_rfl) (fun _ _ _ h => h) (by rfl) ?_ ?_
      rotate_left
      · (intro wS hS; skip; go_simp; (try with_reducible rfl))
      simp only [List.setIfInBounds_toArray, List.set_cons_zero, List.set_cons_succ]
      refine cm_run 2 7 (v := ?_) rfl rfl (by kernel_rfl) (by kernel_rfl) (by kernel_rfl) (by kernel_rfl) (by kernel_rfl) (fun _ _ _ h => h) (by rfl) ?_ ?_
      rotate_left
      · (intro wS hS; skip; go_simp; (try with_reducible rfl))
      simp only [List.setIfInBounds_toArray, List.set_cons_zero, List.set_cons_succ]
      refine cm_run 3 8 (v := ?_) rfl rfl (by kernel_rfl) (by kernel_rfl) (by kernel_rfl) (by kernel_rfl) (by kernel_rfl) (fun _ _ _ h => h) (by rfl) ?_ ?_
      rotate_left
      · (intro wS hS; skip; go_simp; (try with_reducible rfl))
      simp only [List.setIfInBounds_toArray, List.set_cons_zero, List.set_cons_succ]
      refine cm_run 4 9 (v := ?_) rfl rfl (by kernel_rfl) (by kernel_rfl) (by kernel_rfl) (by kernel_rfl) (by kernel_rfl) (fun _ _ _ h => h) (by rfl) ?_ ?_
      rotate_left
      · (intro wS hS; skip; go_simp; (try with_reducible rfl))
      simp only [List.setIfInBounds_toArray, List.set_cons_zero, List.set_cons_succ]
      refine cm_run 5 10 (v := ?_) rfl rfl (by kernel_rfl) (by kernel_rfl) (by kernel_rfl) (by kernel_rfl) (by kernel_rfl) (fun _ _ _ h => h) (by rfl) ?_ ?_
      rotate_left
      · (intro wS hS; skip; go_simp; (try with_reducible rfl))
      simp only [List.setIfInBounds_toArray, List.set_cons_zero, List.set_cons_succ]
      refine cm_run 6 11 (v := ?_) rfl rfl (by kernel_rfl) (by kernel_rfl) (by kernel_rfl) (by kernel_rfl) (by kernel_rfl) (fun _ _ _ h => h) (by rfl) ?_ ?_
      rotate_left
      · (intro wS hS; (have h0 := cell_later hS g0; have h1 := cell_later hS g1; have h2 := cell_later hS g2; have h3 := cell_later hS g3; have h4 := cell_later hS g4); go_simp; (try with_reducible rfl))
      simp only [List.setIfInBounds_toArray, List.set_cons_zero, List.set_cons_succ]
      refine cm_run 7 12 (v := ?_) rfl rfl (by kernel_rfl) (by kernel_rfl) (by kernel_rfl) (by kernel_rfl) (by kernel_rfl) (fun _ _ _ h => h) (by rfl) ?_ ?_
      rotate_left
      · (intro wS hS; skip; go_simp; (try with_reducible rfl))
      simp only [List.setIfInBounds_toArray, List.set_cons_zero, List.set_cons_succ]
      refine cm_run 8 13 (v := ?_) rfl rfl (by kernel_rfl) (by kernel_rfl) (by kernel_rfl) (by kernel_rfl) (by kernel_rfl) (fun _ _ _ h => h) (by rfl) ?_ ?_
      rotate_left
      · (intro wS hS; skip; go_simp; (try with_reducible rfl))
      simp only [List.setIfInBounds_toArray, List.set_cons_zero, List.set_cons_succ]
      refine cm_run 9 14 (v := ?_) rfl rfl (by kernel_rfl) (by kernel_rfl) (by kernel_rfl) (by kernel_rfl) (by kernel_rfl) (fun _ _ _ h => h) (by rfl) ?_ ?_
      rotate_left
      · (intro wS hS; skip; go_simp; (try with_reducible rfl))
      simp only [List.setIfInBounds_toArray, List.set_cons_zero, List.set_cons_succ]
      refine cm_run 10 15 (v := .int .i64 (p : Int)) rfl rfl (by kernel_rfl) (by kernel_rfl) (by kernel_rfl) (by kernel_rfl) (by kernel_rfl) (fun _ _ _ h => h) (by rfl) ?_ ?_
      · (intro wS hS; have hq := HQ.out; go_simp; (try with_reducible rfl))
      simp only [List.setIfInBounds_toArray, List.set_cons_zero, List.set_cons_succ]
      refine cm_run 11 16 (v := ?_) rfl rfl (by kernel_rfl) (by kernel_rfl) (by kernel_rfl) (by kernel_rfl) (by kernel_rfl) (fun _ _ _ h => h) (by rfl) ?_ ?_
      rotate_left
      · (intro wS hS; skip; go_simp; (try with_reducible rfl))
      simp only [List.setIfInBounds_toArray, List.set_cons_zero, List.set_cons_succ]
      refine cm_run 12 17 (v := ?_) rfl rfl (by kernel_rfl) (by kernel_rfl) (by kernel_rfl) (by kernel_rfl) (by kernel_rfl) (fun _ _ _ h => h) (by rfl) ?_ ?_
      rotate_left
      · (intro wS hS; (have h0 := cell_later hS p0; have h1 := cell_later hS p1; have h2 := cell_later hS p2; have h3 := cell_later hS p3; have h4 := cell_later hS p4); go_simp; (try with_reducible rfl))
      simp only [List.setIfInBounds_toArray, List.set_cons_zero, List.set_cons_succ]
      refine cm_call 13 18 43 (v := .bool (decide (ltT t u))) (args := ?_) rfl rfl (by kernel_rfl) (by kernel_rfl) (by kernel_rfl) (by kernel_rfl) (by kernel_rfl) (fun _ _ _ h => h) (by rfl) ?_ ?_ ?_
      rotate_left 1
      · (intro wS hS; go_simp; (try with_reducible rfl))
      · (intro wS hS; refine (before_any t u _).mono ?_; (rintro e w2 ⟨rfl, hb⟩; exact ⟨rfl, Below.next hS hb⟩))
      simp only [List.setIfInBounds_toArray, List.set_cons_zero, List.set_cons_succ]
      by_cases hlt2 : ltT t u
      · have d5 : decide (ltT t u) = true := yb hlt2
        have HST := Lib.hid (show up (swp l' k p) p = (r, m) by have := HU.out; rw [HP.out, HT.out, HUP.out, if_pos ⟨HK0.out, hlt2⟩] at this; exact this)
        clear hlt2
        refine cm_run 14 19 (v := ?_) rfl rfl (by kernel_rfl) (by kernel_rfl) (by kernel_rfl) (by kernel_rfl) (by kernel_rfl) (fun _ _ _ h => h) (by rfl) ?_ ?_
        rotate_left
        · (intro wS hS; skip; go_simp; (try with_reducible rfl))
        simp only [List.setIfInBounds_toArray, List.set_cons_zero, List.set_cons_succ]
        refine cm_done (by kernel_rfl) ?_
        intro wS hS
        refine NoPanic.normal ?_
        have HOS := Lib.hid (OwM.keep HO.out hS)
        have HKS := Lib.hid (HKX.out.next hS)
        clear hS g0 g1 g2 g3 g4 p0 p1 p2 p3 p4
        have hq := HQ.out
        go_wp2_with fail
        refine (rswap_any base n c q l' k p HL.out hk hpN hn _ HOS.out).mono ?_
        rintro e w3 ⟨rfl, ho3, hk3⟩
        have HK3 := Lib.hid (HKS.out.trans hk3 (fun _ _ h => h))
        have HO3 := Lib.hid ho3
        clear hk3 ho3
        go_wp2_with fail
        go_roundw
        case rel => exact ⟨p, swp l' k p, hpN, rfl, by rw [swp_len]; exact HL.out, HST.out, HO3.out, HK3.out⟩
        case measure => have := HPK.out; simp [intOf]; omega
      · have d5 : decide (ltT t u) = false := nb hlt2
        have hst : (l', k) = (r, m) := by have := HU.out; rw [HP.out, HT.out, HUP.out, if_neg (fun h => hlt2 h.2)] at this; exact this
        simp only [Prod.mk.injEq] at hst
        obtain ⟨rfl, rfl⟩ := hst
        clear hlt2 HU
        refine cm_run 14 19 (v := ?_) rfl rfl (by kernel_rfl) (by kernel_rfl) (by kernel_rfl) (by kernel_rfl) (by kernel_rfl) (fun _ _ _ h => h) (by rfl) ?_ ?_
        rotate_left
        · (intro wS hS; skip; go_simp; (try with_reducible rfl))
        simp only [List.setIfInBounds_toArray, List.set_cons_zero, List.set_cons_succ]
        refine cm_done (by kernel_rfl) ?_
        intro wS hS
        refine NoPanic.normal ?_
        have HOS := Lib.hid (OwM.keep HO.out hS)
        have HKS := Lib.hid (HKX.out.next hS)
        clear hS g0 g1 g2 g3 g4 p0 p1 p2 p3 p4
        go_wp2_with fail
        go_ret
        exact ⟨rfl, HOS.out, HKS.out⟩
    · obtain rfl : k = 0 := by omega
      have hst : (l', 0) = (r, m) := by have := HU.out; rw [if_neg (fun h => by omega)] at this; exact this
      simp only [Prod.mk.injEq] at hst
      obtain ⟨rfl, rfl⟩ := hst
      clear hk0 HU
      go_upto_region 1 with fail
      rename World => wr
      refine wp_region_calm (fun w' => Below wr.heap.size wr w') 99 (by kernel_rfl) ((Below.refl _ wr).drew) ?_
      refine cm_run 0 5 (v := ?_) rfl rfl (by kernel_rfl) (by kernel_rfl) (by kernel_rfl) (by kernel_rfl) (by kernel_rfl) (fun _ _ _ h => h) (by rfl) ?_ ?_
      rotate_left
      · (intro wS hS; skip; go_simp; (try with_reducible rfl))
      simp only [List.setIfInBounds_toArray, List.set_cons_zero, List.set_cons_succ]
      refine cm_run 1 6 (v := ?_) rfl rfl (by kernel_rfl) (by kernel_rfl) (by kernel_rfl) (by kernel_rfl) (by kernel_rfl) (fun _ _ _ h => h) (by rfl) ?_ ?_
      rotate_left
      · (intro wS hS; skip; go_simp; (try with_reducible rfl))
      simp only [List.setIfInBounds_toArray, List.set_cons_zero, List.set_cons_succ]
      refine cm_run 2 7 (v := ?_) rfl rfl (by kernel_rfl) (by kernel_rfl) (by kernel_rfl) (by kernel_rfl) (by kernel_rfl) (fun _ _ _ h => h) (by rfl) ?_ ?_
      rotate_left
      · (intro wS hS; skip; go_simp; (try with_reducible rfl))
      simp only [List.setIfInBounds_toArray, List.set_cons_zero, List.set_cons_succ]
      refine cm_shut 3 8 rfl rfl (by kernel_rfl) (by kernel_rfl) (by kernel_rfl) (by kernel_rfl) (by kernel_rfl) (fun _ _ _ h => h) (by rfl) ?_
      simp only [List.setIfInBounds_toArray, List.set_cons_zero, List.set_cons_succ]
      refine cm_shut 4 9 rfl rfl (by kernel_rfl) (by kernel_rfl) (by kernel_rfl) (by kernel_rfl) (by kernel_rfl) (fun _ _ _ h => h) (by rfl) ?_
      simp only [List.setIfInBounds_toArray, List.set_cons_zero, List.set_cons_succ]
      refine cm_shut 5 10 rfl rfl (by kernel_rfl) (by kernel_rfl) (by kernel_rfl) (by kernel_rfl) (by kernel_rfl) (fun _ _ _ h => h) (by rfl) ?_
      simp only [List.setIfInBounds_toArray, List.set_cons_zero, List.set_cons_succ]
      refine cm_shut 6 11 rfl rfl (by kernel_rfl) (by kernel_rfl) (by kernel_rfl) (by kernel_rfl) (by kernel_rfl) (fun _ _ _ h => h) (by rfl) ?_
      simp only [List.setIfInBounds_toArray, List.set_cons_zero, List.set_cons_succ]
      refine cm_shut 7 12 rfl rfl (by kernel_rfl) (by kernel_rfl) (by kernel_rfl) (by kernel_rfl) (by kernel_rfl) (fun _ _ _ h => h) (by rfl) ?_
      simp only [List.setIfInBounds_toArray, List.set_cons_zero, List.set_cons_succ]
      refine cm_shut 8 13 rfl rfl (by kernel_rfl) (by kernel_rfl) (by kernel_rfl) (by kernel_rfl) (by kernel_rfl) (fun _ _ _ h => h) (by rfl) ?_
      simp only [List.setIfInBounds_toArray, List.set_cons_zero, List.set_cons_succ]
      refine cm_shut 9 14 rfl rfl (by kernel_rfl) (by kernel_rfl) (by kernel_rfl) (by kernel_rfl) (by kernel_rfl) (fun _ _ _ h => h) (by rfl) ?_
      simp only [List.setIfInBounds_toArray, List.set_cons_zero, List.set_cons_succ]
      refine cm_shut 10 15 rfl rfl (by kernel_rfl) (by kernel_rfl) (by kernel_rfl) (by kernel_rfl) (by kernel_rfl) (fun _ _ _ h => h) (by rfl) ?_
      simp only [List.setIfInBounds_toArray, List.set_cons_zero, List.set_cons_succ]
      refine cm_shut 11 16 rfl rfl (by kernel_rfl) (by kernel_rfl) (by kernel_rfl) (by kernel_rfl) (by kernel_rfl) (fun _ _ _ h => h) (by rfl) ?_
      simp only [List.setIfInBounds_toArray, List.set_cons_zero, List.set_cons_succ]
      refine cm_shut 12 17 rfl rfl (by kernel_rfl) (by kernel_rfl) (by kernel_rfl) (by kernel_rfl) (by kernel_rfl) (fun _ _ _ h => h) (by rfl) ?_
      simp only [List.setIfInBounds_toArray, List.set_cons_zero, List.set_cons_succ]
      refine cm_shut 13 18 rfl rfl (by kernel_rfl) (by kernel_rfl) (by kernel_rfl) (by kernel_rfl) (by kernel_rfl) (fun _ _ _ h => h) (by rfl) ?_
      simp only [List.setIfInBounds_toArray, List.set_cons_zero, List.set_cons_succ]
      refine cm_run 14 19 (v := ?_) rfl rfl (by kernel_rfl) (by kernel_rfl) (by kernel_rfl) (by kernel_rfl) (by kernel_rfl) (fun _ _ _ h => h) (by rfl) ?_ ?_
      rotate_left
      · (intro wS hS; skip; go_simp; (try with_reducible rfl))
      simp only [List.setIfInBounds_toArray, List.set_cons_zero, List.set_cons_succ]
      refine cm_done (by kernel_rfl) ?_
      intro wS hS
      refine NoPanic.normal ?_
      have HOS := Lib.hid (OwM.keep HO.out hS)
      have HKS := Lib.hid (HKX.out.next hS)
      clear hS g0 g1 g2 g3 g4
      go_wp2_with fail
      go_ret
      exact ⟨rfl, HOS.out, HKS.out⟩
end Go.Proofs.Ytigmhglkohjlhaa
