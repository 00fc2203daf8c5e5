


/- Routes: Compare, in both texts. -/
import Derived.Test.YtgmfifilgbbogaaRC
import Derived.Test.YtgmfifilgbbogaaRQ
import Derived.Test.YtgmfifilgbbogaaX
namespace Go.Proofs.Ytgmfifilgbbogaa
open Go.RowKit
set_option linter.unusedSimpArgs false
set_option linter.unusedVariables false
set_option maxRecDepth 100000

theorem wp_drewN {P : Program} {c : Code} {Q : Exit → Act → World → Prop} {a : Act} {W : World} {n : Nat} (h : ∀ W', Below W.heap.size W W' → c.wp P Q a W') : c.wp P Q a (W.drewN n) := h _ (below_drewN (Below.refl _ _) n)
/-- slices.Compare -/
def scI : List Int → List Int → Int
  | [], [] => 0
  | [], _ :: _ => -1
  | _ :: _, [] => 1
  | a :: l, b :: m => if a < b then -1 else if b < a then 1 else scI l m
theorem scI_lex : ∀ (l m : List Int), l.length = m.length → scI l m = lexI l m := by
  intro l
  induction l with
  | nil => intro m h; rw [List.length_eq_zero_iff.1 h.symm]; rfl
  | cons a l ih =>
    intro m h
    cases m with
    | nil => cases h
    | cons b m => simp only [scI, lexI]; rw [ih m (by simpa using h)]
theorem or3_cmp (a b : Int) (l m : List Int) : or3 (cmpI a b) (cmpI (l.length : Int) (m.length : Int)) (scI l m) = cmpR a l b m := by
  unfold or3 cmpR cmpI
  by_cases h1 : a < b
  · simp [h1]
  · by_cases h2 : b < a
    · simp [h1, h2]
    · by_cases h3 : l.length < m.length
      · simp [h1, h2, h3]
      · by_cases h4 : m.length < l.length
        · simp [h1, h2, h3, h4]
        · simp [h1, h2, h3, h4, scI_lex l m (by omega)]
theorem drop_at {l : List Int} {k : Nat} (hk : k < l.length) : l.drop k = l.getD k 0 :: l.drop (k + 1) := by
  rw [List.drop_eq_getElem_cons hk, List.getD_eq_getElem?_getD, List.getElem?_eq_getElem hk]
  rfl
set_option maxHeartbeats 1000000 in
theorem scmp_any (v u : Value) (l m : List Int) (w : World) (h : RdI .i64 w v l) (hu : RdI .i64 w u m) :
    Calls Try.prog 47 #[v, u] w fun e w' => e = .returned (.int .i64 (scI l m)) ∧ w = w' := by
  obtain ⟨a0, n0, rfl⟩ := h.form
  obtain ⟨a1, n1, rfl⟩ := hu.form
  have hmx := h.2.1
  have hmy := hu.2.1
  unfold maxLen at hmx hmy
  obtain ⟨N, hN⟩ : ∃ N, l.length = N := ⟨_, rfl⟩
  obtain ⟨M, hM⟩ : ∃ M, m.length = M := ⟨_, rfl⟩
  rw [hN] at h hmx ⊢
  rw [hM] at hu hmy ⊢
  obtain ⟨r, hr⟩ : ∃ r, scI l m = r := ⟨_, rfl⟩
  rw [hr]
  have HF : Hid (scI (l.drop 0) (m.drop 0) = r) := Lib.hid hr
  have HR := Lib.hid h
  have HU := Lib.hid hu
  have HN := Lib.hid hN
  have HM := Lib.hid hM
  clear h hu hN hM hr
  go_enter Try.func47, Try.ntmps47
  go_wp2_with fail
  go_loopw [11] (fun i wr => ∃ k : Nat, k ≤ N ∧ k ≤ M ∧ i = .int .i64 k ∧ w = wr ∧ scI (l.drop k) (m.drop k) = r) (fun i _ => N - (intOf i).toNat)
  case atStart => exact ⟨0, Nat.zero_le _, Nat.zero_le _, rfl, rfl, HF.out⟩
  case round =>
    clear HF
    obtain ⟨k, hkN, hkM, rfl, rfl, hs⟩ := hrel
    have HS := Lib.hid hs
    by_cases hlt : k < N
    · have d2 : decide ((k : Int) < (N : Int)) = true := yb (by omega)
      obtain ⟨b1, o1, rfl, hc1, g0⟩ := RdI.at HR.out HN.out k hlt
      have n1 : (0 : Int) ≤ (k : Int) := by omega
      have n2 : (k : Int) < (N : Int) := by omega
      have hwk : IntKind.i64.wrap (k : Int) = (k : Int) := IntWalk.i64_in _ (by omega)
      have hwk1 : IntKind.i64.wrap ((k : Int) + 1) = (k : Int) + 1 := IntWalk.i64_in _ (by omega)
      rw [drop_at (l := l) (by rw [HN.out]; exact hlt)] at hs
      by_cases hkm : k < M
      · have d3 : decide ((k : Int) ≥ (M : Int)) = false := nb (by omega)
        obtain ⟨b2, o2, rfl, hc2, f0⟩ := RdI.at HU.out HM.out k hkm
        have n3 : (k : Int) < (M : Int) := by omega
        rw [drop_at (l := m) (by rw [HM.out]; exact hkm)] at hs
        obtain ⟨x, HX⟩ : ∃ y, Hid (l.getD k 0 = y) := ⟨_, rfl⟩
        obtain ⟨y, HY⟩ : ∃ y, Hid (m.getD k 0 = y) := ⟨_, rfl⟩
        rw [HX.out] at g0 hs
        rw [HY.out] at f0 hs
        simp only [scI] at hs
        have hc := cmp_any x y w
        obtain ⟨q, hq⟩ : ∃ q, cmpI x y = q := ⟨_, rfl⟩
        rw [hq] at hc
        unfold cmpI at hq
        have HC := Lib.hid hc
        clear hc
        by_cases h1 : x < y
        · rw [if_pos h1] at hs hq
          subst hs hq
          clear h1
          go_wp2_with fail
          refine HC.out.mono ?_
          rintro e w2 ⟨rfl, h9⟩
          obtain rfl := h9.symm
          go_wp2_with fail
          go_ret
          exact ⟨rfl, rfl⟩
        · rw [if_neg h1] at hs hq
          by_cases h2 : y < x
          · rw [if_pos h2] at hs hq
            subst hs hq
            clear h1 h2
            go_wp2_with fail
            refine HC.out.mono ?_
            rintro e w2 ⟨rfl, h9⟩
            obtain rfl := h9.symm
            go_wp2_with fail
            go_ret
            exact ⟨rfl, rfl⟩
          · rw [if_neg h2] at hs hq
            subst hq
            have HS2 := Lib.hid hs
            clear h1 h2 hs
            go_wp2_with fail
            refine HC.out.mono ?_
            rintro e w2 ⟨rfl, h9⟩
            obtain rfl := h9.symm
            go_wp2_with fail
            go_roundw
            case rel => exact ⟨k + 1, by omega, by omega, by go_num, (by trivial), HS2.out⟩
            case measure => simp [intOf]; omega
      · have d3 : decide ((k : Int) ≥ (M : Int)) = true := yb (by omega)
        rw [List.drop_eq_nil_of_le (show m.length ≤ k by rw [HM.out]; omega)] at hs
        simp only [scI] at hs
        subst hs
        go_wp2_with fail
        go_ret
        exact ⟨rfl, rfl⟩
    · obtain rfl : k = N := by omega
      have d2 : decide ((k : Int) < (k : Int)) = false := nb (by omega)
      rw [List.drop_eq_nil_of_le (show l.length ≤ k by rw [HN.out]; exact Nat.le_refl _)] at hs
      by_cases hkm : k < M
      · have d3 : decide ((k : Int) < (M : Int)) = true := yb (by omega)
        rw [drop_at (l := m) (by rw [HM.out]; exact hkm)] at hs
        simp only [scI] at hs
        subst hs
        go_wp2_with fail
        go_ret
        exact ⟨rfl, rfl⟩
      · have d3 : decide ((k : Int) < (M : Int)) = false := nb (by omega)
        rw [List.drop_eq_nil_of_le (show m.length ≤ k by rw [HM.out]; omega)] at hs
        simp only [scI] at hs
        subst hs
        go_wp2_with fail
        go_ret
        exact ⟨rfl, rfl⟩
set_option maxHeartbeats 2000000 in
theorem cmpr_any (v u : Value) (a b : Int) (l m : List Int) (w : World) (h : RdR w v a l) (hu : RdR w u b m) :
    Calls Try.prog 23 #[v, u] w fun e w' => e = .returned (.int .i64 (cmpR a l b m)) ∧ Below w.heap.size w w' := by
  obtain ⟨cv, rfl, hl⟩ := h
  obtain ⟨cu, rfl, hm⟩ := hu
  obtain ⟨a0, n0, rfl⟩ := hl.form
  obtain ⟨a1, n1, rfl⟩ := hm.form
  have hmx := hl.2.1
  have hmy := hm.2.1
  unfold maxLen at hmx hmy
  obtain ⟨N, hN⟩ : ∃ N, l.length = N := ⟨_, rfl⟩
  obtain ⟨M, hM⟩ : ∃ M, m.length = M := ⟨_, rfl⟩
  rw [hN] at hl hmx ⊢
  rw [hM] at hm hmy ⊢
  obtain ⟨W, hW⟩ : ∃ W : World, W = (w.alloc (.cells #[.slice a0 N n0, .int .i64 a] 27)).alloc (.cells #[.slice a1 M n1, .int .i64 b] 27) := ⟨_, rfl⟩
  have hB0 : Below w.heap.size w W := by rw [hW]; exact (by repeat (first | assumption | exact Below.refl _ _ | apply Below.al | apply below_drewN | apply Below.drew | refine Below.next ?_ (by assumption)))
  have HA : Hid (BoxN W w.heap.size 27 #[.slice a0 N n0, .int .i64 a]) := Lib.hid (by rw [hW]; exact (BoxN.new w _ _).below (by repeat (first | assumption | exact Below.refl _ _ | apply Below.al | apply below_drewN | apply Below.drew | refine Below.next ?_ (by assumption))))
  have HBb : Hid (BoxN W (w.heap.size + 1) 27 #[.slice a1 M n1, .int .i64 b]) := Lib.hid (by
    rw [hW]
    have := BoxN.new (w.alloc (.cells #[.slice a0 N n0, .int .i64 a] 27)) 27 #[.slice a1 M n1, .int .i64 b]
    simpa using this)
  have HL : Hid (RdI .i64 W (.slice a0 N n0) l) := Lib.hid (hl.keep hB0)
  have HM : Hid (RdI .i64 W (.slice a1 M n1) m) := Lib.hid (hm.keep hB0)
  have HB := Lib.hid hB0
  have HN := Lib.hid hN
  have HMn := Lib.hid hM
  have x0 : W.cell? ⟨w.heap.size, 0, none⟩ = some (.slice a0 N n0) := HA.out.cell 0
  have x1 : W.cell? ⟨w.heap.size, 1, none⟩ = some (.int .i64 a) := HA.out.cell 1
  have y0 : W.cell? ⟨w.heap.size + 1, 0, none⟩ = some (.slice a1 M n1) := HBb.out.cell 0
  have y1 : W.cell? ⟨w.heap.size + 1, 1, none⟩ = some (.int .i64 b) := HBb.out.cell 1
  clear hl hm hB0 hN hM
  obtain ⟨q1, hq1⟩ : ∃ q, cmpI a b = q := ⟨_, rfl⟩
  obtain ⟨q2, hq2⟩ : ∃ q, cmpI (N : Int) (M : Int) = q := ⟨_, rfl⟩
  obtain ⟨q3, hq3⟩ : ∃ q, scI l m = q := ⟨_, rfl⟩
  have HQ : Hid (cmpR a l b m = or3 q1 q2 q3) := Lib.hid (by rw [← or3_cmp, HN.out, HMn.out, hq1, hq2, hq3])
  have HC1 : Hid (∀ w : World, Calls Try.prog 46 #[.int .i64 a, .int .i64 b] w fun e w' => e = .returned (.int .i64 q1) ∧ w = w') := Lib.hid (fun w => by rw [← hq1]; exact cmp_any a b w)
  have HC2 : Hid (∀ w : World, Calls Try.prog 46 #[.int .i64 (N : Int), .int .i64 (M : Int)] w fun e w' => e = .returned (.int .i64 q2) ∧ w = w') := Lib.hid (fun w => by rw [← hq2]; exact cmp_any _ _ w)
  have HC3 : Hid (∀ w' : World, Below W.heap.size W w' → Calls Try.prog 47 #[.slice a0 N n0, .slice a1 M n1] w' fun e w'' => e = .returned (.int .i64 q3) ∧ w' = w'') := Lib.hid (fun w' hb => by
    rw [← hq3]
    exact scmp_any _ _ l m w' (HL.out.keep hb) (HM.out.keep hb))
  clear hq1 hq2 hq3
  rw [HQ.out]
  go_enter Try.func23, Try.ntmps23
  go_upto_region 1 with fail
  rw [← hW]
  clear hW
  refine wp_region_noPanic ?_
  refine wp_region_held_drew (S := (fun w' => Below W.heap.size W w')) (by kernel_rfl) ((Below.refl _ W).drew) (fun hHeld => ?_)
  refine reg_tk (v := ?_) 0 5 rfl rfl (by kernel_rfl) (by kernel_rfl) (by kernel_rfl) (fun _ _ _ h => h) (by rfl) ?_ (by assumption) ?_
  rotate_left
  · (intro w hSw; (try dsimp only at hSw); go_simp; (try with_reducible rfl))
  simp only [List.setIfInBounds_toArray, List.set_cons_zero, List.set_cons_succ]
  refine reg_tk (v := .int .i64 a) 1 6 rfl rfl (by kernel_rfl) (by kernel_rfl) (by kernel_rfl) (fun _ _ _ h => h) (by rfl) (fun w3 hS => by have j0 := cell_later hS x1; go_simp) (by assumption) ?_
  simp only [List.setIfInBounds_toArray, List.set_cons_zero, List.set_cons_succ]
  refine reg_tk (v := ?_) 2 7 rfl rfl (by kernel_rfl) (by kernel_rfl) (by kernel_rfl) (fun _ _ _ h => h) (by rfl) ?_ (by assumption) ?_
  rotate_left
  · (intro w hSw; (try dsimp only at hSw); go_simp; (try with_reducible rfl))
  simp only [List.setIfInBounds_toArray, List.set_cons_zero, List.set_cons_succ]
  refine reg_tk (v := .int .i64 b) 3 8 rfl rfl (by kernel_rfl) (by kernel_rfl) (by kernel_rfl) (fun _ _ _ h => h) (by rfl) (fun w3 hS => by have j0 := cell_later hS y1; go_simp) (by assumption) ?_
  simp only [List.setIfInBounds_toArray, List.set_cons_zero, List.set_cons_succ]
  refine reg_call 4 9 46 (v := .int .i64 q1) (args := #[.int .i64 a, .int .i64 b]) rfl rfl (by kernel_rfl) (by kernel_rfl) (by kernel_rfl) (fun _ _ _ h => h) (by rfl) (fun w3 hS => by go_simp) (fun w3 hS => (HC1.out _).mono (by rintro e w4 ⟨rfl, rfl⟩; exact ⟨rfl, rfl⟩)) (by assumption) ?_
  simp only [List.setIfInBounds_toArray, List.set_cons_zero, List.set_cons_succ]
  refine reg_tk (v := ?_) 5 10 rfl rfl (by kernel_rfl) (by kernel_rfl) (by kernel_rfl) (fun _ _ _ h => h) (by rfl) ?_ (by assumption) ?_
  rotate_left
  · (intro w hSw; (try dsimp only at hSw); go_simp; (try with_reducible rfl))
  simp only [List.setIfInBounds_toArray, List.set_cons_zero, List.set_cons_succ]
  refine reg_tk (v := .slice a0 N n0) 6 11 rfl rfl (by kernel_rfl) (by kernel_rfl) (by kernel_rfl) (fun _ _ _ h => h) (by rfl) (fun w3 hS => by have j0 := cell_later hS x0; go_simp) (by assumption) ?_
  simp only [List.setIfInBounds_toArray, List.set_cons_zero, List.set_cons_succ]
  refine reg_tk (v := ?_) 7 12 rfl rfl (by kernel_rfl) (by kernel_rfl) (by kernel_rfl) (fun _ _ _ h => h) (by rfl) ?_ (by assumption) ?_
  rotate_left
  · (intro w hSw; (try dsimp only at hSw); go_simp; (try with_reducible rfl))
  simp only [List.setIfInBounds_toArray, List.set_cons_zero, List.set_cons_succ]
  refine reg_tk (v := ?_) 8 13 rfl rfl (by kernel_rfl) (by kernel_rfl) (by kernel_rfl) (fun _ _ _ h => h) (by rfl) ?_ (by assumption) ?_
  rotate_left
  · (intro w hSw; (try dsimp only at hSw); go_simp; (try with_reducible rfl))
  simp only [List.setIfInBounds_toArray, List.set_cons_zero, List.set_cons_succ]
  refine reg_tk (v := .slice a1 M n1) 9 14 rfl rfl (by kernel_rfl) (by kernel_rfl) (by kernel_rfl) (fun _ _ _ h => h) (by rfl) (fun w3 hS => by have j0 := cell_later hS y0; go_simp) (by assumption) ?_
  simp only [List.setIfInBounds_toArray, List.set_cons_zero, List.set_cons_succ]
  refine reg_tk (v := ?_) 10 15 rfl rfl (by kernel_rfl) (by kernel_rfl) (by kernel_rfl) (fun _ _ _ h => h) (by rfl) ?_ (by assumption) ?_
  rotate_left
  · (intro w hSw; (try dsimp only at hSw); go_simp; (try with_reducible rfl))
  simp only [List.setIfInBounds_toArray, List.set_cons_zero, List.set_cons_succ]
  refine reg_call 11 16 46 (v := .int .i64 q2) (args := #[.int .i64 (N : Int), .int .i64 (M : Int)]) rfl rfl (by kernel_rfl) (by kernel_rfl) (by kernel_rfl) (fun _ _ _ h => h) (by rfl) (fun w3 hS => by go_simp) (fun w3 hS => (HC2.out _).mono (by rintro e w4 ⟨rfl, rfl⟩; exact ⟨rfl, rfl⟩)) (by assumption) ?_
  simp only [List.setIfInBounds_toArray, List.set_cons_zero, List.set_cons_succ]
  refine reg_tk (v := ?_) 12 17 rfl rfl (by kernel_rfl) (by kernel_rfl) (by kernel_rfl) (fun _ _ _ h => h) (by rfl) ?_ (by assumption) ?_
  rotate_left
  · (intro w hSw; (try dsimp only at hSw); go_simp; (try with_reducible rfl))
  simp only [List.setIfInBounds_toArray, List.set_cons_zero, List.set_cons_succ]
  refine reg_tk (v := .slice a0 N n0) 13 18 rfl rfl (by kernel_rfl) (by kernel_rfl) (by kernel_rfl) (fun _ _ _ h => h) (by rfl) (fun w3 hS => by have j0 := cell_later hS x0; go_simp) (by assumption) ?_
  simp only [List.setIfInBounds_toArray, List.set_cons_zero, List.set_cons_succ]
  refine reg_tk (v := ?_) 14 19 rfl rfl (by kernel_rfl) (by kernel_rfl) (by kernel_rfl) (fun _ _ _ h => h) (by rfl) ?_ (by assumption) ?_
  rotate_left
  · (intro w hSw; (try dsimp only at hSw); go_simp; (try with_reducible rfl))
  simp only [List.setIfInBounds_toArray, List.set_cons_zero, List.set_cons_succ]
  refine reg_tk (v := .slice a1 M n1) 15 20 rfl rfl (by kernel_rfl) (by kernel_rfl) (by kernel_rfl) (fun _ _ _ h => h) (by rfl) (fun w3 hS => by have j0 := cell_later hS y0; go_simp) (by assumption) ?_
  simp only [List.setIfInBounds_toArray, List.set_cons_zero, List.set_cons_succ]
  refine reg_call 16 21 47 (v := .int .i64 q3) (args := #[.slice a0 N n0, .slice a1 M n1]) rfl rfl (by kernel_rfl) (by kernel_rfl) (by kernel_rfl) (fun _ _ _ h => h) (by rfl) (fun w3 hS => by go_simp) (fun w3 hS => (HC3.out _ hS).mono (by rintro e w4 ⟨rfl, rfl⟩; exact ⟨rfl, rfl⟩)) (by assumption) ?_
  simp only [List.setIfInBounds_toArray, List.set_cons_zero, List.set_cons_succ]
  refine wpAnyH_ready (rs := [17]) (by kernel_rfl) (by simp) ?_
  refine AllReadyH.cons rfl (fun K hK => ?_) AllReadyH.nil
  go_simp
  have hB1 : Below W.heap.size W (W.drew.alloc (.cells #[.int .i64 q1, .int .i64 q2, .int .i64 q3] 3)) := Below.al ((Below.refl _ W).drew) _
  refine hK.out _ _ hB1 (fun hHeld2 => ?_)
  clear hK K hHeld
  have hHeld := hHeld2
  clear hHeld2
  try simp only [Act.put, List.setIfInBounds_toArray, List.set_cons_zero, List.set_cons_succ]
  refine wpAnyH_ready (rs := [18]) (by kernel_rfl) (by simp) ?_
  refine AllReadyH.cons rfl (fun K hK => ?_) AllReadyH.nil
  go_simp
  refine (or_any q1 q2 q3 _ _ (by simp [go_sem]) (by simp [go_sem]) (by simp [go_sem])).mono ?_
  rintro e w1 ⟨rfl, rfl⟩
  refine hK.out _ _ hB1 (fun hHeld2 => ?_)
  clear hK K hHeld
  have hHeld := hHeld2
  clear hHeld2
  try simp only [Act.put, List.setIfInBounds_toArray, List.set_cons_zero, List.set_cons_succ]
  refine reg_tk (v := ?_) 19 4 rfl rfl (by kernel_rfl) (by kernel_rfl) (by kernel_rfl) (fun _ _ _ h => h) (by rfl) ?_ (by assumption) ?_
  rotate_left
  · (intro w hSw; (try dsimp only at hSw); go_simp; (try with_reducible rfl))
  simp only [List.setIfInBounds_toArray, List.set_cons_zero, List.set_cons_succ]
  refine wpAnyH_done (by kernel_rfl) ?_ _
  refine NoPanic.normal ?_
  clear hHeld
  go_wp2_with fail
  go_ret
  exact ⟨rfl, Below.next HB.out hB1⟩
set_option maxHeartbeats 2000000 in
theorem rcmpr_any (v u : Value) (a b : Int) (l m : List Int) (w : World) (h : RdR w v a l) (hu : RdR w u b m) :
    Calls Try.prog 24 #[v, u] w fun e w' => e = .returned (.int .i64 (cmpR a l b m)) ∧ Below w.heap.size w w' := by
  obtain ⟨cv, rfl, hl⟩ := h
  obtain ⟨cu, rfl, hm⟩ := hu
  obtain ⟨a0, n0, rfl⟩ := hl.form
  obtain ⟨a1, n1, rfl⟩ := hm.form
  have hmx := hl.2.1
  have hmy := hm.2.1
  unfold maxLen at hmx hmy
  obtain ⟨N, hN⟩ : ∃ N, l.length = N := ⟨_, rfl⟩
  obtain ⟨M, hM⟩ : ∃ M, m.length = M := ⟨_, rfl⟩
  rw [hN] at hl hmx ⊢
  rw [hM] at hm hmy ⊢
  obtain ⟨W, hW⟩ : ∃ W : World, W = (w.alloc (.cells #[.slice a0 N n0, .int .i64 a] 27)).alloc (.cells #[.slice a1 M n1, .int .i64 b] 27) := ⟨_, rfl⟩
  have hB0 : Below w.heap.size w W := by rw [hW]; exact (by repeat (first | assumption | exact Below.refl _ _ | apply Below.al | apply below_drewN | apply Below.drew | refine Below.next ?_ (by assumption)))
  have HA : Hid (BoxN W w.heap.size 27 #[.slice a0 N n0, .int .i64 a]) := Lib.hid (by rw [hW]; exact (BoxN.new w _ _).below (by repeat (first | assumption | exact Below.refl _ _ | apply Below.al | apply below_drewN | apply Below.drew | refine Below.next ?_ (by assumption))))
  have HBb : Hid (BoxN W (w.heap.size + 1) 27 #[.slice a1 M n1, .int .i64 b]) := Lib.hid (by
    rw [hW]
    have := BoxN.new (w.alloc (.cells #[.slice a0 N n0, .int .i64 a] 27)) 27 #[.slice a1 M n1, .int .i64 b]
    simpa using this)
  have HL : Hid (RdI .i64 W (.slice a0 N n0) l) := Lib.hid (hl.keep hB0)
  have HM : Hid (RdI .i64 W (.slice a1 M n1) m) := Lib.hid (hm.keep hB0)
  have HB := Lib.hid hB0
  have HN := Lib.hid hN
  have HMn := Lib.hid hM
  have x0 : W.cell? ⟨w.heap.size, 0, none⟩ = some (.slice a0 N n0) := HA.out.cell 0
  have x1 : W.cell? ⟨w.heap.size, 1, none⟩ = some (.int .i64 a) := HA.out.cell 1
  have y0 : W.cell? ⟨w.heap.size + 1, 0, none⟩ = some (.slice a1 M n1) := HBb.out.cell 0
  have y1 : W.cell? ⟨w.heap.size + 1, 1, none⟩ = some (.int .i64 b) := HBb.out.cell 1
  clear hl hm hB0 hN hM
  obtain ⟨g, hg⟩ : ∃ g, cmpR a l b m = g := ⟨_, rfl⟩
  rw [hg]
  unfold cmpR at hg
  rw [HN.out, HMn.out] at hg
  have HG := Lib.hid hg
  clear hg
  go_enter Try.func24, Try.ntmps24
  go_upto_region 1 with fail
  rw [← hW]
  clear hW
  by_cases h1 : a < b
  · have hg := HG.out
    rw [if_pos h1] at hg
    subst hg
    have e1 : (a != b) = true := by simp; omega
    have e2 : decide (a < b) = true := yb h1
    clear h1
    go_wp2_with fail
    go_ret
    exact ⟨rfl, HB.out⟩
  · have hg := HG.out
    rw [if_neg h1] at hg
    by_cases h2 : b < a
    · rw [if_pos h2] at hg
      subst hg
      have e1 : (a != b) = true := by simp; omega
      have e2 : decide (a < b) = false := nb h1
      clear h1 h2
      go_wp2_with fail
      go_ret
      exact ⟨rfl, HB.out⟩
    · rw [if_neg h2] at hg
      have e1 : (a != b) = false := by simp; omega
      clear h1 h2
      by_cases h3 : N < M
      · rw [if_pos h3] at hg
        subst hg
        have e3 : decide ((N : Int) < (M : Int)) = true := yb (by omega)
        have f3 : decide (N < M) = true := yb (by omega)
        clear h3
        go_wp2_with fail
        go_ret
        exact ⟨rfl, HB.out⟩
      · rw [if_neg h3] at hg
        have e3 : decide ((N : Int) < (M : Int)) = false := nb (by omega)
        have f3 : decide (N < M) = false := nb (by omega)
        by_cases h4 : M < N
        · rw [if_pos h4] at hg
          subst hg
          have e4 : decide ((N : Int) > (M : Int)) = true := yb (by omega)
          have f4 : decide (N > M) = true := yb (by omega)
          clear h3 h4
          go_wp2_with fail
          go_ret
          exact ⟨rfl, HB.out⟩
        · rw [if_neg h4] at hg
          obtain rfl : N = M := by omega
          have e4 : decide ((N : Int) > (N : Int)) = false := nb (by omega)
          have f4 : decide (N > N) = false := nb (by omega)
          have e5 : decide ((N : Int) < (N : Int)) = false := nb (by omega)
          have f5 : decide (N < N) = false := nb (by omega)
          have HF : Hid (lexI (l.drop 0) (m.drop 0) = g) := Lib.hid hg
          clear h3 h4 hg HG
          go_wp2_with fail
          go_loopw [5] (fun i wr => ∃ k : Nat, k ≤ N ∧ i = .int .i64 k ∧ Below W.heap.size W wr ∧ lexI (l.drop k) (m.drop k) = g) (fun i _ => N - (intOf i).toNat)
          case atStart => exact ⟨0, Nat.zero_le _, rfl, Below.refl _ _, HF.out⟩
          case round =>
            clear HF
            obtain ⟨k, hkN, rfl, hbr, hs⟩ := hrel
            have x0 := cell_later hbr x0
            have y0 := cell_later hbr y0
            have HBR := Lib.hid hbr
            by_cases hlt : k < N
            · have d2 : decide ((k : Int) < (N : Int)) = true := yb (by omega)
              obtain ⟨b1, o1, rfl, hc1, g0⟩ := RdI.at (HL.out.keep hbr) HN.out k hlt
              obtain ⟨b2, o2, rfl, hc2, f0⟩ := RdI.at (HM.out.keep hbr) HMn.out k hlt
              have n1 : (0 : Int) ≤ (k : Int) := by omega
              have n2 : (k : Int) < (N : Int) := by omega
              have hwk : IntKind.i64.wrap (k : Int) = (k : Int) := IntWalk.i64_in _ (by omega)
              have hwk1 : IntKind.i64.wrap ((k : Int) + 1) = (k : Int) + 1 := IntWalk.i64_in _ (by omega)
              rw [drop_at (l := l) (by rw [HN.out]; exact hlt), drop_at (l := m) (by rw [HMn.out]; exact hlt)] at hs
              obtain ⟨x, HX⟩ : ∃ y, Hid (l.getD k 0 = y) := ⟨_, rfl⟩
              obtain ⟨y, HY⟩ : ∃ y, Hid (m.getD k 0 = y) := ⟨_, rfl⟩
              rw [HX.out] at g0 hs
              rw [HY.out] at f0 hs
              simp only [lexI] at hs
              have hdr := Lib.hid (Below.drew hbr)
              by_cases h1 : x < y
              · rw [if_pos h1] at hs
                subst hs
                have e6 : decide (x < y) = true := yb h1
                clear h1
                go_upto_region 12 with fail
                go_quiet (fail)
                go_upto_region 13 with fail
                refine wp_drewN ?_
                intro wS hSw
                go_wp2_with fail
                go_ret
                exact ⟨rfl, Below.next HB.out (hbr.trans (hSw.mono hbr.size))⟩
              · rw [if_neg h1] at hs
                have e6 : decide (x < y) = false := nb h1
                by_cases h2 : y < x
                · rw [if_pos h2] at hs
                  subst hs
                  have e7 : decide (x > y) = true := yb h2
                  clear h1 h2
                  go_upto_region 12 with fail
                  go_quiet (fail)
                  go_upto_region 14 with fail
                  refine wp_drewN ?_
                  intro wS hSw
                  have hbr2 := Below.next hbr hSw
                  have x0 := cell_later hSw x0
                  have y0 := cell_later hSw y0
                  have g0 := cell_later hSw g0
                  have f0 := cell_later hSw f0
                  clear hSw
                  go_quiet (fail)
                  go_upto_region 15 with fail
                  refine wp_drewN ?_
                  intro wT hTw
                  have hbr3 := Below.next hbr2 hTw
                  go_wp2_with fail
                  go_ret
                  exact ⟨rfl, Below.next HB.out hbr3⟩
                · rw [if_neg h2] at hs
                  have e7 : decide (x > y) = false := nb h2
                  have HS := Lib.hid hs
                  clear h1 h2 hs
                  go_upto_region 12 with fail
                  go_quiet (fail)
                  go_upto_region 14 with fail
                  refine wp_drewN ?_
                  intro wS hSw
                  have hbr2 := Below.next hbr hSw
                  have x0 := cell_later hSw x0
                  have y0 := cell_later hSw y0
                  have g0 := cell_later hSw g0
                  have f0 := cell_later hSw f0
                  clear hSw
                  go_quiet (fail)
                  go_upto_region 11 with fail
                  refine wp_drewN ?_
                  intro wT hTw
                  have hbr3 := Below.next hbr2 hTw
                  go_wp2_with fail
                  go_roundw
                  case rel => exact ⟨k + 1, by omega, by go_num, hbr3, HS.out⟩
                  case measure => simp [intOf]; omega
            · obtain rfl : k = N := by omega
              rw [List.drop_eq_nil_of_le (show l.length ≤ k by rw [HN.out]; exact Nat.le_refl _)] at hs
              simp only [lexI] at hs
              subst hs
              go_wp2_with fail
              go_ret
              exact ⟨rfl, Below.next HB.out hbr⟩
end Go.Proofs.Ytgmfifilgbbogaa
